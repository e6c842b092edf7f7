/- Opcode: value.Types of letters · Opcode: what an instruction takes and leaves: plain; Letter; Effect's closure · Opcode: Effect · Opcode: Effect, where it is fixed · Opcode: Ends, Goes; what effects are (no program). -/
import Derived.ArgAppend
import Derived.Below
import Derived.BigQuiet
import Derived.Deep.AppendLies
import Derived.Deep.CutBlock
import Derived.Deep.DeepCutAuto
import Derived.Deep.Draws
import Derived.Deep.LoopGhost
import Derived.Deep.OwnRows
import Derived.Deep.QuietTactic
import Derived.Deep.RegionHeld3
import Derived.KernelRfl
import Derived.Laws.BitsLemmas
import Derived.Laws.BytesArg
import Derived.Laws.IdiomCopy
import Derived.Laws.MakeOwn
import Derived.Laws.OwnMore
import Derived.Laws.RangeAny
import Derived.Laws.Rows
import Derived.Laws.Slices
import Derived.Laws.StructEq
import Derived.Lib.AppendStr
import Derived.Lib.ConvBytes
import Derived.Lib.OthersKept
import Derived.Lib.Replace
import Derived.Maps.AppendAt
import Derived.OrdersHeld
import Derived.OwnWalk
import Derived.RowKit
import Derived.RowKit3
import Derived.Tactics
import Derived.Test.YtamagdnlicnefaaGreatDoorProg
import Derived.WalkKit
import Derived.WalkSpells
import Derived.WideLaws
import Derived.Test.YtamagdnlicnefaaGreatDoorKnQd
import Derived.Test.YtamagdnlicnefaaGreatDoorKnSc
import Derived.Test.YtamagdnlicnefaaGreatDoorKnW
namespace Go.Proofs.YtamagdnlicnefaaGreatDoor.PRef
end Go.Proofs.YtamagdnlicnefaaGreatDoor.PRef
namespace Go.Proofs.YtamagdnlicnefaaGreatDoor
open Go.RowKit Go.Shelf Go.Proofs.YtamagdnlicnefaaGreatDoorW.PrintWords Go.Proofs.YtamagdnlicnefaaGreatDoorW.PrintLast Go.Proofs.YtamagdnlicnefaaGreatDoorW.PrintMore

theorem info3 : (Tryz.prog.info? 3).map (fun i => (i.zero, i.size, i.bytes)) = some (some (.int .i64 0), 1, 8) := by kernel_rfl
theorem cell_one_at (W : World) (v : Value) (t : TypeId) {i : Nat} (h : i = W.heap.size) : ∀ j u, [v][j]? = some u → (W.alloc (.cells #[v] t)).cell? ((⟨i, 0, none⟩ : Addr).add j) = some u := by subst h; exact cell_one_new _ _ _
def knownT (t : Int) : Bool := decide (1 ≤ t) && decide (t < 5)
theorem known_any (t : Int) (r : Bool) (hr : r = knownT t) (w : World) : Calls Tryz.prog 10 #[.int .i64 t] w fun e w' => e = .returned (.bool r) ∧ ∃ n, w' = w.drewN n := by
  subst hr
  by_cases h0 : 1 ≤ t
  · by_cases h1 : t < 5
    · have HK : Hid (knownT t = true) := Lib.hid (by simp [knownT, h0, h1])
      go_enter Tryz.func10, Tryz.ntmps10
      go_wp2
      go_ret
      exact ⟨by rw [HK.out]; rfl, 0, rfl⟩
    · have HK : Hid (knownT t = false) := Lib.hid (by simp [knownT, h1])
      have h2 : decide (t < 5) = false := by simp; omega
      clear h1
      go_enter Tryz.func10, Tryz.ntmps10
      go_wp2
      go_ret
      exact ⟨by rw [HK.out]; rfl, 0, rfl⟩
  · have HK : Hid (knownT t = false) := Lib.hid (by simp [knownT, h0])
    have h2 : decide (1 ≤ t) = false := by simp; omega
    clear h0
    go_enter Tryz.func10, Tryz.ntmps10
    go_wp2
    go_ret
    exact ⟨by rw [HK.out]; rfl, 0, rfl⟩
theorem idx_high (M : Nat) (h : 128 ≤ M) (h2 : M < 256) (l : List UInt8) (hl : ∀ x ∈ l, x.toNat < 128) : Lib.indexByte l (UInt8.ofNat M) = -1 := by
  induction l with
  | nil => rfl
  | cons b l ih =>
    have hb := hl b (by simp)
    have e : (b == UInt8.ofNat M) = false := by
      rw [beq_eq_false_iff_ne]
      intro e
      rw [e] at hb
      simp at hb
      omega
    have := ih (fun x hx => hl x (by simp [hx]))
    simp [Lib.indexByte, e, this]
def ltT (b : UInt8) : Int := Lib.indexByte [32, 73, 82, 70, 80] b
def ltB (b : UInt8) : Bool := knownT (ltT b)
def tyL (l : List UInt8) : List Int := l.map ltT
theorem ltB_high (b : UInt8) (h : 128 ≤ b.toNat) : ltB b = false := by
  unfold ltB ltT
  have e : b = UInt8.ofNat b.toNat := by simp
  rw [e, idx_high b.toNat h b.toNat_lt _ (by decide)]
  rfl
theorem take_snoc (s : ByteArray) (k : Nat) (h : k < s.size) : s.data.toList.take (k + 1) = s.data.toList.take k ++ [s[k]] := by
  rw [List.take_succ_eq_append_getElem (by simpa using h)]; rfl
theorem own_no_iter {w : World} {B : Nat} {e : TypeId} {size n : Nat} {v : Value} {xs : List Value} {k : Nat} {s : ByteArray} {pos : Nat} (h : w.ownsRow B e size v n xs) (hk : w.heap[k]? = some (.stringIter s pos)) : some k ≠ v.ownBlock := by
  intro e'
  rcases h.2 with ⟨rfl, _⟩ | ⟨g, cap, cur, rfl, _, hg, _⟩
  · simp [Value.ownBlock] at e'
  · obtain rfl : k = g := by simpa [Value.ownBlock] using e'
    rw [hk] at hg; cases hg
theorem own_iter {w : World} {B : Nat} {e : TypeId} {size n : Nat} {v : Value} {xs : List Value} {k : Nat} {s : ByteArray} {pos : Nat} (h : w.ownsRow B e size v n xs) (hk : w.heap[k]? = some (.stringIter s pos)) (p' : Nat) : (w.iterAt k s p').ownsRow B e size v n xs :=
  own_move h (fun j hj => Lib.iterAt_other w k j s p' (fun e' => own_no_iter h hk (by rw [← e', hj])))
set_option maxRecDepth 100000 in
set_option maxHeartbeats 2000000 in
theorem Types48_ok (w : World) (s : ByteArray) (hs : s.size ≤ 1000) (hall0 : s.data.toList.all ltB = true) :
    Calls Tryz.prog 34 #[.string s] w fun e w' => ∃ u, e = .returned (.tuple #[u, .int .i64 0]) ∧ w'.ownsRow w.heap.size 3 1 u s.size (nums .i64 (tyL s.data.toList)) ∧ Below w.heap.size w w' := by
  have HALL : Hid (∀ k (h : k < s.size), ltB (s[k]'h) = true) := Lib.hid (fun k h => List.all_eq_true.1 hall0 _ (by rw [show s[k] = s.data.toList[k]'(by simpa using h) from rfl]; exact List.getElem_mem _))
  clear hall0
  obtain ⟨i0, hi0, hz0, hz1, hz2⟩ := info_parts info3
  go_enter Tryz.func34, Tryz.ntmps34
  go_wp2
  go_loopw [4] (fun p wr => ∃ k : Nat, k ≤ s.size ∧ (s.data.toList.take k).all ltB = true ∧ wr.heap[w.heap.size]? = some (.stringIter s k) ∧ wr.ownsRow w.heap.size 3 1 p k (nums .i64 (tyL (s.data.toList.take k))) ∧ Below w.heap.size w wr) (fun _ wr => s.size - wr.iterPos w.heap.size)
  case atStart => exact ⟨0, by omega, rfl, World.iter_heap w s 0, World.ownsRow_nil _ _ _ _, below_alloc (Below.refl _ _) _⟩
  case round =>
    obtain ⟨k, hk, hall, hit, hown, hbw⟩ := hrel
    by_cases hp : k < s.size
    · have hb := HALL.out k hp
      have ha : (s[k]'hp).toNat < 128 := by
        rcases Nat.lt_or_ge (s[k]'hp).toNat 128 with h | h
        · exact h
        · rw [ltB_high _ h] at hb; cases hb
      have hnx : ∀ ty, (Instr.next (.pointer (some ⟨w.heap.size, 0, none⟩)) true ty).run Tryz.prog wr = _ := fun ty => Lib.run_next_ascii_at wr w.heap.size s k ty hit hp ha
      have hit2 := Lib.iterAt_heap wr w.heap.size s k (k + 1) hit
      have hown2 := own_iter hown hit (k + 1)
      have hbw2 := Lib.below_iterAt hbw (k := w.heap.size) (by omega) s (k + 1)
      have hix : ∀ W, Calls Tryz.prog 56 #[.string ⟨#[32, 73, 82, 70, 80]⟩, .int .i32 (((s[k]'hp).toNat : Nat) : Int)] W fun e w' => e = .returned (.int .i64 (ltT (s[k]'hp))) ∧ w' = W := fun W => by
        have := Tryz.strings_IndexRune_ascii ⟨#[32, 73, 82, 70, 80]⟩ (((s[k]'hp).toNat : Nat) : Int) W (by omega) (by omega)
        simpa [ltT] using this
      have HIT2 := Lib.hid hit2
      have HOWN2 := Lib.hid hown2
      have HBW2 := Lib.hid hbw2
      have HIT := Lib.hid hit
      have HIX := Lib.hid hix
      generalize hW : wr.iterAt w.heap.size s (k + 1) = W2 at *
      have HKn := Lib.hid (known_any (ltT (s[k]'hp)) true hb.symm)
      have HBt := Lib.hid hb
      have HAL := Lib.hid hall
      obtain ⟨A1, c1, rfl⟩ := own_slice HOWN2.out
      clear hit hit2 hown hown2 hbw hbw2 hW hix hb ha hall
      go_wp2_with (first | (go_at_call 56; refine (HIX.out _).mono ?_; rintro e w3 ⟨rfl, rfl⟩) | (go_at_call 10; refine (HKn.out _).mono ?_; rintro e w3 ⟨rfl, mk, hmk⟩; have HB3 := Lib.hid (hmk ▸ pw_below_drewN HBW2.out mk); have HO3 := Lib.hid (show w3.ownsRow w.heap.size 3 1 (.slice A1 k c1) k (nums .i64 (tyL (s.data.toList.take k))) by rw [hmk]; exact HOWN2.out); have HI3 := Lib.hid (show w3.heap[w.heap.size]? = some (.stringIter s (k + 1)) by rw [hmk]; exact HIT2.out); clear hmk) | (at_builtin; refine wpList_append_own _ rfl _ _ 25 rfl w.heap.size 3 i0 (.int .i64 0) 1 8 Tryz.underlying25 hi0 hz0 hz1 hz2 rfl (by decide) _ _ _ rfl (HO3.out.alloc _) ⟨w3.heap.size, 0, none⟩ 1 1 [.int .i64 (ltT (s[k]'hp))] rfl rfl (cell_one_at _ _ _ rfl) (by simp [Value.oneCell']) (by unfold maxLen; omega) (by omega) (by have := HB3.out.size; simp; omega) ?_; intro o2 w4 hown4 hg4 _; have HO4 := Lib.hid hown4; have HG4 := Lib.hid hg4; clear hown4 hg4))
      go_roundw
      case rel =>
        have hsz3 := blk_lt HI3.out
        have hit4 : w4.heap[w.heap.size]? = some (.stringIter s (k + 1)) := (HG4.out.block _ (by simp; omega) (own_no_iter HO3.out HI3.out)).trans ((Below.heap_alloc _ _ _ hsz3).trans HI3.out)
        refine ⟨k + 1, by omega, ?_, hit4, ?_, ?_⟩
        · rw [take_snoc s k hp, List.all_append, HAL.out]; simp [HBt.out]
        · rw [take_snoc s k hp]
          unfold tyL
          rw [List.map_append, nums_append]
          exact HO4.out
        · have hbA := below_then HB3.out (Nat.le_trans (by omega) HB3.out.size) (below_alloc (Below.refl _ w3) (.cells #[.int .i64 (ltT (s[k]'hp))] 3))
          exact hbA.grown HG4.out hbA.size (fun j hj => own_base HO3.out j hj)
      case measure =>
        have hsz3 := blk_lt HI3.out
        have hit4 : w4.heap[w.heap.size]? = some (.stringIter s (k + 1)) := (HG4.out.block _ (by simp; omega) (own_no_iter HO3.out HI3.out)).trans ((Below.heap_alloc _ _ _ hsz3).trans HI3.out)
        simp only [World.iterPos, hit4, HIT.out]; omega
    · obtain rfl : k = s.size := by omega
      have hnx : ∀ ty, (Instr.next (.pointer (some ⟨w.heap.size, 0, none⟩)) true ty).run Tryz.prog wr = _ := fun ty => Lib.run_next_end_at wr w.heap.size s _ ty hit hp
      obtain ⟨A2, c2, rfl⟩ := own_slice hown
      have e1 : s.data.toList.take s.size = s.data.toList := List.take_of_length_le (by simp)
      rw [e1] at hall hown
      have hl : s.size ≤ 1024 := by omega
      have hl' : ¬ (1024 : Int) < (s.size : Int) := by omega
      have HOWN := Lib.hid hown
      clear hown hall hl
      go_wp2
      go_ret2
      exact ⟨_, rfl, HOWN.out, hbw⟩
end Go.Proofs.YtamagdnlicnefaaGreatDoor
namespace Go.Proofs.YtamagdnlicnefaaGreatDoor
open Go.RowKit Go.Shelf Go.Proofs.YtamagdnlicnefaaGreatDoorW.PrintWords Go.Proofs.YtamagdnlicnefaaGreatDoorW.PrintLast Go.Proofs.YtamagdnlicnefaaGreatDoorW.PrintMore

def letterA (t : Int) : List UInt8 := if 1 ≤ t ∧ t ≤ 4 then letterL t else []
theorem Letter36_any (t : Int) (w : World) : Calls Tryz.prog 36 #[.int .i64 t] w fun e w' => e = .returned (.string ⟨(letterA t).toArray⟩) ∧ Below w.heap.size w w' := by
  by_cases h : 1 ≤ t ∧ t ≤ 4
  · have e : letterA t = letterL t := if_pos h
    rw [e]
    exact Letter44_in t w h.1 h.2
  · have e : letterA t = [] := if_neg h
    rw [e]
    have HK := Lib.hid (known_any t false (by unfold knownT; symm; simp; omega))
    clear h e
    go_enter Tryz.func36, Tryz.ntmps36
    go_wp2_with (go_at_call 10; (with_reducible refine (HK.out _).mono ?_); rintro e w1 ⟨rfl, mk, rfl⟩)
    go_ret
    exact ⟨rfl, pw_below_drewN (Below.refl _ _) _⟩
def effL (s : List UInt8) (last : Int) : List Int := s.map fun c => if c = 84 then last else ltT c
def takesL (k : Nat) : List UInt8 := (rowOf k).2.2.2.1
def leavesL (k : Nat) : List UInt8 := (rowOf k).2.2.2.2.1
def looseB (k : Nat) : Bool := (rowOf k).2.2.2.2.2
def halfL (b : Bool) (k : Nat) : List UInt8 := if b then takesL k else leavesL k
theorem half_T : ∀ k : Fin 30, ∀ b : Bool, ∀ t : Fin 4, (Lib.replaceAll (halfL b k.val) [84] (letterL ((t.val : Int) + 1))).all ltB = true ∧ tyL (Lib.replaceAll (halfL b k.val) [84] (letterL ((t.val : Int) + 1))) = effL (halfL b k.val) ((t.val : Int) + 1) := by decide +kernel
theorem half_0 : ∀ k : Fin 30, ∀ b : Bool, (halfL b k.val).contains 84 = false → (halfL b k.val).all ltB = true ∧ ∀ c ∈ halfL b k.val, c ≠ 84 := by decide +kernel
theorem half_len : ∀ k : Fin 30, ∀ b : Bool, (halfL b k.val).length ≤ 2 := by decide +kernel
theorem replace_0 (s new : List UInt8) (h : ∀ c ∈ s, c ≠ 84) : Lib.replaceAll s [84] new = s := by
  have hc : Lib.count s [84] = 0 := Lib.count_miss (index_not 84 s h)
  unfold Lib.replaceAll Lib.replace
  split
  · rfl
  · have : Lib.replaceNum s [84] (-1) = 0 := by unfold Lib.replaceNum; simp [hc]
    rw [this]
    rfl
theorem half_is {k : Nat} (hk : k < 30) (b : Bool) {last : Int} (hl : (halfL b k).contains 84 = true → 1 ≤ last ∧ last ≤ 4) : (Lib.replaceAll (halfL b k) [84] (letterA last)).all ltB = true ∧ tyL (Lib.replaceAll (halfL b k) [84] (letterA last)) = effL (halfL b k) last := by
  cases hc : (halfL b k).contains 84
  · obtain ⟨h1, h2⟩ := half_0 ⟨k, hk⟩ b hc
    rw [replace_0 _ _ h2]
    refine ⟨h1, ?_⟩
    unfold tyL effL
    apply List.map_congr_left
    intro c hcm
    rw [if_neg (h2 c hcm)]
  · obtain ⟨h1, h2⟩ := hl hc
    have e : letterA last = letterL last := if_pos ⟨h1, h2⟩
    rw [e]
    obtain ⟨t, rfl⟩ : ∃ t : Nat, last = (t : Int) + 1 := ⟨(last - 1).toNat, by omega⟩
    exact half_T ⟨k, hk⟩ b ⟨t, by omega⟩
theorem letterA_le (t : Int) : (letterA t).length ≤ 1 := by
  unfold letterA letterL
  split
  · split
    · decide
    · split
      · decide
      · split <;> decide
  · decide
set_option maxHeartbeats 1000000 in
theorem Effect33_any (k : Nat) (b : Bool) (hk : k < 30) (g : Nat) (last : Int) (w : World) (hl : (halfL b k).contains 84 = true → 1 ≤ last ∧ last ≤ 4) (hm : ∃ m, w.cell? ⟨0, 0, none⟩ = some (.int .i64 m)) (hg : w.heap[g]? = some (.cells #[.int .i64 last] 2 (0, 0))) :
    Calls Tryz.prog 33 #[.string ⟨(halfL b k).toArray⟩, .pointer (some ⟨g, 0, none⟩)] w fun e w' => ∃ u, e = .returned u ∧ w'.ownsRow w.heap.size 3 1 u (effL (halfL b k) last).length (nums .i64 (effL (halfL b k) last)) ∧ Below w.heap.size w w' := by
  obtain ⟨h1, h2⟩ := half_is hk b hl
  have hlen := half_len ⟨k, hk⟩ b
  simp only at hlen
  have hla := letterA_le last
  have HM := Lib.hid hm
  have c0 := blk_cell hg 0
  simp only [List.getElem?_toArray, List.getElem?_cons_zero] at c0
  generalize halfL b k = s at *
  have HR : Hid (∀ W, Below w.heap.size w W → Calls Tryz.prog 35 #[.string ⟨s.toArray⟩, .string ⟨#[84]⟩, .string ⟨(letterA last).toArray⟩] W fun e w' => e = .returned (.string ⟨(Lib.replaceAll s [84] (letterA last)).toArray⟩) ∧ Below W.heap.size W w') := Lib.hid (fun W hW => by
    obtain ⟨m, hm⟩ := HM.out
    have := Tryz.strings_ReplaceAll ⟨s.toArray⟩ ⟨#[84]⟩ ⟨(letterA last).toArray⟩ m W (by show s.toArray.size < _; rw [List.size_toArray]; omega) (pw_cell_below hW hm) (by decide) (by
      have hc := Lib.countB_le ⟨#[84]⟩ (by decide) _ ⟨s.toArray⟩ (Nat.le_refl _)
      have e1 : (⟨s.toArray⟩ : ByteArray).size = s.length := List.size_toArray ..
      have e2 : (⟨(letterA last).toArray⟩ : ByteArray).size = (letterA last).length := List.size_toArray ..
      rw [e1] at hc ⊢
      rw [e2]
      have : Lib.countB ⟨s.toArray⟩ ⟨#[84]⟩ * (letterA last).length ≤ 2 * 1 := Nat.mul_le_mul (by omega) hla
      omega)
    exact this)
  have HL := Lib.hid (Letter36_any last)
  have HS : Hid (effL s last = tyL (Lib.replaceAll s [84] (letterA last))) := Lib.hid h2.symm
  have hsz : (Lib.replaceAll s [84] (letterA last)).length ≤ 2 := by
    have := congrArg List.length h2
    simp only [tyL, effL, List.length_map] at this
    omega
  generalize letterA last = la at *
  generalize Lib.replaceAll s [84] la = rs at *
  have HT := Lib.hid (fun W => Types48_ok W ⟨rs.toArray⟩ (by show rs.toArray.size ≤ _; rw [List.size_toArray]; omega) (by simpa using h1))
  rw [HS.out]
  clear h1 h2 hlen hla hm hg HM HS hsz hl
  have hsz : (⟨rs.toArray⟩ : ByteArray).size = (tyL rs).length := by show rs.toArray.size = _; rw [List.size_toArray]; simp [tyL]
  have HZ := Lib.hid hsz
  clear hsz
  have HB := Lib.hid (Below.refl w.heap.size w)
  go_enter Tryz.func33, Tryz.ntmps33
  go_wp2_with (first
    | (go_at_call 36; (with_reducible refine (HL.out _).mono ?_); rintro e w1 ⟨rfl, hb⟩; replace HB := Lib.hid (below_step HB.out hb); clear hb)
    | (go_at_call 35; (with_reducible refine (HR.out _ HB.out).mono ?_); rintro e w1 ⟨rfl, hb⟩; replace HB := Lib.hid (below_step HB.out hb); clear hb)
    | (go_at_call 34; (with_reducible refine (HT.out _).mono ?_); rintro e w1 ⟨u, rfl, hu, hb⟩; have HU := Lib.hid (own_weaken hu HB.out.size); replace HB := Lib.hid (below_step HB.out hb); clear hb hu))
  go_ret
  refine ⟨_, rfl, ?_, HB.out⟩
  have := HU.out
  rw [HZ.out] at this
  simpa using this
end Go.Proofs.YtamagdnlicnefaaGreatDoor
namespace Go.Proofs.YtamagdnlicnefaaGreatDoor
open Go.RowKit Go.Shelf Go.Proofs.YtamagdnlicnefaaGreatDoorW.PrintWords Go.Proofs.YtamagdnlicnefaaGreatDoorW.PrintLast Go.Proofs.YtamagdnlicnefaaGreatDoorW.PrintMore

def fixB (op a b : Int) : Bool := okB op a b && !looseB op.toNat
def lastI (op a b : Int) : Int := if kb op ≠ 0 then b else a
def effT (h : Bool) (op a b : Int) : List Int := if fixB op a b = true then effL (halfL h op.toNat) (lastI op a b) else []
def EffPost (w : World) (op a b : Int) (e : Ending) (w' : World) : Prop := ∃ u v, e = .returned (.tuple #[u, v, .bool (fixB op a b)]) ∧ w'.ownsRow w.heap.size 3 1 u (effT true op a b).length (nums .i64 (effT true op a b)) ∧ w'.ownsRow w.heap.size 3 1 v (effT false op a b).length (nums .i64 (effT false op a b)) ∧ Below w.heap.size w w'
theorem EffPost.none {w w' : World} {op a b : Int} (h : fixB op a b = false) (hb : Below w.heap.size w w') : EffPost w op a b (.returned (.tuple #[.slice none 0 0, .slice none 0 0, .bool false])) w' := by
  have e : ∀ x, effT x op a b = [] := fun x => by unfold effT; rw [if_neg (by rw [h]; decide)]
  refine ⟨_, _, by rw [h], ?_, ?_, hb⟩ <;> rw [e] <;> exact World.ownsRow_nil _ _ _ _
theorem field58_5 (s0 s3 s4 : ByteArray) (a b : Int) (c : Bool) (w : World) : (Instr.field 58 (.agg #[.string s0, .int .i64 a, .int .i64 b, .string s3, .string s4, .bool c]) 5).run Tryz.prog w = .ok (.bool c) w := by
  simp [Instr.field, run_underlying Tryz.underlying58, part, isAgg, asAgg, go_sem]
theorem set6 {W : World} {r : Nat} {t : TypeId} {x0 x1 x2 x3 x4 x5 u0 u1 u2 u3 u4 u5 : Value} (h : W.heap[r]? = some (.cells #[x0, x1, x2, x3, x4, x5] t (0, 0))) :
    ((((((W.setCell ⟨r, 0, none⟩ u0).setCell ⟨r, 1, none⟩ u1).setCell ⟨r, 2, none⟩ u2).setCell ⟨r, 3, none⟩ u3).setCell ⟨r, 4, none⟩ u4).setCell ⟨r, 5, none⟩ u5).heap[r]? = some (.cells #[u0, u1, u2, u3, u4, u5] t (0, 0)) ∧ Fr (fun i => i = r) W ((((((W.setCell ⟨r, 0, none⟩ u0).setCell ⟨r, 1, none⟩ u1).setCell ⟨r, 2, none⟩ u2).setCell ⟨r, 3, none⟩ u3).setCell ⟨r, 4, none⟩ u4).setCell ⟨r, 5, none⟩ u5) := by
  have hs := blk_set (blk_set (blk_set (blk_set (blk_set (blk_set h 0 u0) 1 u1) 2 u2) 3 u3) 4 u4) 5 u5
  refine ⟨by simpa using hs, ?_⟩
  refine Fr.set (S := fun i => i = r) (Fr.set (S := fun i => i = r) (Fr.set (S := fun i => i = r) (Fr.set (S := fun i => i = r) (Fr.set (S := fun i => i = r) (Fr.set (S := fun i => i = r) (Fr.refl _ _) _ _ (fun _ => rfl)) _ _ (fun _ => rfl)) _ _ (fun _ => rfl)) _ _ (fun _ => rfl)) _ _ (fun _ => rfl)) _ _ (fun _ => rfl)
set_option maxRecDepth 100000 in
set_option maxHeartbeats 4000000 in
theorem Effect_bad (op a b : Int) (w : World) (h : okB op a b = false) : Calls Tryz.prog 7 #[.agg #[.int .i64 op, .int .i64 a, .int .i64 b]] w (EffPost w op a b) := by
  have HC : Hid (∀ w, Calls Tryz.prog 8 #[.agg #[.int .i64 op, .int .i64 a, .int .i64 b]] w fun e w' => e = .returned (.int .i64 40) ∧ Below w.heap.size w w') := Lib.hid (fun w => by have := Check8_any op a b w; rw [h] at this; exact this)
  have HFX : Hid (fixB op a b = false) := Lib.hid (by unfold fixB; rw [h]; rfl)
  clear h
  have hB0 := below_alloc (Below.refl w.heap.size w) (.cells #[.int .i64 op, .int .i64 a, .int .i64 b] 23)
  have hx0 := World.alloc_heap_new w (.cells #[.int .i64 op, .int .i64 a, .int .i64 b] 23)
  have hz0 : (w.alloc (.cells #[.int .i64 op, .int .i64 a, .int .i64 b] 23)).heap.size = w.heap.size + 1 := by simp
  have HB0 := Lib.hid hB0
  have HX0 := Lib.hid hx0
  have HZ0 := Lib.hid hz0
  clear hB0 hx0 hz0
  go_enter Tryz.func7, Tryz.ntmps7
  go_wp2
  generalize w.alloc (.cells #[.int .i64 op, .int .i64 a, .int .i64 b] 23) = w0 at *
  have HQ : Hid (∀ W, Below w0.heap.size w0 W → W.cell? ⟨w.heap.size, 0, none⟩ = some (.int .i64 op) ∧ W.cell? ⟨w.heap.size, 1, none⟩ = some (.int .i64 a) ∧ W.cell? ⟨w.heap.size, 2, none⟩ = some (.int .i64 b)) := Lib.hid (fun W hW => by
    have h := (hW.block _ (blk_lt HX0.out)).trans HX0.out
    exact ⟨blk_cell h 0, blk_cell h 1, blk_cell h 2⟩)
  have HW : Hid (Below w0.heap.size w0 w0.drew) := Lib.hid (below_drew (Below.refl _ _))
  -- region 1: 10 operations: 0:load 1:call 2:binOp 3:move 4:call 5:fieldAddr 6:load 7:index 8:field 9:pick
  refine start_ (S := fun W' => W'.cell? ⟨w.heap.size, 0, none⟩ = some (.int .i64 op) ∧ W'.cell? ⟨w.heap.size, 1, none⟩ = some (.int .i64 a) ∧ W'.cell? ⟨w.heap.size, 2, none⟩ = some (.int .i64 b)) (ds := []) #[false, false, false, false, false, false, false, false, false, false] (by kernel_rfl) rfl rfl (HQ.out _ HW.out) (fun hHeld => ?_)
  refine take_ (i := 0) (N := some 8) (v := ?_) (a' := ?_) #[true, false, false, false, false, false, false, false, false, false] rfl rfl (by kernel_rfl) (fun _ _ _ h => h) (Or.inl ⟨by rfl, ?_⟩) hHeld ?_ ?_
  rotate_left
  · rintro w' ⟨h0, h1, h2⟩
    go_simp
    with_reducible rfl
  rotate_left
  · simp only [Act.put, List.setIfInBounds_toArray, List.set_cons_zero, List.set_cons_succ]
    rfl
  refine one_ (i := 1) (N := some 9) #[true, true, false, false, false, false, false, false, false, false] rfl rfl (by kernel_rfl) (by decide) (fun K hK => ?_)
  refine goes_ Tryz.func8 (by kernel_rfl) rfl #[.agg #[.int .i64 op, .int .i64 a, .int .i64 b]] (by rfl) rfl rfl (by simp only [List.map_toArray, List.map_cons, List.map_nil]; rfl) ?_
  with_reducible refine (HC.out _).mono ?_
  rintro e w_ ⟨rfl, hb_⟩
  refine ⟨_, rfl, ?_⟩
  have HW_ := Lib.hid (below_step HW.out hb_)
  clear HW
  have HW := HW_
  clear HW_ hb_
  refine hK.out _ _ (HQ.out _ HW.out) (fun hHeld => ?_)
  clear hK K
  refine norm_ (a' := ?_) ?_ ?_
  rotate_left
  · show Act.put _ (some 9) _ = _
    simp only [Act.put, List.setIfInBounds_toArray, List.set_cons_zero, List.set_cons_succ]
    rfl
  refine pure_ (i := 2) (N := some 10) (v := ?_) (a' := ?_) #[true, true, true, false, false, false, false, false, false, false] rfl rfl (by kernel_rfl) (fun _ _ _ h => h) (Or.inl ⟨by rfl, ?_⟩) ?_ ?_
  rotate_left
  · intro w'
    go_simp
    with_reducible rfl
  rotate_left
  · simp only [Act.put, List.setIfInBounds_toArray, List.set_cons_zero, List.set_cons_succ]
    rfl
  refine pure_ (i := 3) (N := some 11) (v := ?_) (a' := ?_) #[true, true, true, true, false, false, false, false, false, false] rfl rfl (by kernel_rfl) (fun _ _ _ h => h) (Or.inl ⟨by rfl, ?_⟩) ?_ ?_
  rotate_left
  · intro w'
    go_simp
    with_reducible rfl
  rotate_left
  · simp only [Act.put, List.setIfInBounds_toArray, List.set_cons_zero, List.set_cons_succ]
    rfl
  refine pure_ (i := 4) (N := some 12) (v := undef) (a' := ?_) #[true, true, true, true, true, false, false, false, false, false] rfl rfl (by kernel_rfl) (fun _ _ _ h => h) (Or.inr ⟨by rfl, rfl⟩) ?_ ?_
  rotate_left
  · simp only [Act.put, List.setIfInBounds_toArray, List.set_cons_zero, List.set_cons_succ]
    rfl
  refine pure_ (i := 5) (N := some 13) (v := undef) (a' := ?_) #[true, true, true, true, true, true, false, false, false, false] rfl rfl (by kernel_rfl) (fun _ _ _ h => h) (Or.inr ⟨by rfl, rfl⟩) ?_ ?_
  rotate_left
  · simp only [Act.put, List.setIfInBounds_toArray, List.set_cons_zero, List.set_cons_succ]
    rfl
  refine pure_ (i := 6) (N := some 14) (v := undef) (a' := ?_) #[true, true, true, true, true, true, true, false, false, false] rfl rfl (by kernel_rfl) (fun _ _ _ h => h) (Or.inr ⟨by rfl, rfl⟩) ?_ ?_
  rotate_left
  · simp only [Act.put, List.setIfInBounds_toArray, List.set_cons_zero, List.set_cons_succ]
    rfl
  refine pure_ (i := 7) (N := some 15) (v := undef) (a' := ?_) #[true, true, true, true, true, true, true, true, false, false] rfl rfl (by kernel_rfl) (fun _ _ _ h => h) (Or.inr ⟨by rfl, rfl⟩) ?_ ?_
  rotate_left
  · simp only [Act.put, List.setIfInBounds_toArray, List.set_cons_zero, List.set_cons_succ]
    rfl
  refine pure_ (i := 8) (N := some 16) (v := undef) (a' := ?_) #[true, true, true, true, true, true, true, true, true, false] rfl rfl (by kernel_rfl) (fun _ _ _ h => h) (Or.inr ⟨by rfl, rfl⟩) ?_ ?_
  rotate_left
  · simp only [Act.put, List.setIfInBounds_toArray, List.set_cons_zero, List.set_cons_succ]
    rfl
  refine pure_ (i := 9) (N := some 17) (v := ?_) (a' := ?_) #[true, true, true, true, true, true, true, true, true, true] rfl rfl (by kernel_rfl) (fun _ _ _ h => h) (Or.inl ⟨by rfl, ?_⟩) ?_ ?_
  rotate_left
  · intro w'
    go_simp
    with_reducible rfl
  rotate_left
  · simp only [Act.put, List.setIfInBounds_toArray, List.set_cons_zero, List.set_cons_succ]
    rfl
  refine done_ (by kernel_rfl) ?_
  go_wp2
  go_ret3
  exact EffPost.none HFX.out (HB0.out.trans (HW.out.mono (by rw [HZ0.out]; omega)))
set_option maxRecDepth 100000 in
set_option maxHeartbeats 4000000 in
theorem Effect_loose (op a b : Int) (w : World) (h : okB op a b = true) (hl : looseB op.toNat = true) : Calls Tryz.prog 7 #[.agg #[.int .i64 op, .int .i64 a, .int .i64 b]] w (EffPost w op a b) := by
  have HC : Hid (∀ w, Calls Tryz.prog 8 #[.agg #[.int .i64 op, .int .i64 a, .int .i64 b]] w fun e w' => e = .returned (.int .i64 0) ∧ Below w.heap.size w w') := Lib.hid (fun w => by have := Check8_any op a b w; rw [h] at this; exact this)
  have HFX : Hid (fixB op a b = false) := Lib.hid (by unfold fixB; rw [hl]; simp)
  obtain ⟨s0, n1, n2, s3, s4, hx⟩ : ∃ s0 n1 n2 s3 s4, ∀ w, (Instr.index 59 (.agg rowsC) (.int .i64 op)).run Tryz.prog w = .ok (.agg #[.string s0, .int .i64 n1, .int .i64 n2, .string s3, .string s4, .bool true]) w := by
    have h1 := ok_op h
    obtain ⟨k, rfl⟩ := Int.eq_ofNat_of_zero_le h1.1
    refine ⟨⟨(rowOf k).1.toArray⟩, (rowOf k).2.1, (rowOf k).2.2.1, ⟨(rowOf k).2.2.2.1.toArray⟩, ⟨(rowOf k).2.2.2.2.1.toArray⟩, fun w => ?_⟩
    rw [index93 k (by omega) w]
    have : rowV k = .agg #[.string ⟨(rowOf k).1.toArray⟩, .int .i64 (rowOf k).2.1, .int .i64 (rowOf k).2.2.1, .string ⟨(rowOf k).2.2.2.1.toArray⟩, .string ⟨(rowOf k).2.2.2.2.1.toArray⟩, .bool (rowOf k).2.2.2.2.2] := rfl
    rw [this]
    have hl' : (rowOf k).2.2.2.2.2 = true := hl
    rw [hl']
  have hy := field58_5
  clear h hl
  generalize hR : Value.agg rowsC = R at *
  have HR := Lib.hid hR
  clear hR
  have hB0 := below_alloc (Below.refl w.heap.size w) (.cells #[.int .i64 op, .int .i64 a, .int .i64 b] 23)
  have hx0 := World.alloc_heap_new w (.cells #[.int .i64 op, .int .i64 a, .int .i64 b] 23)
  have hz0 : (w.alloc (.cells #[.int .i64 op, .int .i64 a, .int .i64 b] 23)).heap.size = w.heap.size + 1 := by simp
  have HB0 := Lib.hid hB0
  have HX0 := Lib.hid hx0
  have HZ0 := Lib.hid hz0
  clear hB0 hx0 hz0
  go_enter Tryz.func7, Tryz.ntmps7
  go_wp2
  generalize w.alloc (.cells #[.int .i64 op, .int .i64 a, .int .i64 b] 23) = w0 at *
  have HQ : Hid (∀ W, Below w0.heap.size w0 W → W.cell? ⟨w.heap.size, 0, none⟩ = some (.int .i64 op) ∧ W.cell? ⟨w.heap.size, 1, none⟩ = some (.int .i64 a) ∧ W.cell? ⟨w.heap.size, 2, none⟩ = some (.int .i64 b)) := Lib.hid (fun W hW => by
    have h := (hW.block _ (blk_lt HX0.out)).trans HX0.out
    exact ⟨blk_cell h 0, blk_cell h 1, blk_cell h 2⟩)
  have HW : Hid (Below w0.heap.size w0 w0.drew) := Lib.hid (below_drew (Below.refl _ _))
  -- region 1: 10 operations: 0:load 1:call 2:binOp 3:move 4:call 5:fieldAddr 6:load 7:index 8:field 9:pick
  refine start_ (S := fun W' => W'.cell? ⟨w.heap.size, 0, none⟩ = some (.int .i64 op) ∧ W'.cell? ⟨w.heap.size, 1, none⟩ = some (.int .i64 a) ∧ W'.cell? ⟨w.heap.size, 2, none⟩ = some (.int .i64 b)) (ds := []) #[false, false, false, false, false, false, false, false, false, false] (by kernel_rfl) rfl rfl (HQ.out _ HW.out) (fun hHeld => ?_)
  refine take_ (i := 0) (N := some 8) (v := ?_) (a' := ?_) #[true, false, false, false, false, false, false, false, false, false] rfl rfl (by kernel_rfl) (fun _ _ _ h => h) (Or.inl ⟨by rfl, ?_⟩) hHeld ?_ ?_
  rotate_left
  · rintro w' ⟨h0, h1, h2⟩
    go_simp
    with_reducible rfl
  rotate_left
  · simp only [Act.put, List.setIfInBounds_toArray, List.set_cons_zero, List.set_cons_succ]
    rfl
  refine one_ (i := 1) (N := some 9) #[true, true, false, false, false, false, false, false, false, false] rfl rfl (by kernel_rfl) (by decide) (fun K hK => ?_)
  refine goes_ Tryz.func8 (by kernel_rfl) rfl #[.agg #[.int .i64 op, .int .i64 a, .int .i64 b]] (by rfl) rfl rfl (by simp only [List.map_toArray, List.map_cons, List.map_nil]; rfl) ?_
  with_reducible refine (HC.out _).mono ?_
  rintro e w_ ⟨rfl, hb_⟩
  refine ⟨_, rfl, ?_⟩
  have HW_ := Lib.hid (below_step HW.out hb_)
  clear HW
  have HW := HW_
  clear HW_ hb_
  refine hK.out _ _ (HQ.out _ HW.out) (fun hHeld => ?_)
  clear hK K
  refine norm_ (a' := ?_) ?_ ?_
  rotate_left
  · show Act.put _ (some 9) _ = _
    simp only [Act.put, List.setIfInBounds_toArray, List.set_cons_zero, List.set_cons_succ]
    rfl
  refine pure_ (i := 2) (N := some 10) (v := ?_) (a' := ?_) #[true, true, true, false, false, false, false, false, false, false] rfl rfl (by kernel_rfl) (fun _ _ _ h => h) (Or.inl ⟨by rfl, ?_⟩) ?_ ?_
  rotate_left
  · intro w'
    go_simp
    with_reducible rfl
  rotate_left
  · simp only [Act.put, List.setIfInBounds_toArray, List.set_cons_zero, List.set_cons_succ]
    rfl
  refine pure_ (i := 3) (N := some 11) (v := ?_) (a' := ?_) #[true, true, true, true, false, false, false, false, false, false] rfl rfl (by kernel_rfl) (fun _ _ _ h => h) (Or.inl ⟨by rfl, ?_⟩) ?_ ?_
  rotate_left
  · intro w'
    go_simp
    with_reducible rfl
  rotate_left
  · simp only [Act.put, List.setIfInBounds_toArray, List.set_cons_zero, List.set_cons_succ]
    rfl
  refine pure_ (i := 5) (N := some 13) (v := ?_) (a' := ?_) #[true, true, true, true, false, true, false, false, false, false] rfl rfl (by kernel_rfl) (fun _ _ _ h => h) (Or.inl ⟨by rfl, ?_⟩) ?_ ?_
  rotate_left
  · intro w'
    go_simp
    with_reducible rfl
  rotate_left
  · simp only [Act.put, List.setIfInBounds_toArray, List.set_cons_zero, List.set_cons_succ]
    rfl
  refine take_ (i := 6) (N := some 14) (v := ?_) (a' := ?_) #[true, true, true, true, false, true, true, false, false, false] rfl rfl (by kernel_rfl) (fun _ _ _ h => h) (Or.inl ⟨by rfl, ?_⟩) hHeld ?_ ?_
  rotate_left
  · rintro w' ⟨h0, h1, h2⟩
    go_simp
    with_reducible rfl
  rotate_left
  · simp only [Act.put, List.setIfInBounds_toArray, List.set_cons_zero, List.set_cons_succ]
    rfl
  refine one_ (i := 4) (N := some 12) #[true, true, true, true, true, true, true, false, false, false] rfl rfl (by kernel_rfl) (by decide) (fun K hK => ?_)
  refine goes_ Tryz.func32 (by kernel_rfl) rfl #[] (by rfl) rfl rfl (by simp only [List.map_toArray, List.map_nil]) ?_
  with_reducible refine (rows41_any _).mono ?_
  rintro e w_ ⟨rfl, hb_⟩
  rw [HR.out]
  refine ⟨_, rfl, ?_⟩
  have HW_ := Lib.hid (below_step HW.out hb_)
  clear HW
  have HW := HW_
  clear HW_ hb_
  refine hK.out _ _ (HQ.out _ HW.out) (fun hHeld => ?_)
  clear hK K
  refine norm_ (a' := ?_) ?_ ?_
  rotate_left
  · show Act.put _ (some 12) _ = _
    simp only [Act.put, List.setIfInBounds_toArray, List.set_cons_zero, List.set_cons_succ]
    rfl
  refine pure_ (i := 7) (N := some 15) (v := ?_) (a' := ?_) #[true, true, true, true, true, true, true, true, false, false] rfl rfl (by kernel_rfl) (fun _ _ _ h => h) (Or.inl ⟨by rfl, ?_⟩) ?_ ?_
  rotate_left
  · intro w'
    go_simp
    with_reducible rfl
  rotate_left
  · simp only [Act.put, List.setIfInBounds_toArray, List.set_cons_zero, List.set_cons_succ]
    rfl
  refine pure_ (i := 8) (N := some 16) (v := ?_) (a' := ?_) #[true, true, true, true, true, true, true, true, true, false] rfl rfl (by kernel_rfl) (fun _ _ _ h => h) (Or.inl ⟨by rfl, ?_⟩) ?_ ?_
  rotate_left
  · intro w'
    go_simp
    with_reducible rfl
  rotate_left
  · simp only [Act.put, List.setIfInBounds_toArray, List.set_cons_zero, List.set_cons_succ]
    rfl
  refine pure_ (i := 9) (N := some 17) (v := ?_) (a' := ?_) #[true, true, true, true, true, true, true, true, true, true] rfl rfl (by kernel_rfl) (fun _ _ _ h => h) (Or.inl ⟨by rfl, ?_⟩) ?_ ?_
  rotate_left
  · intro w'
    go_simp
    with_reducible rfl
  rotate_left
  · simp only [Act.put, List.setIfInBounds_toArray, List.set_cons_zero, List.set_cons_succ]
    rfl
  refine done_ (by kernel_rfl) ?_
  go_wp2
  go_ret3
  exact EffPost.none HFX.out (HB0.out.trans (HW.out.mono (by rw [HZ0.out]; omega)))
end Go.Proofs.YtamagdnlicnefaaGreatDoor
namespace Go.Proofs.YtamagdnlicnefaaGreatDoor
open Go.RowKit Go.Shelf Go.Proofs.YtamagdnlicnefaaGreatDoorW.PrintWords Go.Proofs.YtamagdnlicnefaaGreatDoorW.PrintLast Go.Proofs.YtamagdnlicnefaaGreatDoorW.PrintMore

theorem last_dec : ∀ k : Fin 30, ∀ h : Bool, (halfL h k.val).contains 84 = true → ((rowOf k.val).2.2.1 ≠ 0 → (rowOf k.val).2.2.1 = 3) ∧ ((rowOf k.val).2.2.1 = 0 → (rowOf k.val).2.1 = 2) := by decide +kernel
theorem ka_at {op : Int} (h0 : 0 ≤ op) (h1 : op < 30) : ka op = (rowOf op.toNat).2.1 := if_pos ⟨h0, h1⟩
theorem kb_at {op : Int} (h0 : 0 ≤ op) (h1 : op < 30) : kb op = (rowOf op.toNat).2.2.1 := if_pos ⟨h0, h1⟩
theorem last_in {op a b : Int} (h : okB op a b = true) (x : Bool) (hc : (halfL x op.toNat).contains 84 = true) : 1 ≤ lastI op a b ∧ lastI op a b ≤ 4 := by
  have h1 := ok_op h
  have h2 := last_dec ⟨op.toNat, by omega⟩ x hc
  simp only at h2
  rw [← ka_at h1.1 h1.2.1, ← kb_at h1.1 h1.2.1] at h2
  unfold lastI
  by_cases hk : kb op = 0
  · rw [if_neg (by omega)]
    have h3 := in_bounds h1.2.2.1
    rw [h2.2 hk] at h3
    exact h3
  · rw [if_pos hk]
    have h3 := in_bounds h1.2.2.2
    rw [h2.1 hk] at h3
    exact ⟨h3.1, Int.le_trans h3.2 (by decide)⟩
set_option maxRecDepth 100000 in
set_option maxHeartbeats 4000000 in
theorem Effect_fix (op a b : Int) (w : World) (h : okB op a b = true) (hl : looseB op.toNat = false) (hm : ∃ m, w.cell? ⟨0, 0, none⟩ = some (.int .i64 m)) : Calls Tryz.prog 7 #[.agg #[.int .i64 op, .int .i64 a, .int .i64 b]] w (EffPost w op a b) := by
  have HC : Hid (∀ w, Calls Tryz.prog 8 #[.agg #[.int .i64 op, .int .i64 a, .int .i64 b]] w fun e w' => e = .returned (.int .i64 0) ∧ Below w.heap.size w w') := Lib.hid (fun w => by have := Check8_any op a b w; rw [h] at this; exact this)
  have HFX : Hid (fixB op a b = true) := Lib.hid (by unfold fixB; rw [h, hl]; rfl)
  have HM := Lib.hid hm
  have HOK := Lib.hid h
  have hx : ∀ w, (Instr.index 59 (.agg rowsC) (.int .i64 op)).run Tryz.prog w = .ok (.agg #[.string ⟨(rowOf op.toNat).1.toArray⟩, .int .i64 (ka op), .int .i64 (kb op), .string ⟨(halfL true op.toNat).toArray⟩, .string ⟨(halfL false op.toNat).toArray⟩, .bool false]) w := by
    have h1 := ok_op h
    obtain ⟨k, rfl⟩ := Int.eq_ofNat_of_zero_le h1.1
    intro w
    rw [index93 k (by omega) w]
    have : rowV k = .agg #[.string ⟨(rowOf k).1.toArray⟩, .int .i64 (rowOf k).2.1, .int .i64 (rowOf k).2.2.1, .string ⟨(rowOf k).2.2.2.1.toArray⟩, .string ⟨(rowOf k).2.2.2.2.1.toArray⟩, .bool (rowOf k).2.2.2.2.2] := rfl
    rw [this]
    have hl' : (rowOf k).2.2.2.2.2 = false := hl
    have ha : ka (k : Int) = (rowOf k).2.1 := by unfold ka; rw [if_pos ⟨h1.1, h1.2.1⟩]; rfl
    have hb : kb (k : Int) = (rowOf k).2.2.1 := by unfold kb; rw [if_pos ⟨h1.1, h1.2.1⟩]; rfl
    rw [hl', ha, hb]
    rfl
  have hy := field58_5
  clear h hl hm
  obtain ⟨s0, hs0⟩ : ∃ s0, (⟨(rowOf op.toNat).1.toArray⟩ : ByteArray) = s0 := ⟨_, rfl⟩
  obtain ⟨s3, hs3⟩ : ∃ s3, (⟨(halfL true op.toNat).toArray⟩ : ByteArray) = s3 := ⟨_, rfl⟩
  obtain ⟨s4, hs4⟩ : ∃ s4, (⟨(halfL false op.toNat).toArray⟩ : ByteArray) = s4 := ⟨_, rfl⟩
  rw [hs0, hs3, hs4] at hx
  have HS3 := Lib.hid hs3
  have HS4 := Lib.hid hs4
  clear hs0 hs3 hs4
  generalize hR : Value.agg rowsC = R at *
  have HR := Lib.hid hR
  clear hR
  have hB0 := below_alloc (Below.refl w.heap.size w) (.cells #[.int .i64 op, .int .i64 a, .int .i64 b] 23)
  have hx0 := World.alloc_heap_new w (.cells #[.int .i64 op, .int .i64 a, .int .i64 b] 23)
  have hz0 : (w.alloc (.cells #[.int .i64 op, .int .i64 a, .int .i64 b] 23)).heap.size = w.heap.size + 1 := by simp
  have HB0 := Lib.hid hB0
  have HX0 := Lib.hid hx0
  have HZ0 := Lib.hid hz0
  clear hB0 hx0 hz0
  go_enter Tryz.func7, Tryz.ntmps7
  go_wp2
  generalize w.alloc (.cells #[.int .i64 op, .int .i64 a, .int .i64 b] 23) = w0 at *
  have HQ : Hid (∀ W, Below w0.heap.size w0 W → W.cell? ⟨w.heap.size, 0, none⟩ = some (.int .i64 op) ∧ W.cell? ⟨w.heap.size, 1, none⟩ = some (.int .i64 a) ∧ W.cell? ⟨w.heap.size, 2, none⟩ = some (.int .i64 b)) := Lib.hid (fun W hW => by
    have h := (hW.block _ (blk_lt HX0.out)).trans HX0.out
    exact ⟨blk_cell h 0, blk_cell h 1, blk_cell h 2⟩)
  have HW : Hid (Below w0.heap.size w0 w0.drew) := Lib.hid (below_drew (Below.refl _ _))
  -- region 1: 10 operations: 0:load 1:call 2:binOp 3:move 4:call 5:fieldAddr 6:load 7:index 8:field 9:pick
  refine start_ (S := fun W' => W'.cell? ⟨w.heap.size, 0, none⟩ = some (.int .i64 op) ∧ W'.cell? ⟨w.heap.size, 1, none⟩ = some (.int .i64 a) ∧ W'.cell? ⟨w.heap.size, 2, none⟩ = some (.int .i64 b)) (ds := []) #[false, false, false, false, false, false, false, false, false, false] (by kernel_rfl) rfl rfl (HQ.out _ HW.out) (fun hHeld => ?_)
  refine take_ (i := 0) (N := some 8) (v := ?_) (a' := ?_) #[true, false, false, false, false, false, false, false, false, false] rfl rfl (by kernel_rfl) (fun _ _ _ h => h) (Or.inl ⟨by rfl, ?_⟩) hHeld ?_ ?_
  rotate_left
  · rintro w' ⟨h0, h1, h2⟩
    go_simp
    with_reducible rfl
  rotate_left
  · simp only [Act.put, List.setIfInBounds_toArray, List.set_cons_zero, List.set_cons_succ]
    rfl
  refine one_ (i := 1) (N := some 9) #[true, true, false, false, false, false, false, false, false, false] rfl rfl (by kernel_rfl) (by decide) (fun K hK => ?_)
  refine goes_ Tryz.func8 (by kernel_rfl) rfl #[.agg #[.int .i64 op, .int .i64 a, .int .i64 b]] (by rfl) rfl rfl (by simp only [List.map_toArray, List.map_cons, List.map_nil]; rfl) ?_
  with_reducible refine (HC.out _).mono ?_
  rintro e w_ ⟨rfl, hb_⟩
  refine ⟨_, rfl, ?_⟩
  have HW_ := Lib.hid (below_step HW.out hb_)
  clear HW
  have HW := HW_
  clear HW_ hb_
  refine hK.out _ _ (HQ.out _ HW.out) (fun hHeld => ?_)
  clear hK K
  refine norm_ (a' := ?_) ?_ ?_
  rotate_left
  · show Act.put _ (some 9) _ = _
    simp only [Act.put, List.setIfInBounds_toArray, List.set_cons_zero, List.set_cons_succ]
    rfl
  refine pure_ (i := 2) (N := some 10) (v := ?_) (a' := ?_) #[true, true, true, false, false, false, false, false, false, false] rfl rfl (by kernel_rfl) (fun _ _ _ h => h) (Or.inl ⟨by rfl, ?_⟩) ?_ ?_
  rotate_left
  · intro w'
    go_simp
    with_reducible rfl
  rotate_left
  · simp only [Act.put, List.setIfInBounds_toArray, List.set_cons_zero, List.set_cons_succ]
    rfl
  refine pure_ (i := 3) (N := some 11) (v := ?_) (a' := ?_) #[true, true, true, true, false, false, false, false, false, false] rfl rfl (by kernel_rfl) (fun _ _ _ h => h) (Or.inl ⟨by rfl, ?_⟩) ?_ ?_
  rotate_left
  · intro w'
    go_simp
    with_reducible rfl
  rotate_left
  · simp only [Act.put, List.setIfInBounds_toArray, List.set_cons_zero, List.set_cons_succ]
    rfl
  refine pure_ (i := 5) (N := some 13) (v := ?_) (a' := ?_) #[true, true, true, true, false, true, false, false, false, false] rfl rfl (by kernel_rfl) (fun _ _ _ h => h) (Or.inl ⟨by rfl, ?_⟩) ?_ ?_
  rotate_left
  · intro w'
    go_simp
    with_reducible rfl
  rotate_left
  · simp only [Act.put, List.setIfInBounds_toArray, List.set_cons_zero, List.set_cons_succ]
    rfl
  refine take_ (i := 6) (N := some 14) (v := ?_) (a' := ?_) #[true, true, true, true, false, true, true, false, false, false] rfl rfl (by kernel_rfl) (fun _ _ _ h => h) (Or.inl ⟨by rfl, ?_⟩) hHeld ?_ ?_
  rotate_left
  · rintro w' ⟨h0, h1, h2⟩
    go_simp
    with_reducible rfl
  rotate_left
  · simp only [Act.put, List.setIfInBounds_toArray, List.set_cons_zero, List.set_cons_succ]
    rfl
  refine one_ (i := 4) (N := some 12) #[true, true, true, true, true, true, true, false, false, false] rfl rfl (by kernel_rfl) (by decide) (fun K hK => ?_)
  refine goes_ Tryz.func32 (by kernel_rfl) rfl #[] (by rfl) rfl rfl (by simp only [List.map_toArray, List.map_nil]) ?_
  with_reducible refine (rows41_any _).mono ?_
  rintro e w_ ⟨rfl, hb_⟩
  rw [HR.out]
  refine ⟨_, rfl, ?_⟩
  have HW_ := Lib.hid (below_step HW.out hb_)
  clear HW
  have HW := HW_
  clear HW_ hb_
  refine hK.out _ _ (HQ.out _ HW.out) (fun hHeld => ?_)
  clear hK K
  refine norm_ (a' := ?_) ?_ ?_
  rotate_left
  · show Act.put _ (some 12) _ = _
    simp only [Act.put, List.setIfInBounds_toArray, List.set_cons_zero, List.set_cons_succ]
    rfl
  refine pure_ (i := 7) (N := some 15) (v := ?_) (a' := ?_) #[true, true, true, true, true, true, true, true, false, false] rfl rfl (by kernel_rfl) (fun _ _ _ h => h) (Or.inl ⟨by rfl, ?_⟩) ?_ ?_
  rotate_left
  · intro w'
    go_simp
    with_reducible rfl
  rotate_left
  · simp only [Act.put, List.setIfInBounds_toArray, List.set_cons_zero, List.set_cons_succ]
    rfl
  refine pure_ (i := 8) (N := some 16) (v := ?_) (a' := ?_) #[true, true, true, true, true, true, true, true, true, false] rfl rfl (by kernel_rfl) (fun _ _ _ h => h) (Or.inl ⟨by rfl, ?_⟩) ?_ ?_
  rotate_left
  · intro w'
    go_simp
    with_reducible rfl
  rotate_left
  · simp only [Act.put, List.setIfInBounds_toArray, List.set_cons_zero, List.set_cons_succ]
    rfl
  refine pure_ (i := 9) (N := some 17) (v := ?_) (a' := ?_) #[true, true, true, true, true, true, true, true, true, true] rfl rfl (by kernel_rfl) (fun _ _ _ h => h) (Or.inl ⟨by rfl, ?_⟩) ?_ ?_
  rotate_left
  · intro w'
    go_simp
    with_reducible rfl
  rotate_left
  · simp only [Act.put, List.setIfInBounds_toArray, List.set_cons_zero, List.set_cons_succ]
    rfl
  refine done_ (by kernel_rfl) ?_
  go_wp2
  have HL := Lib.hid (HB0.out.trans (HW.out.mono (by rw [HZ0.out]; omega)))
  have HX1 := Lib.hid ((HW.out.block _ (blk_lt HX0.out)).trans HX0.out)
  have hw3 := blk_lt HX1.out
  clear HQ HW HX0 HB0 HZ0 HC
  rename World => w3
  have HQ : Hid (∀ W, Below w3.heap.size w3 W → W.cell? ⟨w.heap.size, 0, none⟩ = some (.int .i64 op) ∧ W.cell? ⟨w.heap.size, 1, none⟩ = some (.int .i64 a)) := Lib.hid (fun W hW => by
    have h := (hW.block _ (blk_lt HX1.out)).trans HX1.out
    exact ⟨blk_cell h 0, blk_cell h 1⟩)
  have HW : Hid (Below w3.heap.size w3 w3.drew) := Lib.hid (below_drew (Below.refl _ _))
  refine start_ (S := fun W' => W'.cell? ⟨w.heap.size, 0, none⟩ = some (.int .i64 op) ∧ W'.cell? ⟨w.heap.size, 1, none⟩ = some (.int .i64 a)) (ds := [9]) #[false, false, false, false, false, false, false, false, false, false] (by kernel_rfl) rfl rfl (HQ.out _ HW.out) (fun hHeld => ?_)
  generalize w3.drew = wc at *
  refine pure_ (i := 1) (N := some 19) (v := ?_) (a' := ?_) #[false, true, false, false, false, false, false, false, false, false] rfl rfl (by kernel_rfl) (fun _ _ _ h => h) (Or.inl ⟨by rfl, ?_⟩) ?_ ?_
  rotate_left
  · intro w'
    go_simp
    with_reducible rfl
  rotate_left
  · simp only [Act.put, List.setIfInBounds_toArray, List.set_cons_zero, List.set_cons_succ]
    rfl
  refine pure_ (i := 4) (N := some 22) (v := ?_) (a' := ?_) #[false, true, false, false, true, false, false, false, false, false] rfl rfl (by kernel_rfl) (fun _ _ _ h => h) (Or.inl ⟨by rfl, ?_⟩) ?_ ?_
  rotate_left
  · intro w'
    go_simp
    with_reducible rfl
  rotate_left
  · simp only [Act.put, List.setIfInBounds_toArray, List.set_cons_zero, List.set_cons_succ]
    rfl
  refine take_ (i := 2) (N := some 20) (v := ?_) (a' := ?_) #[false, true, true, false, true, false, false, false, false, false] rfl rfl (by kernel_rfl) (fun _ _ _ h => h) (Or.inl ⟨by rfl, ?_⟩) hHeld ?_ ?_
  rotate_left
  · rintro w' ⟨h0, h1⟩
    go_simp
    with_reducible rfl
  rotate_left
  · simp only [Act.put, List.setIfInBounds_toArray, List.set_cons_zero, List.set_cons_succ]
    rfl
  refine take_ (i := 5) (N := some 23) (v := ?_) (a' := ?_) #[false, true, true, false, true, true, false, false, false, false] rfl rfl (by kernel_rfl) (fun _ _ _ h => h) (Or.inl ⟨by rfl, ?_⟩) hHeld ?_ ?_
  rotate_left
  · rintro w' ⟨h0, h1⟩
    go_simp
    with_reducible rfl
  rotate_left
  · simp only [Act.put, List.setIfInBounds_toArray, List.set_cons_zero, List.set_cons_succ]
    rfl
  refine join_ (σ := Nat × Nat) 2 #[true, true, true, true, true, true, true, true, false, false] (fun s => [(18, R), (5, .pointer (some ⟨s.1, 0, none⟩)), (6, .pointer (some ⟨s.2, 0, none⟩)), (21, .agg #[.string s0, .int .i64 (ka op), .int .i64 (kb op), .string s3, .string s4, .bool false])]) (fun s W => W.heap[s.1]? = some (.cells #[.string ⟨#[]⟩, .int .i64 0, .int .i64 0, .string ⟨#[]⟩, .string ⟨#[]⟩, .bool false] 58 (0, 0)) ∧ W.heap[s.2]? = some (.cells #[.int .i64 0] 2 (0, 0)) ∧ w3.heap.size ≤ s.1 ∧ w3.heap.size ≤ s.2 ∧ Below w3.heap.size w3 W) ?_ ?_
  rotate_left
  · intro hJ
    refine three_ (i := 0) (j := 6) (k := 7) (Ni := some 18) (Nj := some 5) (Nk := some 6) #[true, true, true, false, true, true, false, false, false, false] #[false, true, true, false, true, true, true, false, false, false] #[false, true, true, false, true, true, false, true, false, false] rfl rfl rfl rfl rfl rfl (by kernel_rfl) (by decide) (by decide) (by decide) ?_ ?_ ?_
    · intro K hK
      refine goes_ Tryz.func32 (by kernel_rfl) rfl #[] (by rfl) rfl rfl (by simp only [List.map_toArray, List.map_nil]) ?_
      with_reducible refine (rows41_any _).mono ?_
      rintro e wc ⟨rfl, hb_⟩
      rw [HR.out]
      refine ⟨_, rfl, ?_⟩
      have HW_ := Lib.hid (below_step HW.out hb_)
      clear HW
      have HW := HW_
      clear HW_ hb_ hHeld
      refine hK.out _ _ (HQ.out _ HW.out) (fun hHeld => ?_)
      clear hK K
      refine norm_ (a' := ?_) ?_ ?_
      rotate_left
      · simp only [Act.put, List.setIfInBounds_toArray, List.set_cons_zero, List.set_cons_succ]
        rfl
      refine pure_ (i := 3) (N := some 21) (v := ?_) (a' := ?_) #[true, true, true, true, true, true, false, false, false, false] rfl rfl (by kernel_rfl) (fun _ _ _ h => h) (Or.inl ⟨by rfl, ?_⟩) ?_ ?_
      rotate_left
      · intro w'
        go_simp
        with_reducible rfl
      rotate_left
      · simp only [Act.put, List.setIfInBounds_toArray, List.set_cons_zero, List.set_cons_succ]
        rfl
      refine two_ (i := 6) (j := 7) (Ni := some 5) (Nj := some 6) #[true, true, true, true, true, true, true, false, false, false] #[true, true, true, true, true, true, false, true, false, false] rfl rfl rfl rfl (by kernel_rfl) (by decide) (by decide) ?_ ?_
      · intro K hK
        refine value_ (v := .pointer (some ⟨wc.heap.size, 0, none⟩)) (w1 := wc.alloc (.cells #[.string ⟨#[]⟩, .int .i64 0, .int .i64 0, .string ⟨#[]⟩, .string ⟨#[]⟩, .bool false] 58)) (by rfl) rfl (by go_simp) ?_
        have HRB := Lib.hid (World.alloc_heap_new wc (.cells #[.string ⟨#[]⟩, .int .i64 0, .int .i64 0, .string ⟨#[]⟩, .string ⟨#[]⟩, .bool false] 58))
        have hrl : w3.heap.size ≤ wc.heap.size := HW.out.size
        have HW_ := Lib.hid (below_alloc HW.out (.cells #[.string ⟨#[]⟩, .int .i64 0, .int .i64 0, .string ⟨#[]⟩, .string ⟨#[]⟩, .bool false] 58))
        clear HW
        have HW := HW_
        clear HW_ hHeld
        generalize wc.heap.size = r at *
        generalize wc.alloc (.cells #[.string ⟨#[]⟩, .int .i64 0, .int .i64 0, .string ⟨#[]⟩, .string ⟨#[]⟩, .bool false] 58) = wc at *
        refine hK.out _ _ (HQ.out _ HW.out) (fun hHeld => ?_)
        clear hK K
        refine norm_ (a' := ?_) ?_ ?_
        rotate_left
        · simp only [Act.put, List.setIfInBounds_toArray, List.set_cons_zero, List.set_cons_succ]
          rfl
        refine one_ (i := 7) (N := some 6) #[true, true, true, true, true, true, true, true, false, false] rfl rfl (by kernel_rfl) (by decide) ?_
        intro K hK
        refine value_ (v := .pointer (some ⟨wc.heap.size, 0, none⟩)) (w1 := wc.alloc (.cells #[.int .i64 0] 2)) (by rfl) rfl (by go_simp) ?_
        have HLB := Lib.hid (World.alloc_heap_new wc (.cells #[.int .i64 0] 2))
        have hll : w3.heap.size ≤ wc.heap.size := HW.out.size
        have HW_ := Lib.hid (below_alloc HW.out (.cells #[.int .i64 0] 2))
        have HRB_ := Lib.hid ((Below.heap_alloc wc (.cells #[.int .i64 0] 2) _ (blk_lt HRB.out)).trans HRB.out)
        clear HRB
        have HRB := HRB_
        clear HRB_
        clear HW
        have HW := HW_
        clear HW_ hHeld
        generalize wc.heap.size = l at *
        generalize wc.alloc (.cells #[.int .i64 0] 2) = wc at *
        refine hK.out _ _ (HQ.out _ HW.out) (fun hHeld => ?_)
        clear hK K
        refine norm_ (a' := ?_) ?_ ?_
        rotate_left
        · simp only [Act.put, List.setIfInBounds_toArray, List.set_cons_zero, List.set_cons_succ]
          rfl
        exact norm_ (a' := putAll _ [(18, R), (5, .pointer (some ⟨r, 0, none⟩)), (6, .pointer (some ⟨l, 0, none⟩)), (21, .agg #[.string s0, .int .i64 (ka op), .int .i64 (kb op), .string s3, .string s4, .bool false])]) (by rfl) (hJ (r, l) _ ⟨HRB.out, HLB.out, hrl, hll, HW.out⟩)
      · intro K hK
        refine value_ (v := .pointer (some ⟨wc.heap.size, 0, none⟩)) (w1 := wc.alloc (.cells #[.int .i64 0] 2)) (by rfl) rfl (by go_simp) ?_
        have HLB := Lib.hid (World.alloc_heap_new wc (.cells #[.int .i64 0] 2))
        have hll : w3.heap.size ≤ wc.heap.size := HW.out.size
        have HW_ := Lib.hid (below_alloc HW.out (.cells #[.int .i64 0] 2))
        clear HW
        have HW := HW_
        clear HW_ hHeld
        generalize wc.heap.size = l at *
        generalize wc.alloc (.cells #[.int .i64 0] 2) = wc at *
        refine hK.out _ _ (HQ.out _ HW.out) (fun hHeld => ?_)
        clear hK K
        refine norm_ (a' := ?_) ?_ ?_
        rotate_left
        · simp only [Act.put, List.setIfInBounds_toArray, List.set_cons_zero, List.set_cons_succ]
          rfl
        refine one_ (i := 6) (N := some 5) #[true, true, true, true, true, true, true, true, false, false] rfl rfl (by kernel_rfl) (by decide) ?_
        intro K hK
        refine value_ (v := .pointer (some ⟨wc.heap.size, 0, none⟩)) (w1 := wc.alloc (.cells #[.string ⟨#[]⟩, .int .i64 0, .int .i64 0, .string ⟨#[]⟩, .string ⟨#[]⟩, .bool false] 58)) (by rfl) rfl (by go_simp) ?_
        have HRB := Lib.hid (World.alloc_heap_new wc (.cells #[.string ⟨#[]⟩, .int .i64 0, .int .i64 0, .string ⟨#[]⟩, .string ⟨#[]⟩, .bool false] 58))
        have hrl : w3.heap.size ≤ wc.heap.size := HW.out.size
        have HW_ := Lib.hid (below_alloc HW.out (.cells #[.string ⟨#[]⟩, .int .i64 0, .int .i64 0, .string ⟨#[]⟩, .string ⟨#[]⟩, .bool false] 58))
        have HLB_ := Lib.hid ((Below.heap_alloc wc (.cells #[.string ⟨#[]⟩, .int .i64 0, .int .i64 0, .string ⟨#[]⟩, .string ⟨#[]⟩, .bool false] 58) _ (blk_lt HLB.out)).trans HLB.out)
        clear HLB
        have HLB := HLB_
        clear HLB_
        clear HW
        have HW := HW_
        clear HW_ hHeld
        generalize wc.heap.size = r at *
        generalize wc.alloc (.cells #[.string ⟨#[]⟩, .int .i64 0, .int .i64 0, .string ⟨#[]⟩, .string ⟨#[]⟩, .bool false] 58) = wc at *
        refine hK.out _ _ (HQ.out _ HW.out) (fun hHeld => ?_)
        clear hK K
        refine norm_ (a' := ?_) ?_ ?_
        rotate_left
        · simp only [Act.put, List.setIfInBounds_toArray, List.set_cons_zero, List.set_cons_succ]
          rfl
        exact norm_ (a' := putAll _ [(18, R), (5, .pointer (some ⟨r, 0, none⟩)), (6, .pointer (some ⟨l, 0, none⟩)), (21, .agg #[.string s0, .int .i64 (ka op), .int .i64 (kb op), .string s3, .string s4, .bool false])]) (by rfl) (hJ (r, l) _ ⟨HRB.out, HLB.out, hrl, hll, HW.out⟩)
    · intro K hK
      refine value_ (v := .pointer (some ⟨wc.heap.size, 0, none⟩)) (w1 := wc.alloc (.cells #[.string ⟨#[]⟩, .int .i64 0, .int .i64 0, .string ⟨#[]⟩, .string ⟨#[]⟩, .bool false] 58)) (by rfl) rfl (by go_simp) ?_
      have HRB := Lib.hid (World.alloc_heap_new wc (.cells #[.string ⟨#[]⟩, .int .i64 0, .int .i64 0, .string ⟨#[]⟩, .string ⟨#[]⟩, .bool false] 58))
      have hrl : w3.heap.size ≤ wc.heap.size := HW.out.size
      have HW_ := Lib.hid (below_alloc HW.out (.cells #[.string ⟨#[]⟩, .int .i64 0, .int .i64 0, .string ⟨#[]⟩, .string ⟨#[]⟩, .bool false] 58))
      clear HW
      have HW := HW_
      clear HW_ hHeld
      generalize wc.heap.size = r at *
      generalize wc.alloc (.cells #[.string ⟨#[]⟩, .int .i64 0, .int .i64 0, .string ⟨#[]⟩, .string ⟨#[]⟩, .bool false] 58) = wc at *
      refine hK.out _ _ (HQ.out _ HW.out) (fun hHeld => ?_)
      clear hK K
      refine norm_ (a' := ?_) ?_ ?_
      rotate_left
      · simp only [Act.put, List.setIfInBounds_toArray, List.set_cons_zero, List.set_cons_succ]
        rfl
      refine two_ (i := 0) (j := 7) (Ni := some 18) (Nj := some 6) #[true, true, true, false, true, true, true, false, false, false] #[false, true, true, false, true, true, true, true, false, false] rfl rfl rfl rfl (by kernel_rfl) (by decide) (by decide) ?_ ?_
      · intro K hK
        refine goes_ Tryz.func32 (by kernel_rfl) rfl #[] (by rfl) rfl rfl (by simp only [List.map_toArray, List.map_nil]) ?_
        with_reducible refine (rows41_any _).mono ?_
        rintro e wc ⟨rfl, hb_⟩
        rw [HR.out]
        refine ⟨_, rfl, ?_⟩
        have HW_ := Lib.hid (below_step HW.out hb_)
        have HRB_ := Lib.hid ((hb_.block _ (blk_lt HRB.out)).trans HRB.out)
        clear HRB
        have HRB := HRB_
        clear HRB_
        clear HW
        have HW := HW_
        clear HW_ hb_ hHeld
        refine hK.out _ _ (HQ.out _ HW.out) (fun hHeld => ?_)
        clear hK K
        refine norm_ (a' := ?_) ?_ ?_
        rotate_left
        · simp only [Act.put, List.setIfInBounds_toArray, List.set_cons_zero, List.set_cons_succ]
          rfl
        refine pure_ (i := 3) (N := some 21) (v := ?_) (a' := ?_) #[true, true, true, true, true, true, true, false, false, false] rfl rfl (by kernel_rfl) (fun _ _ _ h => h) (Or.inl ⟨by rfl, ?_⟩) ?_ ?_
        rotate_left
        · intro w'
          go_simp
          with_reducible rfl
        rotate_left
        · simp only [Act.put, List.setIfInBounds_toArray, List.set_cons_zero, List.set_cons_succ]
          rfl
        refine one_ (i := 7) (N := some 6) #[true, true, true, true, true, true, true, true, false, false] rfl rfl (by kernel_rfl) (by decide) ?_
        intro K hK
        refine value_ (v := .pointer (some ⟨wc.heap.size, 0, none⟩)) (w1 := wc.alloc (.cells #[.int .i64 0] 2)) (by rfl) rfl (by go_simp) ?_
        have HLB := Lib.hid (World.alloc_heap_new wc (.cells #[.int .i64 0] 2))
        have hll : w3.heap.size ≤ wc.heap.size := HW.out.size
        have HW_ := Lib.hid (below_alloc HW.out (.cells #[.int .i64 0] 2))
        have HRB_ := Lib.hid ((Below.heap_alloc wc (.cells #[.int .i64 0] 2) _ (blk_lt HRB.out)).trans HRB.out)
        clear HRB
        have HRB := HRB_
        clear HRB_
        clear HW
        have HW := HW_
        clear HW_ hHeld
        generalize wc.heap.size = l at *
        generalize wc.alloc (.cells #[.int .i64 0] 2) = wc at *
        refine hK.out _ _ (HQ.out _ HW.out) (fun hHeld => ?_)
        clear hK K
        refine norm_ (a' := ?_) ?_ ?_
        rotate_left
        · simp only [Act.put, List.setIfInBounds_toArray, List.set_cons_zero, List.set_cons_succ]
          rfl
        exact norm_ (a' := putAll _ [(18, R), (5, .pointer (some ⟨r, 0, none⟩)), (6, .pointer (some ⟨l, 0, none⟩)), (21, .agg #[.string s0, .int .i64 (ka op), .int .i64 (kb op), .string s3, .string s4, .bool false])]) (by rfl) (hJ (r, l) _ ⟨HRB.out, HLB.out, hrl, hll, HW.out⟩)
      · intro K hK
        refine value_ (v := .pointer (some ⟨wc.heap.size, 0, none⟩)) (w1 := wc.alloc (.cells #[.int .i64 0] 2)) (by rfl) rfl (by go_simp) ?_
        have HLB := Lib.hid (World.alloc_heap_new wc (.cells #[.int .i64 0] 2))
        have hll : w3.heap.size ≤ wc.heap.size := HW.out.size
        have HW_ := Lib.hid (below_alloc HW.out (.cells #[.int .i64 0] 2))
        have HRB_ := Lib.hid ((Below.heap_alloc wc (.cells #[.int .i64 0] 2) _ (blk_lt HRB.out)).trans HRB.out)
        clear HRB
        have HRB := HRB_
        clear HRB_
        clear HW
        have HW := HW_
        clear HW_ hHeld
        generalize wc.heap.size = l at *
        generalize wc.alloc (.cells #[.int .i64 0] 2) = wc at *
        refine hK.out _ _ (HQ.out _ HW.out) (fun hHeld => ?_)
        clear hK K
        refine norm_ (a' := ?_) ?_ ?_
        rotate_left
        · simp only [Act.put, List.setIfInBounds_toArray, List.set_cons_zero, List.set_cons_succ]
          rfl
        refine one_ (i := 0) (N := some 18) #[true, true, true, false, true, true, true, true, false, false] rfl rfl (by kernel_rfl) (by decide) ?_
        intro K hK
        refine goes_ Tryz.func32 (by kernel_rfl) rfl #[] (by rfl) rfl rfl (by simp only [List.map_toArray, List.map_nil]) ?_
        with_reducible refine (rows41_any _).mono ?_
        rintro e wc ⟨rfl, hb_⟩
        rw [HR.out]
        refine ⟨_, rfl, ?_⟩
        have HW_ := Lib.hid (below_step HW.out hb_)
        have HRB_ := Lib.hid ((hb_.block _ (blk_lt HRB.out)).trans HRB.out)
        clear HRB
        have HRB := HRB_
        clear HRB_
        have HLB_ := Lib.hid ((hb_.block _ (blk_lt HLB.out)).trans HLB.out)
        clear HLB
        have HLB := HLB_
        clear HLB_
        clear HW
        have HW := HW_
        clear HW_ hb_ hHeld
        refine hK.out _ _ (HQ.out _ HW.out) (fun hHeld => ?_)
        clear hK K
        refine norm_ (a' := ?_) ?_ ?_
        rotate_left
        · simp only [Act.put, List.setIfInBounds_toArray, List.set_cons_zero, List.set_cons_succ]
          rfl
        refine pure_ (i := 3) (N := some 21) (v := ?_) (a' := ?_) #[true, true, true, true, true, true, true, true, false, false] rfl rfl (by kernel_rfl) (fun _ _ _ h => h) (Or.inl ⟨by rfl, ?_⟩) ?_ ?_
        rotate_left
        · intro w'
          go_simp
          with_reducible rfl
        rotate_left
        · simp only [Act.put, List.setIfInBounds_toArray, List.set_cons_zero, List.set_cons_succ]
          rfl
        exact norm_ (a' := putAll _ [(18, R), (5, .pointer (some ⟨r, 0, none⟩)), (6, .pointer (some ⟨l, 0, none⟩)), (21, .agg #[.string s0, .int .i64 (ka op), .int .i64 (kb op), .string s3, .string s4, .bool false])]) (by rfl) (hJ (r, l) _ ⟨HRB.out, HLB.out, hrl, hll, HW.out⟩)
    · intro K hK
      refine value_ (v := .pointer (some ⟨wc.heap.size, 0, none⟩)) (w1 := wc.alloc (.cells #[.int .i64 0] 2)) (by rfl) rfl (by go_simp) ?_
      have HLB := Lib.hid (World.alloc_heap_new wc (.cells #[.int .i64 0] 2))
      have hll : w3.heap.size ≤ wc.heap.size := HW.out.size
      have HW_ := Lib.hid (below_alloc HW.out (.cells #[.int .i64 0] 2))
      clear HW
      have HW := HW_
      clear HW_ hHeld
      generalize wc.heap.size = l at *
      generalize wc.alloc (.cells #[.int .i64 0] 2) = wc at *
      refine hK.out _ _ (HQ.out _ HW.out) (fun hHeld => ?_)
      clear hK K
      refine norm_ (a' := ?_) ?_ ?_
      rotate_left
      · simp only [Act.put, List.setIfInBounds_toArray, List.set_cons_zero, List.set_cons_succ]
        rfl
      refine two_ (i := 0) (j := 6) (Ni := some 18) (Nj := some 5) #[true, true, true, false, true, true, false, true, false, false] #[false, true, true, false, true, true, true, true, false, false] rfl rfl rfl rfl (by kernel_rfl) (by decide) (by decide) ?_ ?_
      · intro K hK
        refine goes_ Tryz.func32 (by kernel_rfl) rfl #[] (by rfl) rfl rfl (by simp only [List.map_toArray, List.map_nil]) ?_
        with_reducible refine (rows41_any _).mono ?_
        rintro e wc ⟨rfl, hb_⟩
        rw [HR.out]
        refine ⟨_, rfl, ?_⟩
        have HW_ := Lib.hid (below_step HW.out hb_)
        have HLB_ := Lib.hid ((hb_.block _ (blk_lt HLB.out)).trans HLB.out)
        clear HLB
        have HLB := HLB_
        clear HLB_
        clear HW
        have HW := HW_
        clear HW_ hb_ hHeld
        refine hK.out _ _ (HQ.out _ HW.out) (fun hHeld => ?_)
        clear hK K
        refine norm_ (a' := ?_) ?_ ?_
        rotate_left
        · simp only [Act.put, List.setIfInBounds_toArray, List.set_cons_zero, List.set_cons_succ]
          rfl
        refine pure_ (i := 3) (N := some 21) (v := ?_) (a' := ?_) #[true, true, true, true, true, true, false, true, false, false] rfl rfl (by kernel_rfl) (fun _ _ _ h => h) (Or.inl ⟨by rfl, ?_⟩) ?_ ?_
        rotate_left
        · intro w'
          go_simp
          with_reducible rfl
        rotate_left
        · simp only [Act.put, List.setIfInBounds_toArray, List.set_cons_zero, List.set_cons_succ]
          rfl
        refine one_ (i := 6) (N := some 5) #[true, true, true, true, true, true, true, true, false, false] rfl rfl (by kernel_rfl) (by decide) ?_
        intro K hK
        refine value_ (v := .pointer (some ⟨wc.heap.size, 0, none⟩)) (w1 := wc.alloc (.cells #[.string ⟨#[]⟩, .int .i64 0, .int .i64 0, .string ⟨#[]⟩, .string ⟨#[]⟩, .bool false] 58)) (by rfl) rfl (by go_simp) ?_
        have HRB := Lib.hid (World.alloc_heap_new wc (.cells #[.string ⟨#[]⟩, .int .i64 0, .int .i64 0, .string ⟨#[]⟩, .string ⟨#[]⟩, .bool false] 58))
        have hrl : w3.heap.size ≤ wc.heap.size := HW.out.size
        have HW_ := Lib.hid (below_alloc HW.out (.cells #[.string ⟨#[]⟩, .int .i64 0, .int .i64 0, .string ⟨#[]⟩, .string ⟨#[]⟩, .bool false] 58))
        have HLB_ := Lib.hid ((Below.heap_alloc wc (.cells #[.string ⟨#[]⟩, .int .i64 0, .int .i64 0, .string ⟨#[]⟩, .string ⟨#[]⟩, .bool false] 58) _ (blk_lt HLB.out)).trans HLB.out)
        clear HLB
        have HLB := HLB_
        clear HLB_
        clear HW
        have HW := HW_
        clear HW_ hHeld
        generalize wc.heap.size = r at *
        generalize wc.alloc (.cells #[.string ⟨#[]⟩, .int .i64 0, .int .i64 0, .string ⟨#[]⟩, .string ⟨#[]⟩, .bool false] 58) = wc at *
        refine hK.out _ _ (HQ.out _ HW.out) (fun hHeld => ?_)
        clear hK K
        refine norm_ (a' := ?_) ?_ ?_
        rotate_left
        · simp only [Act.put, List.setIfInBounds_toArray, List.set_cons_zero, List.set_cons_succ]
          rfl
        exact norm_ (a' := putAll _ [(18, R), (5, .pointer (some ⟨r, 0, none⟩)), (6, .pointer (some ⟨l, 0, none⟩)), (21, .agg #[.string s0, .int .i64 (ka op), .int .i64 (kb op), .string s3, .string s4, .bool false])]) (by rfl) (hJ (r, l) _ ⟨HRB.out, HLB.out, hrl, hll, HW.out⟩)
      · intro K hK
        refine value_ (v := .pointer (some ⟨wc.heap.size, 0, none⟩)) (w1 := wc.alloc (.cells #[.string ⟨#[]⟩, .int .i64 0, .int .i64 0, .string ⟨#[]⟩, .string ⟨#[]⟩, .bool false] 58)) (by rfl) rfl (by go_simp) ?_
        have HRB := Lib.hid (World.alloc_heap_new wc (.cells #[.string ⟨#[]⟩, .int .i64 0, .int .i64 0, .string ⟨#[]⟩, .string ⟨#[]⟩, .bool false] 58))
        have hrl : w3.heap.size ≤ wc.heap.size := HW.out.size
        have HW_ := Lib.hid (below_alloc HW.out (.cells #[.string ⟨#[]⟩, .int .i64 0, .int .i64 0, .string ⟨#[]⟩, .string ⟨#[]⟩, .bool false] 58))
        have HLB_ := Lib.hid ((Below.heap_alloc wc (.cells #[.string ⟨#[]⟩, .int .i64 0, .int .i64 0, .string ⟨#[]⟩, .string ⟨#[]⟩, .bool false] 58) _ (blk_lt HLB.out)).trans HLB.out)
        clear HLB
        have HLB := HLB_
        clear HLB_
        clear HW
        have HW := HW_
        clear HW_ hHeld
        generalize wc.heap.size = r at *
        generalize wc.alloc (.cells #[.string ⟨#[]⟩, .int .i64 0, .int .i64 0, .string ⟨#[]⟩, .string ⟨#[]⟩, .bool false] 58) = wc at *
        refine hK.out _ _ (HQ.out _ HW.out) (fun hHeld => ?_)
        clear hK K
        refine norm_ (a' := ?_) ?_ ?_
        rotate_left
        · simp only [Act.put, List.setIfInBounds_toArray, List.set_cons_zero, List.set_cons_succ]
          rfl
        refine one_ (i := 0) (N := some 18) #[true, true, true, false, true, true, true, true, false, false] rfl rfl (by kernel_rfl) (by decide) ?_
        intro K hK
        refine goes_ Tryz.func32 (by kernel_rfl) rfl #[] (by rfl) rfl rfl (by simp only [List.map_toArray, List.map_nil]) ?_
        with_reducible refine (rows41_any _).mono ?_
        rintro e wc ⟨rfl, hb_⟩
        rw [HR.out]
        refine ⟨_, rfl, ?_⟩
        have HW_ := Lib.hid (below_step HW.out hb_)
        have HRB_ := Lib.hid ((hb_.block _ (blk_lt HRB.out)).trans HRB.out)
        clear HRB
        have HRB := HRB_
        clear HRB_
        have HLB_ := Lib.hid ((hb_.block _ (blk_lt HLB.out)).trans HLB.out)
        clear HLB
        have HLB := HLB_
        clear HLB_
        clear HW
        have HW := HW_
        clear HW_ hb_ hHeld
        refine hK.out _ _ (HQ.out _ HW.out) (fun hHeld => ?_)
        clear hK K
        refine norm_ (a' := ?_) ?_ ?_
        rotate_left
        · simp only [Act.put, List.setIfInBounds_toArray, List.set_cons_zero, List.set_cons_succ]
          rfl
        refine pure_ (i := 3) (N := some 21) (v := ?_) (a' := ?_) #[true, true, true, true, true, true, true, true, false, false] rfl rfl (by kernel_rfl) (fun _ _ _ h => h) (Or.inl ⟨by rfl, ?_⟩) ?_ ?_
        rotate_left
        · intro w'
          go_simp
          with_reducible rfl
        rotate_left
        · simp only [Act.put, List.setIfInBounds_toArray, List.set_cons_zero, List.set_cons_succ]
          rfl
        exact norm_ (a' := putAll _ [(18, R), (5, .pointer (some ⟨r, 0, none⟩)), (6, .pointer (some ⟨l, 0, none⟩)), (21, .agg #[.string s0, .int .i64 (ka op), .int .i64 (kb op), .string s3, .string s4, .bool false])]) (by rfl) (hJ (r, l) _ ⟨HRB.out, HLB.out, hrl, hll, HW.out⟩)
  · rintro ⟨r, l⟩ W ⟨hr, hl, hrl, hll, hbW⟩
    simp only at hr hl hrl hll
    have hne : l ≠ r := fun e => by rw [e, hr] at hl; cases hl
    have q0 := blk_cell hr 0
    have q1 := blk_cell hr 1
    have q2 := blk_cell hr 2
    have q3 := blk_cell hr 3
    have q4 := blk_cell hr 4
    have q5 := blk_cell hr 5
    have f0 := blk_frozen hr 0
    have f1 := blk_frozen hr 1
    have f2 := blk_frozen hr 2
    have f3 := blk_frozen hr 3
    have f4 := blk_frozen hr 4
    have f5 := blk_frozen hr 5
    simp only [List.getElem?_toArray, List.getElem?_cons_zero, List.getElem?_cons_succ] at q0 q1 q2 q3 q4 q5
    obtain ⟨hs, hfr⟩ := set6 (u0 := .string s0) (u1 := .int .i64 (ka op)) (u2 := .int .i64 (kb op)) (u3 := .string s3) (u4 := .string s4) (u5 := .bool false) hr
    have hb2 := hbW.trans (hfr.below hbW.size (fun i hi e => by omega))
    have HLB := Lib.hid (hfr.at hl hne)
    have HRB := Lib.hid hs
    have HB2 := Lib.hid hb2
    clear hs hfr hl hbW hb2
    refine norm_ (a' := ?_) ?_ ?_
    rotate_left
    · simp only [putAll, Act.put, List.setIfInBounds_toArray, List.set_cons_zero, List.set_cons_succ]
      rfl
    refine one_ (i := 8) (N := none) #[true, true, true, true, true, true, true, true, true, false] rfl rfl (by kernel_rfl) (by decide) (fun K hK => ?_)
    refine skip_ (w1 := ?_) (by rfl) rfl ?_ ?_
    rotate_left 1
    · go_simp
      rfl
    refine hK.out _ _ (HQ.out _ HB2.out) (fun hHeld => ?_)
    clear hK K q0 q1 q2 q3 q4 q5 f0 f1 f2 f3 f4 f5
    generalize ((((((W.setCell ⟨r, 0, none⟩ (.string s0)).setCell ⟨r, 1, none⟩ (.int .i64 (ka op))).setCell ⟨r, 2, none⟩ (.int .i64 (kb op))).setCell ⟨r, 3, none⟩ (.string s3)).setCell ⟨r, 4, none⟩ (.string s4)).setCell ⟨r, 5, none⟩ (.bool false)) = W2 at *
    have q0 := blk_cell HLB.out 0
    have f0 := blk_frozen HLB.out 0
    simp only [List.getElem?_toArray, List.getElem?_cons_zero] at q0
    refine last_ (i := 9) (N := none) #[true, true, true, true, true, true, true, true, true, true] rfl rfl (by kernel_rfl) (by decide) (fun K hK => ?_)
    refine skip_ (w1 := ?_) (by rfl) rfl ?_ ?_
    rotate_left 1
    · go_simp
      rfl
    refine hK.out _ _ ?_
    clear hK K q0 f0
    refine done_ (by kernel_rfl) ?_
    have hlb3 := blk_set HLB.out 0 (.int .i64 a)
    have hfr3 : Fr (fun i => i = l) W2 (W2.setCell ⟨l, 0, none⟩ (.int .i64 a)) := Fr.set (S := fun i => i = l) (Fr.refl _ _) _ _ (fun _ => rfl)
    have hrb3 := hfr3.at HRB.out (fun e => hne e.symm)
    have hb3 := HB2.out.trans (hfr3.below HB2.out.size (fun i hi e => by omega))
    have hx3 := (hb3.block _ hw3).trans HX1.out
    simp only [List.setIfInBounds_toArray, List.set_cons_zero] at hlb3
    have q2 := blk_cell hrb3 2
    have x2 := blk_cell hx3 2
    have l0 := blk_cell hlb3 0
    have g0 := blk_frozen hlb3 0
    simp only [List.getElem?_toArray, List.getElem?_cons_zero, List.getElem?_cons_succ] at q2 x2 l0
    have HRB3 := Lib.hid hrb3
    have HLB3 := Lib.hid hlb3
    have HB3 := Lib.hid hb3
    have HOKL : Hid (∀ h, (halfL h op.toNat).contains 84 = true → 1 ≤ lastI op a b ∧ lastI op a b ≤ 4) := Lib.hid (fun h => last_in HOK.out h)
    have h30 : Hid (op.toNat < 30) := Lib.hid (by have := ok_op HOK.out; omega)
    clear hlb3 hfr3 hrb3 hb3 hx3 HRB HLB HB2 hr hHeld hx hy HQ HR hw3 HX1
    generalize W2.setCell ⟨l, 0, none⟩ (.int .i64 a) = W3 at *
    by_cases hkb : kb op = 0
    · have hkn : ((kb op : Int) != 0) = false := by simp [hkb]
      have HLA : Hid (lastI op a b = a) := Lib.hid (by unfold lastI; rw [if_neg (by omega)])
      clear hkb
      go_wp2
      clear q2 x2 l0 g0 hkn
      have HM3 : Hid (∃ m, W3.cell? ⟨0, 0, none⟩ = some (.int .i64 m)) := Lib.hid (by obtain ⟨m, hm⟩ := HM.out; exact ⟨m, pw_cell_below HB3.out (pw_cell_below HL.out hm)⟩)
      have HLB4 : Hid (W3.heap[l]? = some (.cells #[.int .i64 (lastI op a b)] 2 (0, 0))) := Lib.hid (by rw [HLA.out]; exact HLB3.out)
      have HRB4 := HRB3
      have HB4 := HB3
      clear HLB3 HRB3 HB3 HLA
      generalize hW4 : W3 = W4 at *
      clear hW4
      have HE3 : Hid (∀ W, Below W4.heap.size W4 W → Calls Tryz.prog 33 #[.string s3, .pointer (some ⟨l, 0, none⟩)] W fun e w' => ∃ u, e = .returned u ∧ w'.ownsRow W.heap.size 3 1 u (effL (halfL true op.toNat) (lastI op a b)).length (nums .i64 (effL (halfL true op.toNat) (lastI op a b))) ∧ Below W.heap.size W w') := Lib.hid (fun W h => by
        rw [← HS3.out]
        exact Effect33_any op.toNat true h30.out l _ W (HOKL.out true) (by obtain ⟨m, hm⟩ := HM3.out; exact ⟨m, pw_cell_below h hm⟩) ((h.block _ (blk_lt HLB4.out)).trans HLB4.out))
      have HE4 : Hid (∀ W, Below W4.heap.size W4 W → Calls Tryz.prog 33 #[.string s4, .pointer (some ⟨l, 0, none⟩)] W fun e w' => ∃ u, e = .returned u ∧ w'.ownsRow W.heap.size 3 1 u (effL (halfL false op.toNat) (lastI op a b)).length (nums .i64 (effL (halfL false op.toNat) (lastI op a b))) ∧ Below W.heap.size W w') := Lib.hid (fun W h => by
        rw [← HS4.out]
        exact Effect33_any op.toNat false h30.out l _ W (HOKL.out false) (by obtain ⟨m, hm⟩ := HM3.out; exact ⟨m, pw_cell_below h hm⟩) ((h.block _ (blk_lt HLB4.out)).trans HLB4.out))
      have HQ : Hid (∀ W, Below W4.heap.size W4 W → W.cell? ⟨r, 3, none⟩ = some (.string s3) ∧ W.cell? ⟨r, 4, none⟩ = some (.string s4)) := Lib.hid (fun W hW => by
        have h := (hW.block _ (blk_lt HRB4.out)).trans HRB4.out
        exact ⟨blk_cell h 3, blk_cell h 4⟩)
      have HL4 := Lib.hid (HL.out.trans (HB4.out.mono HL.out.size))
      have HW : Hid (Below W4.heap.size W4 W4.drew) := Lib.hid (below_drew (Below.refl _ _))
      clear HS3 HS4 HM3 HLB4 HRB4 HB4 HOKL h30
      -- region 7: 11 operations: 0:move 1:fieldAddr 2:load 3:call 4:move 5:fieldAddr 6:load 7:call 8:assign 9:assign 10:assign
      refine start_ (S := fun W' => W'.cell? ⟨r, 3, none⟩ = some (.string s3) ∧ W'.cell? ⟨r, 4, none⟩ = some (.string s4)) (ds := []) #[false, false, false, false, false, false, false, false, false, false, false] (by kernel_rfl) rfl rfl (HQ.out _ HW.out) (fun hHeld => ?_)
      refine pure_ (i := 0) (N := some 30) (v := ?_) (a' := ?_) #[true, false, false, false, false, false, false, false, false, false, false] rfl rfl (by kernel_rfl) (fun _ _ _ h => h) (Or.inl ⟨by rfl, ?_⟩) ?_ ?_
      rotate_left
      · intro w'
        go_simp
        with_reducible rfl
      rotate_left
      · simp only [Act.put, List.setIfInBounds_toArray, List.set_cons_zero, List.set_cons_succ]
        rfl
      refine pure_ (i := 1) (N := some 31) (v := ?_) (a' := ?_) #[true, true, false, false, false, false, false, false, false, false, false] rfl rfl (by kernel_rfl) (fun _ _ _ h => h) (Or.inl ⟨by rfl, ?_⟩) ?_ ?_
      rotate_left
      · intro w'
        go_simp
        with_reducible rfl
      rotate_left
      · simp only [Act.put, List.setIfInBounds_toArray, List.set_cons_zero, List.set_cons_succ]
        rfl
      refine pure_ (i := 4) (N := some 34) (v := ?_) (a' := ?_) #[true, true, false, false, true, false, false, false, false, false, false] rfl rfl (by kernel_rfl) (fun _ _ _ h => h) (Or.inl ⟨by rfl, ?_⟩) ?_ ?_
      rotate_left
      · intro w'
        go_simp
        with_reducible rfl
      rotate_left
      · simp only [Act.put, List.setIfInBounds_toArray, List.set_cons_zero, List.set_cons_succ]
        rfl
      refine pure_ (i := 5) (N := some 35) (v := ?_) (a' := ?_) #[true, true, false, false, true, true, false, false, false, false, false] rfl rfl (by kernel_rfl) (fun _ _ _ h => h) (Or.inl ⟨by rfl, ?_⟩) ?_ ?_
      rotate_left
      · intro w'
        go_simp
        with_reducible rfl
      rotate_left
      · simp only [Act.put, List.setIfInBounds_toArray, List.set_cons_zero, List.set_cons_succ]
        rfl
      refine take_ (i := 2) (N := some 32) (v := ?_) (a' := ?_) #[true, true, true, false, true, true, false, false, false, false, false] rfl rfl (by kernel_rfl) (fun _ _ _ h => h) (Or.inl ⟨by rfl, ?_⟩) hHeld ?_ ?_
      rotate_left
      · rintro w' ⟨h0, h1⟩
        go_simp
        with_reducible rfl
      rotate_left
      · simp only [Act.put, List.setIfInBounds_toArray, List.set_cons_zero, List.set_cons_succ]
        rfl
      refine take_ (i := 6) (N := some 36) (v := ?_) (a' := ?_) #[true, true, true, false, true, true, true, false, false, false, false] rfl rfl (by kernel_rfl) (fun _ _ _ h => h) (Or.inl ⟨by rfl, ?_⟩) hHeld ?_ ?_
      rotate_left
      · rintro w' ⟨h0, h1⟩
        go_simp
        with_reducible rfl
      rotate_left
      · simp only [Act.put, List.setIfInBounds_toArray, List.set_cons_zero, List.set_cons_succ]
        rfl
      refine one_ (i := 3) (N := some 33) #[true, true, true, true, true, true, true, false, false, false, false] rfl rfl (by kernel_rfl) (by decide) (fun K hK => ?_)
      refine goesv_ Tryz.func33 (by kernel_rfl) rfl #[.string s3] #[.pointer (some ⟨l, 0, none⟩)] #[.string s3, .pointer (some ⟨l, 0, none⟩)] rfl (by rfl) rfl rfl rfl (by simp only [List.map_toArray, List.map_cons, List.map_nil]; rfl) ?_
      with_reducible refine (HE3.out _ HW.out).mono ?_
      rintro e w_ ⟨u3, rfl, hu_, hb_⟩
      refine ⟨_, rfl, ?_⟩
      have HU3 := Lib.hid (own_weaken hu_ (Nat.le_trans HL4.out.size HW.out.size))
      clear hu_
      have HW_ := Lib.hid (below_step HW.out hb_)
      clear HW
      have HW := HW_
      clear HW_ hb_
      refine hK.out _ _ (HQ.out _ HW.out) (fun hHeld => ?_)
      clear hK K
      refine norm_ (a' := ?_) ?_ ?_
      rotate_left
      · show Act.put _ (some 33) _ = _
        simp only [Act.put, List.setIfInBounds_toArray, List.set_cons_zero, List.set_cons_succ]
        rfl
      refine one_ (i := 7) (N := some 37) #[true, true, true, true, true, true, true, true, false, false, false] rfl rfl (by kernel_rfl) (by decide) (fun K hK => ?_)
      refine goesv_ Tryz.func33 (by kernel_rfl) rfl #[.string s4] #[.pointer (some ⟨l, 0, none⟩)] #[.string s4, .pointer (some ⟨l, 0, none⟩)] rfl (by rfl) rfl rfl rfl (by simp only [List.map_toArray, List.map_cons, List.map_nil]; rfl) ?_
      with_reducible refine (HE4.out _ HW.out).mono ?_
      rintro e w_ ⟨u4, rfl, hu_, hb_⟩
      refine ⟨_, rfl, ?_⟩
      have HU4 := Lib.hid (own_weaken hu_ (Nat.le_trans HL4.out.size HW.out.size))
      have HU3_ := Lib.hid (pw_own_below HU3.out hb_)
      clear hu_ HU3
      have HU3 := HU3_
      clear HU3_
      have HW_ := Lib.hid (below_step HW.out hb_)
      clear HW
      have HW := HW_
      clear HW_ hb_
      refine hK.out _ _ (HQ.out _ HW.out) (fun hHeld => ?_)
      clear hK K
      refine norm_ (a' := ?_) ?_ ?_
      rotate_left
      · show Act.put _ (some 37) _ = _
        simp only [Act.put, List.setIfInBounds_toArray, List.set_cons_zero, List.set_cons_succ]
        rfl
      refine pure_ (i := 8) (N := some 2) (v := ?_) (a' := ?_) #[true, true, true, true, true, true, true, true, true, false, false] rfl rfl (by kernel_rfl) (fun _ _ _ h => h) (Or.inl ⟨by rfl, ?_⟩) ?_ ?_
      rotate_left
      · intro w'
        go_simp
        with_reducible rfl
      rotate_left
      · simp only [Act.put, List.setIfInBounds_toArray, List.set_cons_zero, List.set_cons_succ]
        rfl
      refine pure_ (i := 9) (N := some 3) (v := ?_) (a' := ?_) #[true, true, true, true, true, true, true, true, true, true, false] rfl rfl (by kernel_rfl) (fun _ _ _ h => h) (Or.inl ⟨by rfl, ?_⟩) ?_ ?_
      rotate_left
      · intro w'
        go_simp
        with_reducible rfl
      rotate_left
      · simp only [Act.put, List.setIfInBounds_toArray, List.set_cons_zero, List.set_cons_succ]
        rfl
      refine pure_ (i := 10) (N := some 4) (v := ?_) (a' := ?_) #[true, true, true, true, true, true, true, true, true, true, true] rfl rfl (by kernel_rfl) (fun _ _ _ h => h) (Or.inl ⟨by rfl, ?_⟩) ?_ ?_
      rotate_left
      · intro w'
        go_simp
        with_reducible rfl
      rotate_left
      · simp only [Act.put, List.setIfInBounds_toArray, List.set_cons_zero, List.set_cons_succ]
        rfl
      refine done_ (by kernel_rfl) ?_
      go_wp2
      go_ret3
      have he : ∀ h, effT h op a b = effL (halfL h op.toNat) (lastI op a b) := fun h => by unfold effT; rw [if_pos HFX.out]
      exact ⟨u3, u4, by rw [HFX.out]; rfl, by rw [he]; exact HU3.out, by rw [he]; exact HU4.out, HL4.out.trans (HW.out.mono HL4.out.size)⟩
    · have hkn : ((kb op : Int) != 0) = true := by simp [hkb]
      have HLA : Hid (lastI op a b = b) := Lib.hid (by unfold lastI; rw [if_pos (by omega)])
      clear hkb
      go_wp2
      have hlb4 := blk_set HLB3.out 0 (.int .i64 b)
      simp only [List.setIfInBounds_toArray, List.set_cons_zero] at hlb4
      have hfr4 : Fr (fun i => i = l) W3 (W3.setCell ⟨l, 0, none⟩ (.int .i64 b)) := Fr.set (S := fun i => i = l) (Fr.refl _ _) _ _ (fun _ => rfl)
      have HRB4 := Lib.hid (hfr4.at HRB3.out (fun e => hne e.symm))
      have HB4 := Lib.hid (HB3.out.trans (hfr4.below HB3.out.size (fun i hi e => by omega)))
      have HLB4 : Hid ((W3.setCell ⟨l, 0, none⟩ (.int .i64 b)).heap[l]? = some (.cells #[.int .i64 (lastI op a b)] 2 (0, 0))) := Lib.hid (by rw [HLA.out]; exact hlb4)
      clear q2 x2 l0 g0 hkn hlb4 hfr4 HLB3 HRB3 HB3 HLA
      generalize W3.setCell ⟨l, 0, none⟩ (.int .i64 b) = W4 at *
      have HM3 : Hid (∃ m, W4.cell? ⟨0, 0, none⟩ = some (.int .i64 m)) := Lib.hid (by obtain ⟨m, hm⟩ := HM.out; exact ⟨m, pw_cell_below HB4.out (pw_cell_below HL.out hm)⟩)
      have HE3 : Hid (∀ W, Below W4.heap.size W4 W → Calls Tryz.prog 33 #[.string s3, .pointer (some ⟨l, 0, none⟩)] W fun e w' => ∃ u, e = .returned u ∧ w'.ownsRow W.heap.size 3 1 u (effL (halfL true op.toNat) (lastI op a b)).length (nums .i64 (effL (halfL true op.toNat) (lastI op a b))) ∧ Below W.heap.size W w') := Lib.hid (fun W h => by
        rw [← HS3.out]
        exact Effect33_any op.toNat true h30.out l _ W (HOKL.out true) (by obtain ⟨m, hm⟩ := HM3.out; exact ⟨m, pw_cell_below h hm⟩) ((h.block _ (blk_lt HLB4.out)).trans HLB4.out))
      have HE4 : Hid (∀ W, Below W4.heap.size W4 W → Calls Tryz.prog 33 #[.string s4, .pointer (some ⟨l, 0, none⟩)] W fun e w' => ∃ u, e = .returned u ∧ w'.ownsRow W.heap.size 3 1 u (effL (halfL false op.toNat) (lastI op a b)).length (nums .i64 (effL (halfL false op.toNat) (lastI op a b))) ∧ Below W.heap.size W w') := Lib.hid (fun W h => by
        rw [← HS4.out]
        exact Effect33_any op.toNat false h30.out l _ W (HOKL.out false) (by obtain ⟨m, hm⟩ := HM3.out; exact ⟨m, pw_cell_below h hm⟩) ((h.block _ (blk_lt HLB4.out)).trans HLB4.out))
      have HQ : Hid (∀ W, Below W4.heap.size W4 W → W.cell? ⟨r, 3, none⟩ = some (.string s3) ∧ W.cell? ⟨r, 4, none⟩ = some (.string s4)) := Lib.hid (fun W hW => by
        have h := (hW.block _ (blk_lt HRB4.out)).trans HRB4.out
        exact ⟨blk_cell h 3, blk_cell h 4⟩)
      have HL4 := Lib.hid (HL.out.trans (HB4.out.mono HL.out.size))
      have HW : Hid (Below W4.heap.size W4 W4.drew) := Lib.hid (below_drew (Below.refl _ _))
      clear HS3 HS4 HM3 HLB4 HRB4 HB4 HOKL h30
      -- region 7: 11 operations: 0:move 1:fieldAddr 2:load 3:call 4:move 5:fieldAddr 6:load 7:call 8:assign 9:assign 10:assign
      refine start_ (S := fun W' => W'.cell? ⟨r, 3, none⟩ = some (.string s3) ∧ W'.cell? ⟨r, 4, none⟩ = some (.string s4)) (ds := []) #[false, false, false, false, false, false, false, false, false, false, false] (by kernel_rfl) rfl rfl (HQ.out _ HW.out) (fun hHeld => ?_)
      refine pure_ (i := 0) (N := some 30) (v := ?_) (a' := ?_) #[true, false, false, false, false, false, false, false, false, false, false] rfl rfl (by kernel_rfl) (fun _ _ _ h => h) (Or.inl ⟨by rfl, ?_⟩) ?_ ?_
      rotate_left
      · intro w'
        go_simp
        with_reducible rfl
      rotate_left
      · simp only [Act.put, List.setIfInBounds_toArray, List.set_cons_zero, List.set_cons_succ]
        rfl
      refine pure_ (i := 1) (N := some 31) (v := ?_) (a' := ?_) #[true, true, false, false, false, false, false, false, false, false, false] rfl rfl (by kernel_rfl) (fun _ _ _ h => h) (Or.inl ⟨by rfl, ?_⟩) ?_ ?_
      rotate_left
      · intro w'
        go_simp
        with_reducible rfl
      rotate_left
      · simp only [Act.put, List.setIfInBounds_toArray, List.set_cons_zero, List.set_cons_succ]
        rfl
      refine pure_ (i := 4) (N := some 34) (v := ?_) (a' := ?_) #[true, true, false, false, true, false, false, false, false, false, false] rfl rfl (by kernel_rfl) (fun _ _ _ h => h) (Or.inl ⟨by rfl, ?_⟩) ?_ ?_
      rotate_left
      · intro w'
        go_simp
        with_reducible rfl
      rotate_left
      · simp only [Act.put, List.setIfInBounds_toArray, List.set_cons_zero, List.set_cons_succ]
        rfl
      refine pure_ (i := 5) (N := some 35) (v := ?_) (a' := ?_) #[true, true, false, false, true, true, false, false, false, false, false] rfl rfl (by kernel_rfl) (fun _ _ _ h => h) (Or.inl ⟨by rfl, ?_⟩) ?_ ?_
      rotate_left
      · intro w'
        go_simp
        with_reducible rfl
      rotate_left
      · simp only [Act.put, List.setIfInBounds_toArray, List.set_cons_zero, List.set_cons_succ]
        rfl
      refine take_ (i := 2) (N := some 32) (v := ?_) (a' := ?_) #[true, true, true, false, true, true, false, false, false, false, false] rfl rfl (by kernel_rfl) (fun _ _ _ h => h) (Or.inl ⟨by rfl, ?_⟩) hHeld ?_ ?_
      rotate_left
      · rintro w' ⟨h0, h1⟩
        go_simp
        with_reducible rfl
      rotate_left
      · simp only [Act.put, List.setIfInBounds_toArray, List.set_cons_zero, List.set_cons_succ]
        rfl
      refine take_ (i := 6) (N := some 36) (v := ?_) (a' := ?_) #[true, true, true, false, true, true, true, false, false, false, false] rfl rfl (by kernel_rfl) (fun _ _ _ h => h) (Or.inl ⟨by rfl, ?_⟩) hHeld ?_ ?_
      rotate_left
      · rintro w' ⟨h0, h1⟩
        go_simp
        with_reducible rfl
      rotate_left
      · simp only [Act.put, List.setIfInBounds_toArray, List.set_cons_zero, List.set_cons_succ]
        rfl
      refine one_ (i := 3) (N := some 33) #[true, true, true, true, true, true, true, false, false, false, false] rfl rfl (by kernel_rfl) (by decide) (fun K hK => ?_)
      refine goesv_ Tryz.func33 (by kernel_rfl) rfl #[.string s3] #[.pointer (some ⟨l, 0, none⟩)] #[.string s3, .pointer (some ⟨l, 0, none⟩)] rfl (by rfl) rfl rfl rfl (by simp only [List.map_toArray, List.map_cons, List.map_nil]; rfl) ?_
      with_reducible refine (HE3.out _ HW.out).mono ?_
      rintro e w_ ⟨u3, rfl, hu_, hb_⟩
      refine ⟨_, rfl, ?_⟩
      have HU3 := Lib.hid (own_weaken hu_ (Nat.le_trans HL4.out.size HW.out.size))
      clear hu_
      have HW_ := Lib.hid (below_step HW.out hb_)
      clear HW
      have HW := HW_
      clear HW_ hb_
      refine hK.out _ _ (HQ.out _ HW.out) (fun hHeld => ?_)
      clear hK K
      refine norm_ (a' := ?_) ?_ ?_
      rotate_left
      · show Act.put _ (some 33) _ = _
        simp only [Act.put, List.setIfInBounds_toArray, List.set_cons_zero, List.set_cons_succ]
        rfl
      refine one_ (i := 7) (N := some 37) #[true, true, true, true, true, true, true, true, false, false, false] rfl rfl (by kernel_rfl) (by decide) (fun K hK => ?_)
      refine goesv_ Tryz.func33 (by kernel_rfl) rfl #[.string s4] #[.pointer (some ⟨l, 0, none⟩)] #[.string s4, .pointer (some ⟨l, 0, none⟩)] rfl (by rfl) rfl rfl rfl (by simp only [List.map_toArray, List.map_cons, List.map_nil]; rfl) ?_
      with_reducible refine (HE4.out _ HW.out).mono ?_
      rintro e w_ ⟨u4, rfl, hu_, hb_⟩
      refine ⟨_, rfl, ?_⟩
      have HU4 := Lib.hid (own_weaken hu_ (Nat.le_trans HL4.out.size HW.out.size))
      have HU3_ := Lib.hid (pw_own_below HU3.out hb_)
      clear hu_ HU3
      have HU3 := HU3_
      clear HU3_
      have HW_ := Lib.hid (below_step HW.out hb_)
      clear HW
      have HW := HW_
      clear HW_ hb_
      refine hK.out _ _ (HQ.out _ HW.out) (fun hHeld => ?_)
      clear hK K
      refine norm_ (a' := ?_) ?_ ?_
      rotate_left
      · show Act.put _ (some 37) _ = _
        simp only [Act.put, List.setIfInBounds_toArray, List.set_cons_zero, List.set_cons_succ]
        rfl
      refine pure_ (i := 8) (N := some 2) (v := ?_) (a' := ?_) #[true, true, true, true, true, true, true, true, true, false, false] rfl rfl (by kernel_rfl) (fun _ _ _ h => h) (Or.inl ⟨by rfl, ?_⟩) ?_ ?_
      rotate_left
      · intro w'
        go_simp
        with_reducible rfl
      rotate_left
      · simp only [Act.put, List.setIfInBounds_toArray, List.set_cons_zero, List.set_cons_succ]
        rfl
      refine pure_ (i := 9) (N := some 3) (v := ?_) (a' := ?_) #[true, true, true, true, true, true, true, true, true, true, false] rfl rfl (by kernel_rfl) (fun _ _ _ h => h) (Or.inl ⟨by rfl, ?_⟩) ?_ ?_
      rotate_left
      · intro w'
        go_simp
        with_reducible rfl
      rotate_left
      · simp only [Act.put, List.setIfInBounds_toArray, List.set_cons_zero, List.set_cons_succ]
        rfl
      refine pure_ (i := 10) (N := some 4) (v := ?_) (a' := ?_) #[true, true, true, true, true, true, true, true, true, true, true] rfl rfl (by kernel_rfl) (fun _ _ _ h => h) (Or.inl ⟨by rfl, ?_⟩) ?_ ?_
      rotate_left
      · intro w'
        go_simp
        with_reducible rfl
      rotate_left
      · simp only [Act.put, List.setIfInBounds_toArray, List.set_cons_zero, List.set_cons_succ]
        rfl
      refine done_ (by kernel_rfl) ?_
      go_wp2
      go_ret3
      have he : ∀ h, effT h op a b = effL (halfL h op.toNat) (lastI op a b) := fun h => by unfold effT; rw [if_pos HFX.out]
      exact ⟨u3, u4, by rw [HFX.out]; rfl, by rw [he]; exact HU3.out, by rw [he]; exact HU4.out, HL4.out.trans (HW.out.mono HL4.out.size)⟩
theorem Effect_any (op a b : Int) (w : World) (hm : ∃ m, w.cell? ⟨0, 0, none⟩ = some (.int .i64 m)) : Calls Tryz.prog 7 #[.agg #[.int .i64 op, .int .i64 a, .int .i64 b]] w (EffPost w op a b) := by
  cases h : okB op a b
  · exact Effect_bad op a b w h
  · cases hl : looseB op.toNat
    · exact Effect_fix op a b w h hl hm
    · exact Effect_loose op a b w h hl
end Go.Proofs.YtamagdnlicnefaaGreatDoor
namespace Go.Proofs.YtamagdnlicnefaaGreatDoor
open Go.RowKit Go.Shelf Go.Proofs.YtamagdnlicnefaaGreatDoorW.PrintWords Go.Proofs.YtamagdnlicnefaaGreatDoorW.PrintLast Go.Proofs.YtamagdnlicnefaaGreatDoorW.PrintMore
open Go.Proofs.YtamagdnlicnefaaGreatDoor.PRef

def endOp (op : Int) : Bool := op == 18 || op == 24 || op == 25 || op == 27
def endsB (op a b : Int) : Bool := endOp op && okB op a b
def goesB (op a b : Int) : Bool := decide (ka op = 10) && okB op a b
def goesV (op a b : Int) : Int := if goesB op a b then a else 0
set_option maxHeartbeats 1000000 in
theorem Ends9_any (op a b : Int) (w : World) : Calls Tryz.prog 9 #[.agg #[.int .i64 op, .int .i64 a, .int .i64 b]] w fun e w' => e = .returned (.bool (endsB op a b)) ∧ Below w.heap.size w w' := by
  have HB0 := Lib.hid (below_alloc (Below.refl w.heap.size w) (.cells #[.int .i64 op, .int .i64 a, .int .i64 b] 23))
  by_cases h : op = 18 ∨ op = 24 ∨ op = 25 ∨ op = 27
  · have HC := Lib.hid (Check8_any op a b)
    have he : endOp op = true := by rcases h with rfl | rfl | rfl | rfl <;> rfl
    have HE : Hid (endsB op a b = okB op a b) := Lib.hid (by unfold endsB; rw [he]; rfl)
    rw [HE.out]
    cases hok : okB op a b
    all_goals
      rw [hok] at HC
      clear hok he HE
      rcases h with rfl | rfl | rfl | rfl
      all_goals
        go_enter Tryz.func9, Tryz.ntmps9
        go_wp2_with (go_at_call 8; (with_reducible refine (HC.out _).mono ?_); rintro e w1 ⟨rfl, hb⟩; have HB := Lib.hid (below_step HB0.out hb); clear hb)
        go_ret
        exact ⟨rfl, HB.out⟩
  · have HE : Hid (endsB op a b = false) := Lib.hid (by
      unfold endsB endOp
      have h1 : ¬ op = 18 := fun e => h (.inl e)
      have h2 : ¬ op = 24 := fun e => h (.inr (.inl e))
      have h3 : ¬ op = 25 := fun e => h (.inr (.inr (.inl e)))
      have h4 : ¬ op = 27 := fun e => h (.inr (.inr (.inr e)))
      simp [h1, h2, h3, h4])
    have h1 : (op == 18) = false := by simp; intro e; exact h (.inl e)
    have h2 : (op == 24) = false := by simp; intro e; exact h (.inr (.inl e))
    have h3 : (op == 25) = false := by simp; intro e; exact h (.inr (.inr (.inl e)))
    have h4 : (op == 27) = false := by simp; intro e; exact h (.inr (.inr (.inr e)))
    clear h
    go_enter Tryz.func9, Tryz.ntmps9
    go_wp2
    go_ret
    exact ⟨by rw [HE.out]; rfl, HB0.out⟩
set_option maxHeartbeats 1000000 in
theorem Goes11_any (op a b : Int) (w : World) : Calls Tryz.prog 11 #[.agg #[.int .i64 op, .int .i64 a, .int .i64 b]] w fun e w' => e = .returned (.tuple #[.int .i64 (goesV op a b), .bool (goesB op a b)]) ∧ Below w.heap.size w w' := by
  have hx0 := World.alloc_heap_new w (.cells #[.int .i64 op, .int .i64 a, .int .i64 b] 23)
  have HB0 := Lib.hid (below_alloc (Below.refl w.heap.size w) (.cells #[.int .i64 op, .int .i64 a, .int .i64 b] 23))
  have HX0 := Lib.hid hx0
  clear hx0
  have HK := Lib.hid (Kinds21_any op)
  have HC := Lib.hid (Check8_any op a b)
  by_cases h : ka op = 10
  · rw [h] at HK
    cases hok : okB op a b
    · have HG : Hid (goesB op a b = false) := Lib.hid (by unfold goesB; rw [hok, Bool.and_false])
      have HV : Hid (goesV op a b = 0) := Lib.hid (by unfold goesV; rw [HG.out]; rfl)
      rw [hok] at HC
      clear hok h
      go_enter Tryz.func11, Tryz.ntmps11
      go_wp2_with (first
        | (go_at_call 12; (with_reducible refine (HK.out _).mono ?_); rintro e w1 ⟨rfl, hb⟩; have hx1 := (hb.block _ (blk_lt HX0.out)).trans HX0.out; have x0 := blk_cell hx1 0; have x1 := blk_cell hx1 1; have x2 := blk_cell hx1 2; simp only [List.getElem?_toArray, List.getElem?_cons_zero, List.getElem?_cons_succ] at x0 x1 x2; have HB := Lib.hid (below_step HB0.out hb); clear hb hx1)
        | (go_at_call 8; (with_reducible refine (HC.out _).mono ?_); rintro e w2 ⟨rfl, hb⟩; have HB2 := Lib.hid (below_step HB.out hb); clear hb))
      go_ret2
      exact ⟨by rw [HG.out, HV.out]; rfl, HB2.out⟩
    · have HG : Hid (goesB op a b = true) := Lib.hid (by unfold goesB; rw [hok, h]; rfl)
      have HV : Hid (goesV op a b = a) := Lib.hid (by unfold goesV; rw [HG.out]; rfl)
      rw [hok] at HC
      clear hok h
      go_enter Tryz.func11, Tryz.ntmps11
      go_wp2_with (first
        | (go_at_call 12; (with_reducible refine (HK.out _).mono ?_); rintro e w1 ⟨rfl, hb⟩; have hx1 := (hb.block _ (blk_lt HX0.out)).trans HX0.out; have x0 := blk_cell hx1 0; have x1 := blk_cell hx1 1; have x2 := blk_cell hx1 2; simp only [List.getElem?_toArray, List.getElem?_cons_zero, List.getElem?_cons_succ] at x0 x1 x2; have HX1 := Lib.hid hx1; have HB := Lib.hid (below_step HB0.out hb); clear hb hx1)
        | (go_at_call 8; (with_reducible refine (HC.out _).mono ?_); rintro e w2 ⟨rfl, hb⟩; have hx2 := (hb.block _ (blk_lt HX1.out)).trans HX1.out; have y1 := blk_cell hx2 1; simp only [List.getElem?_toArray, List.getElem?_cons_zero, List.getElem?_cons_succ] at y1; have HB2 := Lib.hid (below_step HB.out hb); clear hb x0 x1 x2 hx2))
      go_ret2
      exact ⟨by rw [HG.out, HV.out]; rfl, HB2.out⟩
  · have HG : Hid (goesB op a b = false) := Lib.hid (by unfold goesB; rw [decide_eq_false h]; rfl)
    have HV : Hid (goesV op a b = 0) := Lib.hid (by unfold goesV; rw [HG.out]; rfl)
    have hk : ((ka op : Int) != 10) = true := by rw [bne_iff_ne]; omega
    clear h
    go_enter Tryz.func11, Tryz.ntmps11
    go_wp2_with (go_at_call 12; (with_reducible refine (HK.out _).mono ?_); rintro e w1 ⟨rfl, hb⟩; have HB := Lib.hid (below_step HB0.out hb); clear hb)
    go_ret2
    exact ⟨by rw [HG.out, HV.out]; rfl, HB.out⟩
theorem eff_len (x : Bool) (op a b : Int) : (effT x op a b).length ≤ 2 := by
  unfold effT
  split
  · rename_i h
    unfold effL
    rw [List.length_map]
    unfold fixB at h
    rw [Bool.and_eq_true] at h
    have h1 := ok_op h.1
    exact half_len ⟨op.toNat, by omega⟩ x
  · exact Nat.zero_le _
end Go.Proofs.YtamagdnlicnefaaGreatDoor
