/- Opcode: Name, Letter, BinName, UnName, what shows an operand. -/
import Derived.Lib.AppendIntMem
import Derived.Test.YtamagdnlicnefaaGreatDoorKnO1
import Derived.Test.YtamagdnlicnefaaGreatDoorKnShelf
namespace Go.Proofs.YtamagdnlicnefaaGreatDoor
open Go.RowKit Go.Shelf Go.Proofs.YtamagdnlicnefaaGreatDoorW.PrintWords Go.Proofs.YtamagdnlicnefaaGreatDoorW.PrintLast Go.Proofs.YtamagdnlicnefaaGreatDoorW.PrintMore

structure Tabs (W : World) : Prop where
  pow : Lib.TabIs Tryz.prog W "internal/strconv.uint64pow10" .u64 Lib.pow10Tab
  spc : Lib.TabIs Tryz.prog W "strings.asciiSpace" .u8 Lib.asciiSpaceTab
theorem tab_below {n : String} {k : IntKind} {zs : List Int} {w w' : World} (h : Lib.TabIs Tryz.prog w n k zs) (hb : Below w.heap.size w w') : Lib.TabIs Tryz.prog w' n k zs := by
  unfold Lib.TabIs World.var? at h ⊢
  cases hg : Tryz.prog.globalNamed n with
  | none => rw [hg] at h; cases h
  | some g =>
    rw [hg] at h
    simp only [Option.bind_some] at h ⊢
    have hlt : g < w.heap.size := by
      rcases Nat.lt_or_ge g w.heap.size with h' | h'
      · exact h'
      · rw [Array.getElem?_eq_none h'] at h; cases h
    rw [hb.block g hlt]
    exact h
theorem Tabs.below {w w' : World} (h : Tabs w) (hb : Below w.heap.size w w') : Tabs w' := ⟨tab_below h.pow hb, tab_below h.spc hb⟩
theorem field92_0 (s0 s3 s4 : ByteArray) (a b : Int) (c : Bool) (w : World) : (Instr.field 58 (.agg #[.string s0, .int .i64 a, .int .i64 b, .string s3, .string s4, .bool c]) 0).run Tryz.prog w = .ok (.string s0) w := by
  simp [Instr.field, run_underlying Tryz.underlying58, part, isAgg, asAgg, go_sem]
def nameL (op : Int) : List UInt8 := if 0 ≤ op ∧ op < 30 then (rowOf op.toNat).1 else []
set_option maxRecDepth 100000 in
set_option maxHeartbeats 1000000 in
theorem Name25_any (op : Int) (w : World) : Calls Tryz.prog 21 #[.int .i64 op] w fun e w' => e = .returned (.string ⟨(nameL op).toArray⟩) ∧ Below w.heap.size w w' := by
  have HN := Lib.hid (known22_any op)
  by_cases h : 0 ≤ op ∧ op < 30
  · obtain ⟨k, rfl⟩ := Int.eq_ofNat_of_zero_le h.1
    have hk : k < 30 := by omega
    have ha : nameL (k : Int) = (rowOf k).1 := by unfold nameL; rw [if_pos h]; rfl
    have hB : knownB (k : Int) = true := by unfold knownB; rw [decide_eq_true h.1, decide_eq_true h.2]; rfl
    rw [hB] at HN
    have HI := Lib.hid (index93 k hk)
    obtain ⟨r, hr⟩ : ∃ r, rowOf k = r := ⟨_, rfl⟩
    have hv : rowV k = .agg #[.string ⟨r.1.toArray⟩, .int .i64 r.2.1, .int .i64 r.2.2.1, .string ⟨r.2.2.2.1.toArray⟩, .string ⟨r.2.2.2.2.1.toArray⟩, .bool r.2.2.2.2.2] := by rw [← hr]; rfl
    rw [hr] at ha
    have HI2 : Hid (∀ w, (Instr.index 59 (.agg rowsC) (.int .i64 k)).run Tryz.prog w = .ok (.agg #[.string ⟨r.1.toArray⟩, .int .i64 r.2.1, .int .i64 r.2.2.1, .string ⟨r.2.2.2.1.toArray⟩, .string ⟨r.2.2.2.2.1.toArray⟩, .bool r.2.2.2.2.2]) w) := Lib.hid (fun w => by rw [← hv]; exact HI.out w)
    have HA2 := Lib.hid ha
    clear h hk ha hB HI hr hv
    generalize hR : Value.agg rowsC = R at *
    have hx := HI2.out
    have hy := field92_0
    have HR := Lib.hid hR
    clear hR
    go_enter Tryz.func21, Tryz.ntmps21
    go_wp2_with (first
      | (go_at_call 37; (with_reducible refine (HN.out _).mono ?_); rintro e w' ⟨rfl, rfl⟩)
      | (go_at_call 32; (with_reducible refine (rows41_any _).mono ?_); rintro e w1 ⟨rfl, hb1⟩; rw [HR.out]; have HB1 := Lib.hid hb1; clear hb1))
    go_ret
    exact ⟨by rw [HA2.out]; rfl, HB1.out⟩
  · have hB : knownB op = false := by simp only [knownB, Bool.and_eq_false_iff, decide_eq_false_iff_not]; omega
    rw [hB] at HN
    have HA2 : Hid (nameL op = []) := Lib.hid (by simp only [nameL, if_neg h])
    clear h hB
    go_enter Tryz.func21, Tryz.ntmps21
    go_wp2_with (go_at_call 37; (with_reducible refine (HN.out _).mono ?_); rintro e w' ⟨rfl, rfl⟩)
    go_ret
    exact ⟨by rw [HA2.out]; rfl, Below.refl _ _⟩
def letterL (t : Int) : List UInt8 := if t = 1 then [73] else if t = 2 then [82] else if t = 3 then [70] else [80]
theorem Letter44_in (t : Int) (w : World) (h1 : 1 ≤ t) (h2 : t ≤ 4) : Calls Tryz.prog 36 #[.int .i64 t] w fun e w' => e = .returned (.string ⟨(letterL t).toArray⟩) ∧ Below w.heap.size w w' := by
  have h : t = 1 ∨ t = 2 ∨ t = 3 ∨ t = 4 := by omega
  clear h1 h2
  rcases h with rfl | rfl | rfl | rfl
  all_goals
    go_enter Tryz.func36, Tryz.ntmps36
    go_wp2
    go_ret
    exact ⟨rfl, Below.refl _ _⟩
set_option maxHeartbeats 1000000 in
theorem named66_in (s : ByteArray) (n N : Nat) (l : List UInt8) (w : World) (hs : s.size < 4294967281) (ha : ∀ (j : Nat) b, s.data.toList[j]? = some b → b.toNat < 128) (hT : Tabs w) (hN : (Lib.fields s.data.toList).length = N) (hN2 : N ≤ 1000) (hn : n < N) (hl : (Lib.fields s.data.toList)[n]? = some l) :
    Calls Tryz.prog 90 #[.string s, .int .i64 n] w fun e w' => e = .returned (.string ⟨l.toArray⟩) ∧ Below w.heap.size w w' := by
  have HF : Hid (∃ W, Below w.heap.size w W ∧ W.cell? ⟨w.heap.size, n, none⟩ = some (.string ⟨l.toArray⟩) ∧ Calls Tryz.prog 114 #[.string s] w fun e w' => e = .returned (.slice (some ⟨w.heap.size, 0, none⟩) N N) ∧ w' = W) := Lib.hid (by
    refine ⟨_, below_alloc (Below.refl _ _) _, ?_, by have := Tryz.strings_Fields_laid s w hs ha hT.spc; rw [hN] at this; exact this⟩
    have := blk_cell (World.alloc_heap_new w (.cells ((Lib.fields s.data.toList).map fun l => Value.string ⟨l.toArray⟩).toArray 9)) n
    rw [this]
    simp [hl])
  obtain ⟨W, hb, hc, hF⟩ := HF.out
  have HC := Lib.hid hF
  have HB := Lib.hid hb
  clear hF hb HF hl hN ha hs hT
  have h1 : (n : Int) < N := by omega
  have h2 : (N : Int) ≤ 1000 := by omega
  go_enter Tryz.func90, Tryz.ntmps90
  go_wp2_with (go_at_call 114; (with_reducible refine HC.out.mono ?_); rintro e w' ⟨rfl, rfl⟩)
  go_ret
  exact ⟨rfl, HB.out⟩
def binS : ByteArray := ⟨#[97, 100, 100, 32, 115, 117, 98, 32, 109, 117, 108, 32, 100, 105, 118, 32, 114, 101, 109, 32, 97, 110, 100, 32, 111, 114, 32, 120, 111, 114, 32, 97, 110, 100, 110, 111, 116, 32, 115, 104, 108, 32, 115, 104, 114, 32, 108, 116, 32, 108, 101, 32, 101, 113]⟩
def unS : ByteArray := ⟨#[110, 101, 103, 32, 110, 111, 116, 32, 122, 101, 114, 111, 32, 105, 56, 32, 105, 49, 54, 32, 105, 51, 50, 32, 117, 56, 32, 117, 49, 54, 32, 117, 51, 50]⟩
def binL (n : Int) : List UInt8 := (Lib.fields binS.data.toList).getD n.toNat []
def unL (n : Int) : List UInt8 := (Lib.fields unS.data.toList).getD n.toNat []
theorem bin_len : (Lib.fields binS.data.toList).length = 14 := by decide +kernel
theorem un_len : (Lib.fields unS.data.toList).length = 9 := by decide +kernel
theorem getD_some {α : Type} (l : List α) (n : Nat) (d : α) (h : n < l.length) : l[n]? = some (l.getD n d) := by simp [List.getD, h]
theorem low_of {l : List UInt8} (h : l.all (fun b => decide (b.toNat < 128)) = true) (j : Nat) (b : UInt8) (hj : l[j]? = some b) : b.toNat < 128 := of_decide_eq_true (List.all_eq_true.1 h b (List.mem_of_getElem? hj))
theorem BinName45_in (n : Nat) (w : World) (hn : n < 14) (hT : Tabs w) : Calls Tryz.prog 60 #[.int .i64 n] w fun e w' => e = .returned (.string ⟨(binL n).toArray⟩) ∧ Below w.heap.size w w' := by
  have H := Lib.hid (named66_in binS n 14 (binL n) w (by decide +kernel) (low_of (by decide +kernel)) hT bin_len (by omega) hn (getD_some _ _ _ (by rw [bin_len]; exact hn)))
  unfold binS at H
  clear hT hn
  generalize binL n = l at *
  go_enter Tryz.func60, Tryz.ntmps60
  go_wp2_with (go_at_call 90; (with_reducible refine H.out.mono ?_); rintro e w' ⟨rfl, hb⟩)
  go_ret
  exact ⟨rfl, hb⟩
theorem UnName46_in (n : Nat) (w : World) (hn : n < 9) (hT : Tabs w) : Calls Tryz.prog 61 #[.int .i64 n] w fun e w' => e = .returned (.string ⟨(unL n).toArray⟩) ∧ Below w.heap.size w w' := by
  have H := Lib.hid (named66_in unS n 9 (unL n) w (by decide +kernel) (low_of (by decide +kernel)) hT un_len (by omega) hn (getD_some _ _ _ (by rw [un_len]; exact hn)))
  unfold unS at H
  clear hT hn
  generalize unL n = l at *
  go_enter Tryz.func61, Tryz.ntmps61
  go_wp2_with (go_at_call 90; (with_reducible refine H.out.mono ?_); rintro e w' ⟨rfl, hb⟩)
  go_ret
  exact ⟨rfl, hb⟩
def showK (k : Nat) (n : Int) : List UInt8 := if isNamed k = true then (if k = 8 then binL n else if k = 9 then unL n else letterL n) else Lib.itoa n
theorem nameF_in (k : Nat) (n : Int) (w : World) (hk : isNamed k = true) (hn : inB k n = true) (hT : Tabs w) : Calls Tryz.prog (nameF k) #[.int .i64 n] w fun e w' => e = .returned (.string ⟨(showK k n).toArray⟩) ∧ Below w.heap.size w w' := by
  have hk4 : k = 2 ∨ k = 3 ∨ k = 8 ∨ k = 9 := by
    unfold isNamed at hk
    simp only [Bool.or_eq_true, beq_iff_eq] at hk
    omega
  unfold inB at hn
  simp only [Bool.and_eq_true, decide_eq_true_eq] at hn
  rcases hk4 with rfl | rfl | rfl | rfl
  · exact Letter44_in n w hn.1 hn.2
  · exact Letter44_in n w hn.1 (Int.le_trans hn.2 (by decide))
  · obtain ⟨m, rfl⟩ := Int.eq_ofNat_of_zero_le (show 0 ≤ n from hn.1)
    have : (m : Int) ≤ 13 := hn.2
    exact BinName45_in m w (by omega) hT
  · obtain ⟨m, rfl⟩ := Int.eq_ofNat_of_zero_le (show 0 ≤ n from hn.1)
    have : (m : Int) ≤ 8 := hn.2
    exact UnName46_in m w (by omega) hT
theorem show64_in (k : Nat) (n : Int) (b : Nat) (w : World) (hk : isNamed k = true) (hn : inB k n = true) (hT : Tabs w) (hb : w.heap[b]? = some (.cells #[.func (.func (nameF k)) #[] #[]] 45 (0, 0))) :
    Calls Tryz.prog 89 #[.int .i64 n, .pointer (some ⟨b, 0, none⟩)] w fun e w' => e = .returned (.string ⟨(showK k n).toArray⟩) ∧ Below w.heap.size w w' := by
  have H := Lib.hid (nameF_in k n w hk hn hT)
  have hc := blk_cell hb 0
  have h3 : nameF k = 36 ∨ nameF k = 60 ∨ nameF k = 61 := by unfold nameF; split <;> (try split) <;> simp
  simp only [List.getElem?_toArray, List.getElem?_cons_zero] at hc
  clear hb hT hn hk
  generalize showK k n = l at *
  rcases h3 with h3 | h3 | h3
  all_goals
    rw [h3] at H hc
    clear h3
    go_enter Tryz.func89, Tryz.ntmps89
    go_wp2_with ((first | go_at_call 36 | go_at_call 60 | go_at_call 61); (with_reducible refine H.out.mono ?_); rintro e w' ⟨rfl, hb⟩)
    go_ret
    exact ⟨rfl, hb⟩
theorem show61_any (n : Int) (w : World) (h0 : -9223372036854775808 ≤ n) (h1 : n ≤ 9223372036854775807) (hT : Tabs w) : Calls Tryz.prog 86 #[.int .i64 n] w fun e w' => e = .returned (.string ⟨(Lib.itoa n).toArray⟩) ∧ Below w.heap.size w w' := by
  have H : Hid (Calls Tryz.prog 87 #[.int .i64 n, .int .i64 10] w fun e w' => e = .returned (.string ⟨(Lib.itoa n).toArray⟩) ∧ Below w.heap.size w w') :=
    Lib.hid ((Tryz.strconv_FormatInt_10 n h0 h1 w hT.pow).mono fun e w' ⟨h, k, os, h2⟩ => ⟨h, by rw [h2]; exact Lib.below_grow _ w (Nat.le_refl _) k os⟩)
  clear hT
  generalize Lib.itoa n = l at *
  go_enter Tryz.func86, Tryz.ntmps86
  go_wp2_with (go_at_call 87; (with_reducible refine H.out.mono ?_); rintro e w' ⟨rfl, hb⟩)
  go_ret
  exact ⟨rfl, hb⟩
end Go.Proofs.YtamagdnlicnefaaGreatDoor
