/- ShapeParts' walk. -/
import Derived.Test.YtacmajlbaenjfaaTb
import Derived.Test.YtacmajlbaenjfaaSyb
namespace Go.Proofs.Ytacmajlbaenjfaa
open Go.RowKit Go.Shelf Go.Proofs.YtacmajlbaenjfaaW.PrintWords Go.Proofs.YtacmajlbaenjfaaW.PrintLast Go.Proofs.YtacmajlbaenjfaaW.PrintMore
open Go.Proofs.Ytacmajlbaenjfaa.PRef

theorem same28t (W : World) (A B A2 B2 : Option Addr) (c d c2 d2 : Nat) (xs ys : List Int) (hC : (Kd.int .i64).C W A xs.length xs) (hD : (Kd.int .i64).C W B ys.length ys) (hC2 : (Kd.int .i64).C W A2 xs.length xs) (hD2 : (Kd.int .i64).C W B2 ys.length ys) :
    Calls Try.prog 28 #[.agg #[.slice A xs.length c, .slice B ys.length d], .agg #[.slice A2 xs.length c2, .slice B2 ys.length d2]] W fun e w' => e = .returned (.bool true) ∧ Below W.heap.size W w' := by
  have h := Same28_any W A B A2 B2 c d c2 d2 xs ys xs ys hC hD hC2 hD2
  rw [decide_eq_true (rfl : xs = xs), decide_eq_true (rfl : ys = ys)] at h
  exact h
def grS (xs ys zs : List Int) : Int := if 100 < xs.length ∨ 100 < ys.length ∨ 100 < zs.length then 1 else 0
theorem great9p (W : World) (A : Option Addr) (c : Nat) (xs : List Int) (B : Option Addr) (d : Nat) (ys : List Int) (C : Option Addr) (e : Nat) (zs : List Int) (hA : (Kd.int .i64).C W A xs.length xs) (hc : xs.length ≤ c) (hB : (Kd.int .i64).C W B ys.length ys) (hd : ys.length ≤ d) (hC : (Kd.int .i64).C W C zs.length zs) (he : zs.length ≤ e) :
    Calls Try.prog 9 #[.slice A xs.length c, .agg #[.slice B ys.length d, .slice C zs.length e]] W fun e w' => e = .returned (.int .i64 (grS xs ys zs)) ∧ Below W.heap.size W w' := by
  refine backstayref06_Great.calls A c xs B d ys C e zs _ W hA hc hB hd hC he ?_
  unfold backstayref06_Great.f grS
  by_cases h1 : 100 < xs.length
  · rw [if_pos (by omega), if_pos (.inl h1)]
  · rw [if_neg (by omega)]
    by_cases h2 : 100 < ys.length
    · rw [if_pos (by omega), if_pos (.inr (.inl h2))]
    · rw [if_neg (by omega)]
      by_cases h3 : 100 < zs.length
      · rw [if_pos (by omega), if_pos (.inr (.inr h3))]
      · rw [if_neg (by omega), if_neg (fun h => h.elim h1 (fun h => h.elim h2 h3))]
theorem grS_one {xs ys zs : List Int} (h : ¬ grS xs ys zs = 0) : grS xs ys zs = 1 := by
  unfold grS at h ⊢
  split at h
  · rw [if_pos ‹_›]
  · exact absurd rfl h
theorem grS_zero {xs ys zs : List Int} (h : grS xs ys zs = 0) : xs.length ≤ 100 ∧ ys.length ≤ 100 ∧ zs.length ≤ 100 := by
  unfold grS at h
  split at h
  · cases h
  · rename_i h1
    exact ⟨Nat.le_of_not_lt (fun h2 => h1 (.inl h2)), Nat.le_of_not_lt (fun h2 => h1 (.inr (.inl h2))), Nat.le_of_not_lt (fun h2 => h1 (.inr (.inr h2)))⟩
/-- One cell alone. -/
theorem one_ok {x : Int} (h1 : 1 ≤ x) (h3 : x ≤ 3) : shapeOk [x] = true := by
  unfold shapeOk
  rw [Bool.and_eq_true, Bool.and_eq_true]
  refine ⟨⟨rfl, rfl⟩, ?_⟩
  rw [List.all_cons, tyB_true, decide_eq_true h1, decide_eq_true h3]; rfl
theorem mid_one {xs : List Int} {i : Nat} (h : i < xs.length) : (xs.take (i + 1)).drop i = [rd xs (i : Int)] := by
  rw [List.take_add_one, rd_mem h]
  have hl : (xs.take i).length = i := by rw [List.length_take]; omega
  have h2 : List.drop (xs.take i).length (xs.take i ++ [rd xs (i : Int)]) = [rd xs (i : Int)] := List.drop_left
  rw [hl] at h2
  exact h2
theorem cut_one (A : Option Addr) (c : Nat) (xs : List Int) (i : Nat) (h : i < xs.length) (hc : xs.length ≤ c) :
    ∃ A', (∀ W, (Instr.slice 22 (.slice A xs.length c) (some (.int .i64 i)) (some (.int .i64 ((i : Int) + 1))) none).run Try.prog W = .ok (.slice A' 1 (c - i)) W) ∧
      ∀ W, (Kd.int .i64).C W A xs.length xs → (Kd.int .i64).C W A' [rd xs (i : Int)].length [rd xs (i : Int)] := by
  obtain ⟨i0, hi0, hz0, hz1, hz2⟩ := info_parts info3
  refine ⟨if c = i then A else A.map (·.add (i * 1)), fun W => ?_, fun W hC => ?_⟩
  · have h := cut_mid 22 3 .i64 .i64 Try.underlying22 hi0 1 hz1 A xs.length c i ((i + 1 : Nat) : Int) (by omega) (by omega) (by omega) hc W
    have e : ((i + 1 : Nat) : Int) = (i : Int) + 1 := by omega
    rw [e] at h
    have e2 : ((i : Int) + 1).toNat - i = 1 := by omega
    simpa [e2] using h
  · have h2 := Kd.C_mid (lo := i) (hi := i + 1) hC (by omega) (by omega) hc
    rw [mid_one h] at h2
    exact h2
theorem chk22b (w : World) (A : Option Addr) (c : Nat) (xs : List Int) (ok : Bool) (hC : (Kd.int .i64).C w A xs.length xs) (h : shapeOk xs = ok) :
    Calls Try.prog 22 #[.slice A xs.length c] w fun e w' => e = .returned (.int .i64 (if ok = true then 0 else 60)) ∧ Below w.heap.size w w' := by
  subst h
  exact Check_any w A c xs hC
def cnt4 (xs : List Int) : Nat := (xs.filter (fun x => x == 4)).length
theorem cnt4_next {xs : List Int} {k : Nat} (h : k < xs.length) : cnt4 (xs.take (k + 1)) = cnt4 (xs.take k) + if rd xs (k : Int) = 4 then 1 else 0 := by
  unfold cnt4
  rw [List.take_add_one, rd_mem h, List.filter_append, List.length_append]
  congr 1
  by_cases h4 : rd xs (k : Int) = 4
  · simp [h4]
  · simp [h4]
theorem cnt4_le (xs : List Int) : cnt4 xs ≤ xs.length := List.length_filter_le _ _
theorem turned_ok {xs ys : List Int} (h : sigOk xs ys = true) : sigOk ys xs = decide (cnt4 xs = 0) := by
  have hl := sigOk_len h
  have hx := sigOk_args h
  have hy := sigOk_res h
  unfold sigOk
  rw [decide_eq_true (show ys.length + xs.length ≤ 64 by omega), Bool.true_and]
  have h1 : ys.all (tyB false) = true := List.all_eq_true.2 (fun x hx' => by
    have := hy x hx'
    rw [tyB_false, decide_eq_true this.1, decide_eq_true (by omega)]; rfl)
  rw [h1, Bool.true_and, Bool.eq_iff_iff, List.all_eq_true, decide_eq_true_iff]
  unfold cnt4
  rw [List.length_eq_zero_iff, List.filter_eq_nil_iff]
  constructor
  · intro h2 x hx'
    have := h2 x hx'
    rw [tyB_true] at this
    simp at this ⊢
    omega
  · intro h2 x hx'
    have h3 := h2 x hx'
    have h4 := hx x hx'
    rw [tyB_true]
    simp at h3 ⊢
    omega

/-- What stands in every world from here on. -/
structure FP (W : World) (n0 : Nat) (A B C : Option Addr) (d e : Nat) (xs ys zs : List Int) : Prop where
  a : (Kd.int .i64).C W A xs.length xs
  b : (Kd.int .i64).C W B ys.length ys
  c : (Kd.int .i64).C W C zs.length zs
  x : W.heap[n0]? = some (.cells #[.slice B ys.length d, .slice C zs.length e] 26 (0, 0))
theorem FP.below {W W' : World} {n0 : Nat} {A B C : Option Addr} {d e : Nat} {xs ys zs : List Int} (h : FP W n0 A B C d e xs ys zs) (hb : Below W.heap.size W W') : FP W' n0 A B C d e xs ys zs :=
  ⟨Kd.C_below h.a hb, Kd.C_below h.b hb, Kd.C_below h.c hb, (hb.block _ (blk_lt h.x)).trans h.x⟩

set_option maxRecDepth 100000 in
set_option maxHeartbeats 8000000 in
theorem parts_walk (A : Option Addr) (c : Nat) (xs : List Int) (B : Option Addr) (d : Nat) (ys : List Int) (C : Option Addr) (e0 : Nat) (zs : List Int) (w : World) (hA : (Kd.int .i64).C w A xs.length xs) (hc : xs.length ≤ c)
    (hB : (Kd.int .i64).C w B ys.length ys) (hd : ys.length ≤ d) (hC : (Kd.int .i64).C w C zs.length zs) (he : zs.length ≤ e0) :
    Calls Try.prog 5 #[.slice A xs.length c, .agg #[.slice B ys.length d, .slice C zs.length e0]] w fun e w' => e = .returned (.bool true) ∧ Below w.heap.size w w' := by
  have hba := below_alloc (Below.refl w.heap.size w) (.cells #[.slice B ys.length d, .slice C zs.length e0] 26)
  have hf0 : FP (w.alloc (.cells #[.slice B ys.length d, .slice C zs.length e0] 26)) w.heap.size A B C d e0 xs ys zs := ⟨Kd.C_below hA hba, Kd.C_below hB hba, Kd.C_below hC hba, World.alloc_heap_new _ _⟩
  have HF0 := Lib.hid hf0
  have HBase := Lib.hid hba
  have HCC : Hid (xs.length ≤ c ∧ ys.length ≤ d ∧ zs.length ≤ e0) := Lib.hid ⟨hc, hd, he⟩
  have HA := Lib.hid (fun W => alive26 W)
  clear hba hf0 hA hc hB hd hC he
  have HG := Lib.hid (fun (W : World) (h : FP W w.heap.size A B C d e0 xs ys zs) => great9p W A c xs B d ys C e0 zs h.a HCC.out.1 h.b HCC.out.2.1 h.c HCC.out.2.2)
  generalize hwb : w.alloc (.cells #[.slice B ys.length d, .slice C zs.length e0] 26) = wb at HF0 HBase
  have HWB := Lib.hid hwb
  clear hwb
  have W0 := Lib.hid (Below.refl wb.heap.size wb)
  by_cases g1 : grS xs ys zs = 0
  case neg =>
    rw [grS_one g1] at HG
    clear g1
    go_enter Try.func5, Try.ntmps5
    go_upto_region 1 with (fail)
    rw [HWB.out]
    obtain ⟨q0, q1⟩ := pair_cells HF0.out.x
    go_wp2_with (first | (go_at_call 26; refine (HA.out _).mono ?_; rintro e w1 ⟨rfl, hb⟩; have HW_ := Lib.hid (below_then W0.out W0.out.size hb); clear W0 q0 q1; have W0 := HW_; obtain ⟨q0, q1⟩ := pair_cells (HF0.out.below W0.out).x; clear HW_; clear hb) | (go_at_call 9; (with_reducible refine (HG.out _ (HF0.out.below W0.out)).mono ?_); rintro e w2 ⟨rfl, hb⟩; have HW_ := Lib.hid (below_then W0.out W0.out.size hb); clear W0 q0 q1; have W0 := HW_; obtain ⟨q0, q1⟩ := pair_cells (HF0.out.below W0.out).x; clear HW_; clear hb))
    go_ret
    exact ⟨rfl, below_then HBase.out HBase.out.size W0.out⟩
  case pos =>
  have HL := Lib.hid (grS_zero g1)
  rw [g1] at HG
  clear g1
  obtain ⟨ok, hok⟩ : ∃ ok, shapeOk xs = ok := ⟨_, rfl⟩
  have HOK := Lib.hid hok
  clear hok
  go_enter Try.func5, Try.ntmps5
  go_upto_region 1 with (fail)
  rw [HWB.out]
  obtain ⟨q0, q1⟩ := pair_cells HF0.out.x
  go_upto_region 4 with (first | (go_at_call 26; refine (HA.out _).mono ?_; rintro e w1 ⟨rfl, hb⟩; have HW_ := Lib.hid (below_then W0.out W0.out.size hb); clear W0 q0 q1; have W0 := HW_; obtain ⟨q0, q1⟩ := pair_cells (HF0.out.below W0.out).x; clear HW_; clear hb) | (go_at_call 9; (with_reducible refine (HG.out _ (HF0.out.below W0.out)).mono ?_); rintro e w2 ⟨rfl, hb⟩; have HW_ := Lib.hid (below_then W0.out W0.out.size hb); clear W0 q0 q1; have W0 := HW_; obtain ⟨q0, q1⟩ := pair_cells (HF0.out.below W0.out).x; clear HW_; clear hb))
  have hcell : ∀ (W : World) (j : Int) (h : (Kd.int .i64).C W A xs.length xs), ¬ (ok = true ∧ 0 ≤ j ∧ j < xs.length) → Calls Try.prog 16 #[.slice A xs.length c, .int .i64 j] W fun e w' => e = .returned (.tuple #[.int .i64 0, .int .i64 60]) ∧ Below W.heap.size W w' := by
    intro W j h hn
    have h1 := Cell16_any W A c xs j h
    have e : cellSh xs j = (0, 60) := by unfold cellSh; rw [HOK.out, if_neg hn]
    rwa [e] at h1
  have HCell := Lib.hid hcell
  clear hcell
  cases ok
  · go_upto_region 5 with (go_at_call 22; (with_reducible refine (chk22b w2 A c xs false (HF0.out.below W0.out).a HOK.out).mono ?_); rintro e w3 ⟨rfl, hb⟩; have HW_ := Lib.hid (below_then W0.out W0.out.size hb); clear W0 q0 q1; have W0 := HW_; obtain ⟨q0, q1⟩ := pair_cells (HF0.out.below W0.out).x; clear HW_; clear hb)
    clear q0 q1
    go_wp2
    go_loopw [7] (fun i W => ∃ j : Int, -1 ≤ j ∧ j ≤ (xs.length : Int) + 1 ∧ i = .int .i64 j ∧ Aside0 (Below wb.heap.size wb W)) (fun i _ => ((xs.length : Int) + 1 - intOf i).toNat)
    case atStart => exact ⟨-1, by omega, by omega, rfl, Aside0.mk W0.out⟩
    case round =>
      clear W0
      obtain ⟨j, hj0, hj1, rfl, W0⟩ := hrel
      have hn100 := HL.out.1
      by_cases hle : j ≤ (xs.length : Int)
      · go_wp2_with (go_at_call 16; (with_reducible refine (HCell.out _ j (HF0.out.below W0.out).a (fun h => by cases h.1)).mono ?_); rintro e w4 ⟨rfl, hb⟩; have HW4 := Lib.hid (below_then W0.out W0.out.size hb); clear hb)
        go_roundw
        case rel => exact ⟨j + 1, by omega, by omega, by go_num, Aside0.mk HW4.out⟩
        case measure => simp [intOf]; omega
      · have hle' : (xs.length : Int) < j := by omega
        have W1 := Lib.hid W0.out
        obtain ⟨wo, rfl⟩ : ∃ wo : World, wo = wr := ⟨_, rfl⟩
        clear W0 hle hj0 hj1
        obtain ⟨q0, q1⟩ := pair_cells (HF0.out.below W1.out).x
        cases hs : sigOk ys zs
        · go_wp2_with (go_at_call 27; (with_reducible refine (sig_no wo B C d e0 ys zs (HF0.out.below W1.out).b (HF0.out.below W1.out).c (by have := HL.out; omega) (by have := HL.out; omega) hs).mono ?_); rintro e w6 ⟨rfl, hb⟩; have HW6 := Lib.hid (below_then W1.out W1.out.size hb); clear hb)
          go_ret
          exact ⟨rfl, below_then HBase.out HBase.out.size HW6.out⟩
        · have HS := Lib.hid hs
          have HTU := Lib.hid (turned_ok hs)
          clear hs
          go_upto_region 14 with (go_at_call 27; (with_reducible refine (sig_yes wo B C d e0 ys zs (HF0.out.below W1.out).b (HF0.out.below W1.out).c (by have := HL.out; omega) (by have := HL.out; omega) HS.out).mono ?_); rintro e w6 ⟨rfl, hb⟩; have HW6 := Lib.hid (below_then W1.out W1.out.size hb); clear hb)
          clear q0 q1 W1
          have W1 := HW6
          clear HW6
          obtain ⟨q0, q1⟩ := pair_cells (HF0.out.below W1.out).x
          have hy100 := HL.out.2.1
          go_wp2
          go_loop [83, 11] (fun i p => ∃ k : Nat, k ≤ ys.length ∧ i = .int .i64 k ∧ p = .int .i64 (cnt4 (ys.take k) : Nat)) (fun i _ => ys.length - (intOf i).toNat)
          case atStart => exact ⟨0, by omega, rfl, rfl⟩
          case round =>
            obtain ⟨k, hk, rfl, rfl⟩ := hrel
            have hcn : cnt4 (ys.take k) ≤ 100 := by have := cnt4_le (ys.take k); rw [List.length_take] at this; omega
            by_cases hlt : k < ys.length
            · have hlt2 : (k : Int) < (ys.length : Int) := by omega
              obtain ⟨ad, hB, e1⟩ := Kd.at_int (HF0.out.below W1.out).b (k : Int) (by omega) (by omega)
              rw [Int.toNat_natCast] at e1
              have hnx := cnt4_next hlt
              generalize cnt4 (ys.take k) = cn at *
              obtain ⟨x, hx⟩ : ∃ x, rd ys (k : Int) = x := ⟨_, rfl⟩
              rw [hx] at hnx e1
              have HNX := Lib.hid hnx
              rw [hB]
              clear hnx hx
              by_cases hx4 : x = 4
              · subst hx4
                go_wp2
                go_round
                case rel => exact ⟨k + 1, by omega, by go_num, by rw [HNX.out, if_pos rfl]; go_num⟩
                case measure => simp [intOf]; omega
              · have hx4' : (x == 4) = false := by rw [beq_eq_false_iff_ne]; exact hx4
                go_wp2
                go_round
                case rel => exact ⟨k + 1, by omega, by go_num, by rw [HNX.out, if_neg hx4]; rfl⟩
                case measure => simp [intOf]; omega
            · obtain rfl : k = ys.length := by omega
              have hlt2 : ¬ (ys.length : Int) < (ys.length : Int) := by omega
              rw [List.take_length]
              rw [List.take_length] at hcn
              have hz100 := HL.out.2.2
              obtain ⟨cn, hcnv⟩ : ∃ cn, cnt4 ys = cn := ⟨_, rfl⟩
              have HCN := Lib.hid hcnv
              rw [hcnv]
              clear hcn hcnv hk hlt
              go_wp2
              go_loopw [95] (fun i W => ∃ k : Nat, k ≤ zs.length ∧ i = .int .i64 k ∧ Aside0 (Below wb.heap.size wb W)) (fun i _ => zs.length - (intOf i).toNat)
              case atStart => exact ⟨0, by omega, rfl, Aside0.mk W1.out⟩
              case round =>
                clear W1 q0 q1
                obtain ⟨k, hk, rfl, W1⟩ := hrel
                obtain ⟨q0, q1⟩ := pair_cells (HF0.out.below W1.out).x
                by_cases hlt : k < zs.length
                · have hlt2 : (k : Int) < (zs.length : Int) := by omega
                  obtain ⟨A', hcut, hcc⟩ := cut_one C e0 zs k hlt HCC.out.2.2
                  have hx := sigOk_res HS.out (rd zs (k : Int)) (List.mem_of_getElem? (rd_mem hlt))
                  have HOne := Lib.hid (show (if shapeOk [rd zs (k : Int)] then 0 else 60 : Int) = 0 by rw [one_ok hx.1 hx.2]; rfl)
                  have HCUT := Lib.hid hcc
                  obtain ⟨x, hxv⟩ : ∃ x, rd zs (k : Int) = x := ⟨_, rfl⟩
                  rw [hxv] at HOne HCUT
                  have h00 : (0 : Int) ≤ (k : Int) := by omega
                  clear hcc hx hxv hlt
                  go_wp2_with (go_at_call 22; (with_reducible refine (chk22k _ A' (e0 - k) 1 [x] 0 (HCUT.out _ (HF0.out.below W1.out).c) HOne.out rfl).mono ?_); rintro e w7 ⟨rfl, hb⟩; have HW7 := Lib.hid (below_then W1.out W1.out.size hb); clear hb)
                  go_roundw
                  case rel => exact ⟨k + 1, by omega, by go_num, Aside0.mk HW7.out⟩
                  case measure => simp [intOf]; omega
                · obtain rfl : k = zs.length := by omega
                  have hlt2 : ¬ (zs.length : Int) < (zs.length : Int) := by omega
                  clear hlt hk
                  have htu := HTU.out
                  rw [HCN.out] at htu
                  by_cases h0 : cn = 0
                  · subst h0
                    have HT2 := Lib.hid (show sigOk zs ys = true by rw [htu]; rfl)
                    clear htu
                    go_wp2_with (first | (go_at_call 27; (with_reducible refine (sig_yes _ C B e0 d zs ys (HF0.out.below W1.out).c (HF0.out.below W1.out).b (by have := HL.out; omega) (by have := HL.out; omega) HT2.out).mono ?_); rintro e w8 ⟨rfl, hb⟩; have HW8 := Lib.hid (below_then W1.out W1.out.size hb); clear q0 q1; obtain ⟨q0, q1⟩ := pair_cells (HF0.out.below HW8.out).x; clear hb) | (go_at_call 28; (with_reducible refine (same28t _ B C B C d e0 d e0 ys zs (HF0.out.below HW8.out).b (HF0.out.below HW8.out).c (HF0.out.below HW8.out).b (HF0.out.below HW8.out).c).mono ?_); rintro e w9 ⟨rfl, hb⟩; have HW9 := Lib.hid (below_then HW8.out HW8.out.size hb); clear hb))
                    go_ret
                    exact ⟨rfl, below_then HBase.out HBase.out.size HW9.out⟩
                  · have HT2 := Lib.hid (show sigOk zs ys = false by rw [htu]; exact decide_eq_false h0)
                    have h0' : ((cn : Int) == 0) = false := by rw [beq_eq_false_iff_ne]; omega
                    clear htu h0
                    go_wp2_with (first | (go_at_call 27; (with_reducible refine (sig_no _ C B e0 d zs ys (HF0.out.below W1.out).c (HF0.out.below W1.out).b (by have := HL.out; omega) (by have := HL.out; omega) HT2.out).mono ?_); rintro e w8 ⟨rfl, hb⟩; have HW8 := Lib.hid (below_then W1.out W1.out.size hb); clear q0 q1; obtain ⟨q0, q1⟩ := pair_cells (HF0.out.below HW8.out).x; clear hb) | (go_at_call 28; (with_reducible refine (same28t _ B C B C d e0 d e0 ys zs (HF0.out.below HW8.out).b (HF0.out.below HW8.out).c (HF0.out.below HW8.out).b (HF0.out.below HW8.out).c).mono ?_); rintro e w9 ⟨rfl, hb⟩; have HW9 := Lib.hid (below_then HW8.out HW8.out.size hb); clear hb))
                    go_ret
                    exact ⟨rfl, below_then HBase.out HBase.out.size HW9.out⟩
  · go_upto_region 5 with (go_at_call 22; (with_reducible refine (chk22b w2 A c xs true (HF0.out.below W0.out).a HOK.out).mono ?_); rintro e w3 ⟨rfl, hb⟩; have HW_ := Lib.hid (below_then W0.out W0.out.size hb); clear W0 q0 q1; have W0 := HW_; obtain ⟨q0, q1⟩ := pair_cells (HF0.out.below W0.out).x; clear HW_; clear hb)
    clear q0 q1
    go_wp2
    go_loopw [7] (fun i W => ∃ j : Int, -1 ≤ j ∧ j ≤ (xs.length : Int) + 1 ∧ i = .int .i64 j ∧ Aside0 (Below wb.heap.size wb W)) (fun i _ => ((xs.length : Int) + 1 - intOf i).toNat)
    case atStart => exact ⟨-1, by omega, by omega, rfl, Aside0.mk W0.out⟩
    case round =>
      clear W0
      obtain ⟨j, hj0, hj1, rfl, W0⟩ := hrel
      have hn100 := HL.out.1
      by_cases hle : j ≤ (xs.length : Int)
      · by_cases h0 : j < 0
        · go_wp2_with (go_at_call 16; (with_reducible refine (HCell.out _ j (HF0.out.below W0.out).a (fun h => by omega)).mono ?_); rintro e w4 ⟨rfl, hb⟩; have HW4 := Lib.hid (below_then W0.out W0.out.size hb); clear hb)
          go_roundw
          case rel => exact ⟨j + 1, by omega, by omega, by go_num, Aside0.mk HW4.out⟩
          case measure => simp [intOf]; omega
        · by_cases h1 : j < (xs.length : Int)
          · obtain ⟨k, rfl⟩ := Int.eq_ofNat_of_zero_le (show 0 ≤ j by omega)
            have hk : k < xs.length := by omega
            have hce := fun W h => Cell16_any W A c xs (k : Int) h
            have e : cellSh xs (k : Int) = (rd xs (k : Int), 0) := by unfold cellSh; rw [if_pos ⟨HOK.out, by omega, by omega⟩]
            rw [e] at hce
            obtain ⟨A', hcut, hcc⟩ := cut_one A c xs k hk HCC.out.1
            have hx := shapeOk_mem HOK.out (rd xs (k : Int)) (List.mem_of_getElem? (rd_mem hk))
            have HOne := Lib.hid (show (if shapeOk [rd xs (k : Int)] then 0 else 60 : Int) = 0 by rw [one_ok hx.1 hx.2]; rfl)
            have HCE := Lib.hid hce
            have HCUT := Lib.hid hcc
            obtain ⟨x, hxv⟩ : ∃ x, rd xs (k : Int) = x := ⟨_, rfl⟩
            have HXV := Lib.hid hxv
            rw [hxv] at HOne HCUT HCE
            have h0' : ¬ (k : Int) < 0 := by omega
            have h00 : (0 : Int) ≤ (k : Int) := by omega
            clear hce hcc e hx hxv hk h0
            go_wp2_with (first | (go_at_call 16; (with_reducible refine (HCE.out _ (HF0.out.below W0.out).a).mono ?_); rintro e w4 ⟨rfl, hb⟩; have HW4 := Lib.hid (below_then W0.out W0.out.size hb); obtain ⟨ad, hA', e1⟩ := Kd.at_int (HF0.out.below HW4.out).a (k : Int) (by omega) (by omega); rw [HXV.out, Int.toNat_natCast] at e1; subst hA'; clear hb) | (go_at_call 22; (with_reducible refine (chk22k w4 A' (c - k) 1 [x] 0 (HCUT.out _ (HF0.out.below HW4.out).a) HOne.out rfl).mono ?_); rintro e w5 ⟨rfl, hb⟩; have HW5 := Lib.hid (below_then HW4.out HW4.out.size hb); clear hb))
            go_roundw
            case rel => exact ⟨(k : Int) + 1, by omega, by omega, by go_num, Aside0.mk HW5.out⟩
            case measure => simp [intOf]; omega
          · go_wp2_with (go_at_call 16; (with_reducible refine (HCell.out _ j (HF0.out.below W0.out).a (fun h => by omega)).mono ?_); rintro e w4 ⟨rfl, hb⟩; have HW4 := Lib.hid (below_then W0.out W0.out.size hb); clear hb)
            go_roundw
            case rel => exact ⟨j + 1, by omega, by omega, by go_num, Aside0.mk HW4.out⟩
            case measure => simp [intOf]; omega
      · have hle' : (xs.length : Int) < j := by omega
        have W1 := Lib.hid W0.out
        obtain ⟨wo, rfl⟩ : ∃ wo : World, wo = wr := ⟨_, rfl⟩
        clear W0 hle hj0 hj1
        obtain ⟨q0, q1⟩ := pair_cells (HF0.out.below W1.out).x
        cases hs : sigOk ys zs
        · go_wp2_with (go_at_call 27; (with_reducible refine (sig_no wo B C d e0 ys zs (HF0.out.below W1.out).b (HF0.out.below W1.out).c (by have := HL.out; omega) (by have := HL.out; omega) hs).mono ?_); rintro e w6 ⟨rfl, hb⟩; have HW6 := Lib.hid (below_then W1.out W1.out.size hb); clear hb)
          go_ret
          exact ⟨rfl, below_then HBase.out HBase.out.size HW6.out⟩
        · have HS := Lib.hid hs
          have HTU := Lib.hid (turned_ok hs)
          clear hs
          go_upto_region 14 with (go_at_call 27; (with_reducible refine (sig_yes wo B C d e0 ys zs (HF0.out.below W1.out).b (HF0.out.below W1.out).c (by have := HL.out; omega) (by have := HL.out; omega) HS.out).mono ?_); rintro e w6 ⟨rfl, hb⟩; have HW6 := Lib.hid (below_then W1.out W1.out.size hb); clear hb)
          clear q0 q1 W1
          have W1 := HW6
          clear HW6
          obtain ⟨q0, q1⟩ := pair_cells (HF0.out.below W1.out).x
          have hy100 := HL.out.2.1
          go_wp2
          go_loop [83, 11] (fun i p => ∃ k : Nat, k ≤ ys.length ∧ i = .int .i64 k ∧ p = .int .i64 (cnt4 (ys.take k) : Nat)) (fun i _ => ys.length - (intOf i).toNat)
          case atStart => exact ⟨0, by omega, rfl, rfl⟩
          case round =>
            obtain ⟨k, hk, rfl, rfl⟩ := hrel
            have hcn : cnt4 (ys.take k) ≤ 100 := by have := cnt4_le (ys.take k); rw [List.length_take] at this; omega
            by_cases hlt : k < ys.length
            · have hlt2 : (k : Int) < (ys.length : Int) := by omega
              obtain ⟨ad, hB, e1⟩ := Kd.at_int (HF0.out.below W1.out).b (k : Int) (by omega) (by omega)
              rw [Int.toNat_natCast] at e1
              have hnx := cnt4_next hlt
              generalize cnt4 (ys.take k) = cn at *
              obtain ⟨x, hx⟩ : ∃ x, rd ys (k : Int) = x := ⟨_, rfl⟩
              rw [hx] at hnx e1
              have HNX := Lib.hid hnx
              rw [hB]
              clear hnx hx
              by_cases hx4 : x = 4
              · subst hx4
                go_wp2
                go_round
                case rel => exact ⟨k + 1, by omega, by go_num, by rw [HNX.out, if_pos rfl]; go_num⟩
                case measure => simp [intOf]; omega
              · have hx4' : (x == 4) = false := by rw [beq_eq_false_iff_ne]; exact hx4
                go_wp2
                go_round
                case rel => exact ⟨k + 1, by omega, by go_num, by rw [HNX.out, if_neg hx4]; rfl⟩
                case measure => simp [intOf]; omega
            · obtain rfl : k = ys.length := by omega
              have hlt2 : ¬ (ys.length : Int) < (ys.length : Int) := by omega
              rw [List.take_length]
              rw [List.take_length] at hcn
              have hz100 := HL.out.2.2
              obtain ⟨cn, hcnv⟩ : ∃ cn, cnt4 ys = cn := ⟨_, rfl⟩
              have HCN := Lib.hid hcnv
              rw [hcnv]
              clear hcn hcnv hk hlt
              go_wp2
              go_loopw [95] (fun i W => ∃ k : Nat, k ≤ zs.length ∧ i = .int .i64 k ∧ Aside0 (Below wb.heap.size wb W)) (fun i _ => zs.length - (intOf i).toNat)
              case atStart => exact ⟨0, by omega, rfl, Aside0.mk W1.out⟩
              case round =>
                clear W1 q0 q1
                obtain ⟨k, hk, rfl, W1⟩ := hrel
                obtain ⟨q0, q1⟩ := pair_cells (HF0.out.below W1.out).x
                by_cases hlt : k < zs.length
                · have hlt2 : (k : Int) < (zs.length : Int) := by omega
                  obtain ⟨A', hcut, hcc⟩ := cut_one C e0 zs k hlt HCC.out.2.2
                  have hx := sigOk_res HS.out (rd zs (k : Int)) (List.mem_of_getElem? (rd_mem hlt))
                  have HOne := Lib.hid (show (if shapeOk [rd zs (k : Int)] then 0 else 60 : Int) = 0 by rw [one_ok hx.1 hx.2]; rfl)
                  have HCUT := Lib.hid hcc
                  obtain ⟨x, hxv⟩ : ∃ x, rd zs (k : Int) = x := ⟨_, rfl⟩
                  rw [hxv] at HOne HCUT
                  have h00 : (0 : Int) ≤ (k : Int) := by omega
                  clear hcc hx hxv hlt
                  go_wp2_with (go_at_call 22; (with_reducible refine (chk22k _ A' (e0 - k) 1 [x] 0 (HCUT.out _ (HF0.out.below W1.out).c) HOne.out rfl).mono ?_); rintro e w7 ⟨rfl, hb⟩; have HW7 := Lib.hid (below_then W1.out W1.out.size hb); clear hb)
                  go_roundw
                  case rel => exact ⟨k + 1, by omega, by go_num, Aside0.mk HW7.out⟩
                  case measure => simp [intOf]; omega
                · obtain rfl : k = zs.length := by omega
                  have hlt2 : ¬ (zs.length : Int) < (zs.length : Int) := by omega
                  clear hlt hk
                  have htu := HTU.out
                  rw [HCN.out] at htu
                  by_cases h0 : cn = 0
                  · subst h0
                    have HT2 := Lib.hid (show sigOk zs ys = true by rw [htu]; rfl)
                    clear htu
                    go_wp2_with (first | (go_at_call 27; (with_reducible refine (sig_yes _ C B e0 d zs ys (HF0.out.below W1.out).c (HF0.out.below W1.out).b (by have := HL.out; omega) (by have := HL.out; omega) HT2.out).mono ?_); rintro e w8 ⟨rfl, hb⟩; have HW8 := Lib.hid (below_then W1.out W1.out.size hb); clear q0 q1; obtain ⟨q0, q1⟩ := pair_cells (HF0.out.below HW8.out).x; clear hb) | (go_at_call 28; (with_reducible refine (same28t _ B C B C d e0 d e0 ys zs (HF0.out.below HW8.out).b (HF0.out.below HW8.out).c (HF0.out.below HW8.out).b (HF0.out.below HW8.out).c).mono ?_); rintro e w9 ⟨rfl, hb⟩; have HW9 := Lib.hid (below_then HW8.out HW8.out.size hb); clear hb))
                    go_ret
                    exact ⟨rfl, below_then HBase.out HBase.out.size HW9.out⟩
                  · have HT2 := Lib.hid (show sigOk zs ys = false by rw [htu]; exact decide_eq_false h0)
                    have h0' : ((cn : Int) == 0) = false := by rw [beq_eq_false_iff_ne]; omega
                    clear htu h0
                    go_wp2_with (first | (go_at_call 27; (with_reducible refine (sig_no _ C B e0 d zs ys (HF0.out.below W1.out).c (HF0.out.below W1.out).b (by have := HL.out; omega) (by have := HL.out; omega) HT2.out).mono ?_); rintro e w8 ⟨rfl, hb⟩; have HW8 := Lib.hid (below_then W1.out W1.out.size hb); clear q0 q1; obtain ⟨q0, q1⟩ := pair_cells (HF0.out.below HW8.out).x; clear hb) | (go_at_call 28; (with_reducible refine (same28t _ B C B C d e0 d e0 ys zs (HF0.out.below HW8.out).b (HF0.out.below HW8.out).c (HF0.out.below HW8.out).b (HF0.out.below HW8.out).c).mono ?_); rintro e w9 ⟨rfl, hb⟩; have HW9 := Lib.hid (below_then HW8.out HW8.out.size hb); clear hb))
                    go_ret
                    exact ⟨rfl, below_then HBase.out HBase.out.size HW9.out⟩
end Go.Proofs.Ytacmajlbaenjfaa
