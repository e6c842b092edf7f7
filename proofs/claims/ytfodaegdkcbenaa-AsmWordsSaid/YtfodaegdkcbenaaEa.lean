/- AsmWords: the document's Normal. -/
import Derived.Test.YtfodaegdkcbenaaDc
import Derived.Test.YtfodaegdkcbenaaAa
namespace Go.Proofs.Ytfodaegdkcbenaa
open Go.RowKit Go.Proofs.YtfodaegdkcbenaaW.PrintWords Go.Proofs.YtfodaegdkcbenaaW.PrintLast Go.Proofs.YtfodaegdkcbenaaW.PrintMore
open Go.Proofs.Ytfodaegdkcbenaa.PRef
theorem texts_take_le (ws : List (List (List UInt8))) (k : Nat) : (texts (ws.take k)).length ≤ (texts ws).length := by
  have h : texts ws = texts (ws.take k) ++ texts (ws.drop k) := by rw [← texts_append, List.take_append_drop]
  rw [h, List.length_append]; omega
theorem f1_at {r : List S44} {WL : List (List (List UInt8))} (hm : r.map S44.f1 = WL.map strs) (k : Nat) (hk : k < r.length) : ∃ ws, WL[k]? = some ws ∧ (rd_T44 r (k : Int)).f1 = strs ws := by
  have hl : r.length = WL.length := by simpa using congrArg List.length hm
  have hkW : k < WL.length := by omega
  refine ⟨WL[k], List.getElem?_eq_getElem hkW, ?_⟩
  have h : (r.map S44.f1)[k]? = (WL.map strs)[k]? := by rw [hm]
  rw [List.getElem?_map, List.getElem?_map, List.getElem?_eq_getElem hk, List.getElem?_eq_getElem hkW] at h
  unfold rd_T44
  rw [Int.toNat_natCast, List.getD_eq_getElem?_getD, List.getElem?_eq_getElem hk]
  exact Option.some.inj h
theorem texts_next {WL : List (List (List UInt8))} {k : Nat} {ws : List (List UInt8)} (h : WL[k]? = some ws) : texts (WL.take (k + 1)) = texts (WL.take k) ++ joinL ws ++ [10] := by
  rw [List.take_add_one, h, texts_append]
  simp [texts]
theorem wlines_mem {ls : List (List UInt8)} {ws : List (List UInt8)} (h : ws ∈ wlines ls) : ∃ l ∈ ls, ws = wordsL l := by
  unfold wlines at h
  obtain ⟨l, hl, rfl⟩ := List.mem_map.1 (List.mem_filter.1 h).1
  exact ⟨l, hl, rfl⟩
theorem linesA_len : ∀ (s cur : List UInt8), ∀ l ∈ linesA cur s, l.length ≤ cur.length + s.length
  | [], cur, l, h => by simp [linesA] at h; subst h; simp
  | c :: cs, cur, l, h => by
    rw [linesA] at h
    split at h
    · rcases List.mem_cons.1 h with rfl | h
      · omega
      · have := linesA_len cs [] l h; simp at this ⊢; omega
    · have := linesA_len cs (cur ++ [c]) l h; simp at this ⊢; omega

theorem linesA_count : ∀ (s cur : List UInt8), (linesA cur s).length ≤ s.length + 1
  | [], cur => by simp [linesA]
  | c :: cs, cur => by
    rw [linesA]
    split
    · have := linesA_count cs []; simp; omega
    · have := linesA_count cs (cur ++ [c]); simp; omega
theorem wlines_count (ls : List (List UInt8)) : (wlines ls).length ≤ ls.length := by
  unfold wlines
  exact Nat.le_trans (List.length_filter_le _ _) (by simp)

set_option maxRecDepth 100000 in
set_option maxHeartbeats 4000000 in
theorem Normal8_any (w : World) (s : ByteArray) (hs : s.size ≤ 1000000) :
    Calls Try.prog 8 #[.string s] w fun e w' => e = .returned (.string ⟨(normL s.data.toList).toArray⟩) ∧ Below w.heap.size w w' := by
  have hl : s.data.toList.length = s.size := by simp
  obtain ⟨r, hr, hm⟩ := lines_f s hs
  have hN := normL_texts s.data.toList
  have hNl := normA_len s.data.toList []
  have hmem : ∀ ws ∈ wlines (linesA [] s.data.toList), ws.length ≤ 1000001 ∧ (joinL ws).length ≤ 10000000 := by
    intro ws h
    obtain ⟨l, hll, rfl⟩ := wlines_mem h
    have h1 := linesA_len _ _ l hll
    have h2 := wordsA_count l []
    have h3 := joinL_words l []
    simp at h1 h3
    unfold wordsL
    omega
  have hcnt := Nat.le_trans (wlines_count (linesA [] s.data.toList)) (linesA_count s.data.toList [])
  obtain ⟨WL, hWL⟩ : ∃ WL, wlines (linesA [] s.data.toList) = WL := ⟨_, rfl⟩
  rw [hWL] at hm hN hmem hcnt
  rw [← hN]
  have hTl : (texts WL).length ≤ 1000001 := by rw [hN]; unfold normL; simp at hNl; omega
  have hrl : r.length = WL.length := by simpa using congrArg List.length hm
  have hr1 : r.length ≤ 1000001 := by omega
  have HR := Lib.hid hr
  have HM := Lib.hid hm
  have HMem := Lib.hid hmem
  have HTl := Lib.hid hTl
  have HRl := Lib.hid hrl
  clear hr hm hmem hTl hrl hN hNl hWL hl hcnt
  go_enter Try.func8, Try.ntmps8
  go_wp2_with (go_at_call 13; (with_reducible refine (backstayref09_Lines.calls _ s r w HR.out).mono ?_); rintro e w1 ⟨v1, rfl, ho, hb⟩; obtain ⟨Ao, co, rfl⟩ := Kd.S_slice ho; have HO := Lib.hid ho; have HB := Lib.hid hb; clear ho hb)
  go_loopw [3, 5] (fun p i W => ∃ k : Nat, k ≤ r.length ∧ i = .int .i64 k ∧ p = .string ⟨(texts (WL.take k)).toArray⟩ ∧ Aside0 (Kd.S k44 44 W w.heap.size (fun _ => True) (.slice Ao r.length co) r) ∧ Aside0 (Below w.heap.size w W)) (fun _ i _ => r.length - (intOf i).toNat)
  case atStart => exact ⟨0, by omega, rfl, rfl, .mk HO.out, .mk HB.out⟩
  case round =>
    clear HO HB
    obtain ⟨k, hk, rfl, rfl, HO, HB⟩ := hrel
    by_cases hlt : k < r.length
    · have hlt2 : (k : Int) < (r.length : Int) := by omega
      obtain ⟨ws, hws, hf⟩ := f1_at HM.out k hlt
      obtain ⟨hw1, hw2⟩ := HMem.out ws (List.mem_of_getElem? hws)
      obtain ⟨ad, A1, c1, e1, hx0, hx1, hl1, hi1⟩ := at_T44 (Kd.S_reads' HO.out).2.2 (k : Int) (by omega) hlt2
      rw [hf] at hx1 hl1 hi1
      rw [Int.toNat_natCast] at hx0 hx1
      have HI := Lib.hid hi1
      have HL := Lib.hid hl1
      have HJ := Lib.hid (joined_f ws hw1 hw2)
      have hnx := texts_next hws
      have ht1 := texts_take_le WL k
      have ht2 := HTl.out
      have HNX := Lib.hid (show (⟨(texts (WL.take k)).toArray⟩ : ByteArray) ++ ⟨(joinL ws).toArray⟩ ++ ⟨#[10]⟩ = ⟨(texts (WL.take (k + 1))).toArray⟩ from ba_ext (by rw [ByteArray.data_append, ByteArray.data_append, Array.toList_append, Array.toList_append, hnx]))
      have hz1 : (⟨(texts (WL.take k)).toArray⟩ : ByteArray).size = (texts (WL.take k)).length := rfl
      have hz2 : (⟨(joinL ws).toArray⟩ : ByteArray).size = (joinL ws).length := rfl
      generalize (⟨(texts (WL.take k)).toArray⟩ : ByteArray) = acc at *
      generalize (⟨(joinL ws).toArray⟩ : ByteArray) = jb at *
      have ka := fun W => run_string_add_sum (P := Try.prog) (w := W) acc jb (by omega)
      have kb := fun W => run_string_add_sum (P := Try.prog) (w := W) (acc ++ jb) ⟨#[10]⟩ (by rw [ByteArray.size_append]; show _ + 1 ≤ _; omega)
      obtain ⟨xs, hxs⟩ : ∃ xs, strs ws = xs := ⟨_, rfl⟩
      rw [hxs] at hx1 HI HL HJ
      clear hws hf hw1 hw2 hl1 hi1 hnx ht1 ht2 hz1 hz2 hxs hlt
      subst e1
      go_wp2_with (go_at_call 14; (with_reducible refine (backstayref09_joined.calls _ A1 c1 xs jb _ HI.out HL.out HJ.out).mono ?_); rintro e w3 ⟨rfl, ⟨nd, rfl⟩⟩)
      go_roundw
      case rel => exact ⟨k + 1, by omega, by go_num, by rw [HNX.out], .mk (Kd.S_drewN HO.out _), .mk (pw_below_drewN HB.out _)⟩
      case measure => simp [intOf]; omega
    · obtain rfl : k = r.length := by omega
      have hlt2 : ¬ (r.length : Int) < (r.length : Int) := by omega
      rw [HRl.out, List.take_length]
      rw [← HRl.out]
      go_wp2
      go_ret
      exact ⟨rfl, HB.out⟩
end Go.Proofs.Ytfodaegdkcbenaa
