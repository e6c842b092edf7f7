/- AsmWords: asm.Words. -/
import Derived.Test.YtfodaegdkcbenaaPa
import Derived.Test.YtfodaegdkcbenaaProg
import Derived.Test.YtfodaegdkcbenaaWWords
import Derived.Test.YtfodaegdkcbenaaWLast
import Derived.Test.YtfodaegdkcbenaaWMore
import Derived.Deep.QuietTactic
import Derived.BigQuiet
import Derived.Lib.OthersKept
import Derived.Laws.RangeAny
import Derived.Lib.RuneCount
import Derived.WalkKit
import Derived.Lib.Hide
import Derived.LoopTactic
import Derived.Laws.BitsLemmas
import Derived.RangeFuncRecord
import Derived.Deep.RegionHeld3
namespace Go.Proofs.Ytfodaegdkcbenaa
open Go.RowKit Go.Proofs.YtfodaegdkcbenaaW.PrintWords Go.Proofs.YtfodaegdkcbenaaW.PrintLast Go.Proofs.YtfodaegdkcbenaaW.PrintMore

theorem decodeN_code (n b0 b1 b2 b3 : Nat) (h : 128 ≤ b0) : 128 ≤ (Lib.decodeN n b0 b1 b2 b3).1 ∧ (Lib.decodeN n b0 b1 b2 b3).1 ≤ 1114111 := by
  unfold Lib.decodeN
  repeat' split
  all_goals (simp only; omega)
theorem dec_high (s : ByteArray) (k : Nat) (hp : k < s.size) (h : 128 ≤ (s[k]).toNat) :
    (128 ≤ (Utf8.decode s k).1 ∧ (Utf8.decode s k).1 ≤ 1114111) ∧ k + (Utf8.decode s k).2 ≤ s.size ∧ 1 ≤ (Utf8.decode s k).2 ∧ ∀ b ∈ (s.data.toList.drop k).take (Utf8.decode s k).2, isEnd b = false ∧ isBl b = false := by
  have hl : s.data.toList.length = s.size := by simp
  have e : Utf8.decode s k = Lib.decodeN (s.data.toList.drop k).length ((s.data.toList.drop k).getD 0 0).toNat ((s.data.toList.drop k).getD 1 0).toNat ((s.data.toList.drop k).getD 2 0).toNat ((s.data.toList.drop k).getD 3 0).toNat := by
    rw [Lib.decode_N]
    simp [List.getD_eq_getElem?_getD, List.getElem?_drop]
  have h0 : 128 ≤ ((s.data.toList.drop k).getD 0 0).toNat := by
    have : (s.data.toList.drop k).getD 0 0 = s[k] := by
      rw [List.getD_eq_getElem?_getD, List.getElem?_drop, Nat.add_zero, List.getElem?_eq_getElem (by omega)]; rfl
    rw [this]; exact h
  have hc := Lib.decodeN_conts (s.data.toList.drop k).length ((s.data.toList.drop k).getD 0 0).toNat ((s.data.toList.drop k).getD 1 0).toNat ((s.data.toList.drop k).getD 2 0).toNat ((s.data.toList.drop k).getD 3 0).toNat
  have hcd := decodeN_code (s.data.toList.drop k).length _ ((s.data.toList.drop k).getD 1 0).toNat ((s.data.toList.drop k).getD 2 0).toNat ((s.data.toList.drop k).getD 3 0).toNat h0
  have hr := rune_high (s.data.toList.drop k) h0
  have hw := Lib.decode_width_pos s k hp
  rw [← e] at hc hcd hr
  have hd : (s.data.toList.drop k).length = s.size - k := by rw [List.length_drop, hl]
  rw [hd] at hc
  obtain ⟨c2, c3, c4, c5⟩ := hc
  refine ⟨hcd, ?_, hw, hr⟩
  have h4 : (Utf8.decode s k).2 = 1 ∨ (Utf8.decode s k).2 = 2 ∨ (Utf8.decode s k).2 = 3 ∨ (Utf8.decode s k).2 = 4 := by omega
  rcases h4 with h | h | h | h
  · omega
  · have := (c2 (by omega)).2; omega
  · have := (c3 (by omega)).2; omega
  · have := (c4 (by omega)).2; omega
theorem own_no_iter {w : World} {B : Nat} {e : TypeId} {size n : Nat} {v : Value} {xs : List Value} {k : Nat} {s : ByteArray} {pos : Nat} (h : w.ownsRow B e size v n xs) (hk : w.heap[k]? = some (.stringIter s pos)) : some k ≠ v.ownBlock := by
  intro e'
  rcases h.2 with ⟨rfl, _⟩ | ⟨g, cap, cur, rfl, _, hg, _⟩
  · simp [Value.ownBlock] at e'
  · obtain rfl : k = g := by simpa [Value.ownBlock] using e'
    rw [hk] at hg; cases hg
theorem own_iter {w : World} {B : Nat} {e : TypeId} {size n : Nat} {v : Value} {xs : List Value} {k : Nat} {s : ByteArray} {pos : Nat} (h : w.ownsRow B e size v n xs) (hk : w.heap[k]? = some (.stringIter s pos)) (p' : Nat) : (w.iterAt k s p').ownsRow B e size v n xs :=
  own_move h (fun j hj => Lib.iterAt_other w k j s p' (fun e' => own_no_iter h hk (by rw [← e', hj])))
/-- A row of the call's own, of strings. -/
def SRow (W : World) (base : Nat) (u : Value) (ws : List (List UInt8)) : Prop := W.ownsRow base 9 1 u (strs ws).length ((strs ws).map Value.string)
/-- Where the word at hand began. -/
def FR (S : List UInt8) (f : Value) (cur : List UInt8) (k : Nat) : Prop := (cur = [] ∧ f = .int .i64 (-1)) ∨ ∃ j : Nat, j < k ∧ cur = sub S j k ∧ f = .int .i64 j
theorem WI_count {s : List UInt8} {ws : List (List UInt8)} {cur : List UInt8} {k : Nat} (h : WI s ws cur k) : ws.length ≤ s.length + 1 := by
  have := wordsA_count s []
  have e := congrArg List.length h
  rw [List.length_append] at e
  unfold wordsL at e
  omega
theorem info9s : (Try.prog.info? 9).map (fun i => (i.zero, i.size, i.bytes)) = some (some (.string ⟨#[]⟩), 1, 16) := by kernel_rfl

theorem cut_str (s : ByteArray) (j k : Nat) (h1 : j ≤ k) (h2 : k ≤ s.size) (W : World) : (Instr.slice 9 (.string s) (some (.int .i64 j)) (some (.int .i64 k)) none).run Try.prog W = .ok (.string (s.extract j k)) W := by
  have h := run_slice_string (P := Try.prog) (w := W) 9 s .i64 .i64 (j : Int) (k : Int) Try.underlying9 (by omega) (by omega) (by omega)
  simpa using h
theorem cut_str_end (s : ByteArray) (j : Nat) (h1 : j ≤ s.size) (W : World) : (Instr.slice 9 (.string s) (some (.int .i64 j)) none none).run Try.prog W = .ok (.string (s.extract j s.size)) W := by
  have h := run_slice_string_l (P := Try.prog) (w := W) (t := 9) (s := s) Try.underlying9 .i64 (j : Int) (by omega) (by omega)
  simpa using h
theorem rune_case (s : ByteArray) (S : List UInt8) (hS : s.data.toList = S) (k : Nat) (hp : k < s.size) (hkS : k < S.length) (c dd : Nat) (hcd : Utf8.decode s k = (c, dd)) :
    (((c = 10 ∨ c = 59) ∧ isEnd (S[k]'hkS) = true) ∨ ((c = 32 ∨ c = 9) ∧ isEnd (S[k]'hkS) = false ∧ isBl (S[k]'hkS) = true) ∨ (c ≠ 10 ∧ c ≠ 59 ∧ c ≠ 32 ∧ c ≠ 9 ∧ ∀ b ∈ (S.drop k).take dd, isEnd b = false ∧ isBl b = false)) ∧ 1 ≤ dd ∧ k + dd ≤ s.size ∧ c ≤ 1114111 ∧ ((c = 10 ∨ c = 59 ∨ c = 32 ∨ c = 9) → dd = 1) := by
  subst hS
  have hg : s.data.toList[k]'hkS = s[k]'hp := rfl
  by_cases ha : (s[k]'hp).toNat < 128
  · have e : Utf8.decode s k = ((s[k]'hp).toNat, 1) := by
      rw [Lib.decode_N]
      have e0 : s.data.toList.getD k 0 = s[k]'hp := by rw [List.getD_eq_getElem?_getD, List.getElem?_eq_getElem hkS]; rfl
      rw [e0]
      unfold Lib.decodeN
      rw [if_pos ha]
    rw [e] at hcd
    simp only [Prod.mk.injEq] at hcd
    obtain ⟨rfl, rfl⟩ := hcd
    rw [hg]
    refine ⟨?_, by omega, by omega, by omega, fun _ => rfl⟩
    have key : ∀ (x d : UInt8), (x == d) = decide (x.toNat = d.toNat) := by
      intro x d
      rw [Bool.eq_iff_iff, beq_iff_eq, decide_eq_true_iff]
      exact ⟨fun h => by rw [h], fun h => UInt8.toNat_inj.1 h⟩
    have h1 : isEnd (s[k]'hp) = (decide ((s[k]'hp).toNat = 10) || decide ((s[k]'hp).toNat = 59)) := by unfold isEnd; rw [key, key]; rfl
    have h2 : isBl (s[k]'hp) = (decide ((s[k]'hp).toNat = 32) || decide ((s[k]'hp).toNat = 9)) := by unfold isBl; rw [key, key]; rfl
    have h3 : (s.data.toList.drop k).take 1 = [s[k]'hp] := by rw [List.drop_eq_getElem_cons hkS]; rfl
    rw [h3, h1, h2]
    generalize (s[k]'hp).toNat = n at *
    by_cases e1 : n = 10
    · exact .inl ⟨.inl e1, by simp [e1]⟩
    · by_cases e2 : n = 59
      · exact .inl ⟨.inr e2, by simp [e2]⟩
      · by_cases e3 : n = 32
        · exact .inr (.inl ⟨.inl e3, by simp [e3], by simp [e3]⟩)
        · by_cases e4 : n = 9
          · exact .inr (.inl ⟨.inr e4, by simp [e4], by simp [e4]⟩)
          · refine .inr (.inr ⟨e1, e2, e3, e4, fun b hb => ?_⟩)
            simp only [List.mem_singleton] at hb
            subst hb
            rw [h1, h2]
            simp [e1, e2, e3, e4]
  · obtain ⟨⟨h1, h1'⟩, h2, h3, h4⟩ := dec_high s k hp (by omega)
    rw [hcd] at h1 h1' h2 h3 h4
    simp only at h1 h1' h2 h3 h4
    exact ⟨.inr (.inr ⟨by omega, by omega, by omega, by omega, h4⟩), h3, h2, h1', fun h => by omega⟩
theorem srow_snoc {W : World} {base : Nat} {u : Value} {s : ByteArray} {S : List UInt8} {ws : List (List UInt8)} {j k : Nat} (hS : s.data.toList = S) (h : W.ownsRow base 9 1 u ((strs ws).map Value.string ++ [Value.string (s.extract j k)]).length ((strs ws).map Value.string ++ [Value.string (s.extract j k)])) : SRow W base u (ws ++ [sub S j k]) := by
  subst hS
  unfold SRow
  rw [strs_append, strs_one, List.map_append, List.map_cons, List.map_nil, ← extract_eq, List.length_append, List.length_cons, List.length_nil]
  simpa using h

set_option maxRecDepth 100000 in
set_option maxHeartbeats 4000000 in
theorem Words5_any (w : World) (s : ByteArray) (hs : s.size ≤ 1000000) :
    Calls Try.prog 5 #[.string s] w fun e w' => ∃ u, e = .returned u ∧ SRow w' w.heap.size u (wordsL s.data.toList) ∧ Below w.heap.size w w' := by
  have hl : s.data.toList.length = s.size := by simp
  obtain ⟨S, hS⟩ : ∃ S, s.data.toList = S := ⟨_, rfl⟩
  rw [hS] at hl ⊢
  have HLn := Lib.hid hl
  have HSd := Lib.hid hS
  clear hl hS
  go_enter Try.func5, Try.ntmps5
  go_wp2
  go_loopw [3, 4] (fun p f wr => ∃ (k : Nat) (ws : List (List UInt8)) (cur : List UInt8), k ≤ s.size ∧ Aside0 (WI S ws cur k) ∧ Aside0 (FR S f cur k) ∧ Aside0 (wr.heap[w.heap.size]? = some (.stringIter s k)) ∧ Aside0 (SRow wr w.heap.size p ws) ∧ Aside0 (Below w.heap.size w wr)) (fun _ _ wr => s.size - wr.iterPos w.heap.size)
  case atStart => exact ⟨0, [], [], by omega, .mk (WI_start S), .mk (.inl ⟨rfl, rfl⟩), .mk (World.iter_heap w s 0), .mk (World.ownsRow_nil _ _ _ _), .mk (below_alloc (Below.refl _ _) _)⟩
  case round =>
    obtain ⟨k, ws, cur, hk, ⟨hwi⟩, ⟨hfr⟩, ⟨hit⟩, ⟨hown⟩, ⟨hbw⟩⟩ := hrel
    have hcl := WI_count hwi
    rw [HLn.out] at hcl
    have HC := Lib.hid hcl
    have HWI := Lib.hid hwi
    have HIT := Lib.hid hit
    clear hcl hwi
    by_cases hp : k < s.size
    · have hkS : k < S.length := by rw [HLn.out]; exact hp
      have hget : S[k]'hkS = s[k]'hp := by have := HSd.out; subst this; rfl
      have hnx : ∀ ty, (Instr.next (.pointer (some ⟨w.heap.size, 0, none⟩)) true ty).run Try.prog wr = _ := fun ty => Lib.run_next_any_at wr w.heap.size s k ty hit hp
      have hit2 := Lib.iterAt_heap wr w.heap.size s k (k + (Utf8.decode s k).2) hit
      have hown2 := own_iter hown hit (k + (Utf8.decode s k).2)
      have hbw2 := Lib.below_iterAt hbw (k := w.heap.size) (by omega) s (k + (Utf8.decode s k).2)
      obtain ⟨c, dd, hcd⟩ : ∃ (c dd : Nat), Utf8.decode s k = (c, dd) := ⟨_, _, rfl⟩
      have hcase : (((c = 10 ∨ c = 59) ∧ isEnd (S[k]'hkS) = true) ∨ ((c = 32 ∨ c = 9) ∧ isEnd (S[k]'hkS) = false ∧ isBl (S[k]'hkS) = true) ∨ (c ≠ 10 ∧ c ≠ 59 ∧ c ≠ 32 ∧ c ≠ 9 ∧ ∀ b ∈ (S.drop k).take dd, isEnd b = false ∧ isBl b = false)) ∧ 1 ≤ dd ∧ k + dd ≤ s.size ∧ c ≤ 1114111 ∧ ((c = 10 ∨ c = 59 ∨ c = 32 ∨ c = 9) → dd = 1) := by
        exact rune_case s S HSd.out k hp hkS c dd hcd
      rw [hcd] at hnx hit2 hown2 hbw2
      have HIT2 := Lib.hid hit2
      have HO := Lib.hid hown2
      have HB := Lib.hid hbw2
      simp only at hnx HIT2 HO HB
      generalize wr.iterAt w.heap.size s (k + dd) = W2 at *
      clear hit hit2 hown hown2 hbw hbw2 hcd hget
      obtain ⟨hcs, hd1, hd2, hcm, hd⟩ := hcase
      have HD := Lib.hid (And.intro hd1 (And.intro hd2 hd))
      clear hd1 hd2 hd
      rcases hcs with ⟨hc, he⟩ | ⟨hc, he, hb⟩ | ⟨h1, h2, h3, h4, hsk⟩
      · have HE := Lib.hid (WI_end HWI.out hkS he)
        clear he
        rcases hfr with ⟨rfl, rfl⟩ | ⟨j, hj, hcu, rfl⟩
        · rcases hc with rfl | rfl
          · go_wp2
            go_ret
            have h := HE.out
            rw [pend_nil, List.append_nil] at h
            exact ⟨_, rfl, h ▸ HO.out, HB.out⟩
          · go_wp2
            go_ret
            have h := HE.out
            rw [pend_nil, List.append_nil] at h
            exact ⟨_, rfl, h ▸ HO.out, HB.out⟩
        · rcases hc with rfl | rfl
          · have hct := cut_str s j k (by omega) (by omega)
            go_wp2_with (at_builtin; refine print_append (w0 := w) w.heap.size rfl _ _ 23 9 (.string ⟨#[]⟩) 16 rfl Try.underlying23 info9s rfl (by decide) _ ((strs ws).map Value.string) (.string (s.extract j k)) rfl rfl rfl (by rw [List.length_map]; exact HO.out) HB.out HB.out.size (by rw [List.length_map, strs_length]; have := HC.out; omega) ?_; intro v4 w4 hown4 hb4 hg4 _; have HO4 := Lib.hid hown4; have HB4 := Lib.hid hb4; have HG4 := Lib.hid hg4; clear hown4 hb4 hg4)
            go_ret
            refine ⟨_, rfl, ?_, HB4.out⟩
            have h := HE.out
            rw [pend_some (hcu ▸ sub_ne S j k hj (by rw [HLn.out]; omega)), hcu] at h
            rw [← h]
            exact srow_snoc HSd.out HO4.out
          · have hct := cut_str s j k (by omega) (by omega)
            go_wp2_with (at_builtin; refine print_append (w0 := w) w.heap.size rfl _ _ 23 9 (.string ⟨#[]⟩) 16 rfl Try.underlying23 info9s rfl (by decide) _ ((strs ws).map Value.string) (.string (s.extract j k)) rfl rfl rfl (by rw [List.length_map]; exact HO.out) HB.out HB.out.size (by rw [List.length_map, strs_length]; have := HC.out; omega) ?_; intro v4 w4 hown4 hb4 hg4 _; have HO4 := Lib.hid hown4; have HB4 := Lib.hid hb4; have HG4 := Lib.hid hg4; clear hown4 hb4 hg4)
            go_ret
            refine ⟨_, rfl, ?_, HB4.out⟩
            have h := HE.out
            rw [pend_some (hcu ▸ sub_ne S j k hj (by rw [HLn.out]; omega)), hcu] at h
            rw [← h]
            exact srow_snoc HSd.out HO4.out
      · have HE := Lib.hid (WI_bl HWI.out hkS he hb)
        clear he hb
        obtain rfl : dd = 1 := HD.out.2.2 (by omega)
        rcases hfr with ⟨rfl, rfl⟩ | ⟨j, hj, hcu, rfl⟩
        · rcases hc with rfl | rfl
          · go_wp2
            go_roundw
            case rel =>
              refine ⟨k + 1, ws, [], by have := HD.out; omega, .mk ?_, .mk ?_, .mk ?_, .mk ?_, .mk ?_⟩
              · exact (by have h := HE.out; rw [pend_nil, List.append_nil] at h; exact h)
              · exact .inl ⟨rfl, rfl⟩
              · exact HIT2.out
              · exact HO.out
              · exact HB.out
            case measure =>
              have hq := HIT2.out
              have := HD.out
              simp only [World.iterPos, hq, HIT.out]; omega
          · go_wp2
            go_roundw
            case rel =>
              refine ⟨k + 1, ws, [], by have := HD.out; omega, .mk ?_, .mk ?_, .mk ?_, .mk ?_, .mk ?_⟩
              · exact (by have h := HE.out; rw [pend_nil, List.append_nil] at h; exact h)
              · exact .inl ⟨rfl, rfl⟩
              · exact HIT2.out
              · exact HO.out
              · exact HB.out
            case measure =>
              have hq := HIT2.out
              have := HD.out
              simp only [World.iterPos, hq, HIT.out]; omega
        · rcases hc with rfl | rfl
          · have hct := cut_str s j k (by omega) (by omega)
            go_wp2_with (at_builtin; refine print_append (w0 := w) w.heap.size rfl _ _ 23 9 (.string ⟨#[]⟩) 16 rfl Try.underlying23 info9s rfl (by decide) _ ((strs ws).map Value.string) (.string (s.extract j k)) rfl rfl rfl (by rw [List.length_map]; exact HO.out) HB.out HB.out.size (by rw [List.length_map, strs_length]; have := HC.out; omega) ?_; intro v4 w4 hown4 hb4 hg4 _; have HO4 := Lib.hid hown4; have HB4 := Lib.hid hb4; have HG4 := Lib.hid hg4; clear hown4 hb4 hg4)
            go_roundw
            case rel =>
              refine ⟨k + 1, ws ++ [sub S j k], [], by have := HD.out; omega, .mk ?_, .mk ?_, .mk ?_, .mk ?_, .mk ?_⟩
              · exact (by have h := HE.out; rw [pend_some (hcu ▸ sub_ne S j k hj (by rw [HLn.out]; omega)), hcu] at h; exact h)
              · exact .inl ⟨rfl, rfl⟩
              · exact (HG4.out.block _ (blk_lt HIT2.out) (own_no_iter HO.out HIT2.out)).trans HIT2.out
              · exact srow_snoc HSd.out HO4.out
              · exact HB4.out
            case measure =>
              have hq := (HG4.out.block _ (blk_lt HIT2.out) (own_no_iter HO.out HIT2.out)).trans HIT2.out
              have := HD.out
              simp only [World.iterPos, hq, HIT.out]; omega
          · have hct := cut_str s j k (by omega) (by omega)
            go_wp2_with (at_builtin; refine print_append (w0 := w) w.heap.size rfl _ _ 23 9 (.string ⟨#[]⟩) 16 rfl Try.underlying23 info9s rfl (by decide) _ ((strs ws).map Value.string) (.string (s.extract j k)) rfl rfl rfl (by rw [List.length_map]; exact HO.out) HB.out HB.out.size (by rw [List.length_map, strs_length]; have := HC.out; omega) ?_; intro v4 w4 hown4 hb4 hg4 _; have HO4 := Lib.hid hown4; have HB4 := Lib.hid hb4; have HG4 := Lib.hid hg4; clear hown4 hb4 hg4)
            go_roundw
            case rel =>
              refine ⟨k + 1, ws ++ [sub S j k], [], by have := HD.out; omega, .mk ?_, .mk ?_, .mk ?_, .mk ?_, .mk ?_⟩
              · exact (by have h := HE.out; rw [pend_some (hcu ▸ sub_ne S j k hj (by rw [HLn.out]; omega)), hcu] at h; exact h)
              · exact .inl ⟨rfl, rfl⟩
              · exact (HG4.out.block _ (blk_lt HIT2.out) (own_no_iter HO.out HIT2.out)).trans HIT2.out
              · exact srow_snoc HSd.out HO4.out
              · exact HB4.out
            case measure =>
              have hq := (HG4.out.block _ (blk_lt HIT2.out) (own_no_iter HO.out HIT2.out)).trans HIT2.out
              have := HD.out
              simp only [World.iterPos, hq, HIT.out]; omega
      · have HE := Lib.hid (WI_skip (d := dd) HWI.out hsk)
        obtain ⟨ci, hci⟩ : ∃ ci : Int, (c : Int) = ci := ⟨_, rfl⟩
        have t1 : (ci == 10) = false := by rw [beq_eq_false_iff_ne]; omega
        have t2 : (ci == 59) = false := by rw [beq_eq_false_iff_ne]; omega
        have t3 : (ci == 32) = false := by rw [beq_eq_false_iff_ne]; omega
        have t4 : (ci == 9) = false := by rw [beq_eq_false_iff_ne]; omega
        rw [hci] at hnx
        clear hci h1 h2 h3 h4 hcm hsk
        rcases hfr with ⟨rfl, rfl⟩ | ⟨j, hj, hcu, rfl⟩
        · go_wp2
          go_roundw
          case rel =>
            refine ⟨k + dd, ws, (S.drop k).take dd, by have := HD.out; omega, .mk ?_, .mk ?_, .mk ?_, .mk ?_, .mk ?_⟩
            · exact (by have h := HE.out; rw [List.nil_append] at h; exact h)
            · exact .inr ⟨k, by have := HD.out; omega, by have h := sub_more S k k dd (Nat.le_refl _); rw [sub_self, List.nil_append] at h; exact h, rfl⟩
            · exact HIT2.out
            · exact HO.out
            · exact HB.out
          case measure =>
            have hq := HIT2.out
            have := HD.out
            simp only [World.iterPos, hq, HIT.out]; omega
        · go_wp2
          go_roundw
          case rel =>
            refine ⟨k + dd, ws, cur ++ (S.drop k).take dd, by have := HD.out; omega, .mk ?_, .mk ?_, .mk ?_, .mk ?_, .mk ?_⟩
            · exact HE.out
            · exact .inr ⟨j, by omega, by rw [hcu, sub_more S j k dd (by omega)], rfl⟩
            · exact HIT2.out
            · exact HO.out
            · exact HB.out
          case measure =>
            have hq := HIT2.out
            have := HD.out
            simp only [World.iterPos, hq, HIT.out]; omega
    · obtain rfl : k = s.size := by omega
      have hnx : ∀ ty, (Instr.next (.pointer (some ⟨w.heap.size, 0, none⟩)) true ty).run Try.prog wr = _ := fun ty => Lib.run_next_end_at wr w.heap.size s _ ty hit hp
      have HE := Lib.hid (WI_over HWI.out (by rw [HLn.out]; exact Nat.le_refl _))
      have HO := Lib.hid hown
      have HB := Lib.hid hbw
      clear hit hown hbw hp hk
      rcases hfr with ⟨rfl, rfl⟩ | ⟨j, hj, hcu, rfl⟩
      · go_wp2
        go_ret
        have h := HE.out
        rw [pend_nil, List.append_nil] at h
        exact ⟨_, rfl, h ▸ HO.out, HB.out⟩
      · have hct := cut_str_end s j (by omega)
        go_wp2_with (at_builtin; refine print_append (w0 := w) w.heap.size rfl _ _ 23 9 (.string ⟨#[]⟩) 16 rfl Try.underlying23 info9s rfl (by decide) _ ((strs ws).map Value.string) (.string (s.extract j s.size)) rfl rfl rfl (by rw [List.length_map]; exact HO.out) HB.out HB.out.size (by rw [List.length_map, strs_length]; have := HC.out; omega) ?_; intro v4 w4 hown4 hb4 hg4 _; have HO4 := Lib.hid hown4; have HB4 := Lib.hid hb4; have HG4 := Lib.hid hg4; clear hown4 hb4 hg4)
        go_ret
        refine ⟨_, rfl, ?_, HB4.out⟩
        have h := HE.out
        rw [pend_some (hcu ▸ sub_ne S j s.size hj (by rw [HLn.out]; omega)), hcu] at h
        rw [← h]
        exact srow_snoc HSd.out HO4.out
end Go.Proofs.Ytfodaegdkcbenaa
