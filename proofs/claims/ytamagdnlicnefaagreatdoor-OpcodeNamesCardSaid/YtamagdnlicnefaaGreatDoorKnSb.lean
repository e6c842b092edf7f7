/- Opcode: what reads an operand. -/
import Derived.Test.YtamagdnlicnefaaGreatDoorKnSa
import Derived.Test.YtamagdnlicnefaaGreatDoorKnShelf
namespace Go.Proofs.YtamagdnlicnefaaGreatDoor
open Go.RowKit Go.Shelf Go.Proofs.YtamagdnlicnefaaGreatDoorW.PrintWords Go.Proofs.YtamagdnlicnefaaGreatDoorW.PrintLast Go.Proofs.YtamagdnlicnefaaGreatDoorW.PrintMore

structure Errs (W : World) : Prop where
  syn : ∃ ev, W.cell? ⟨Tryz.laysC174_ren.g 15, 0, none⟩ = some ev ∧ (ev = .nilIface ∨ ∃ te pe, ev = .iface te pe)
  ran : ∃ ev, W.cell? ⟨Tryz.laysC174_ren.g 16, 0, none⟩ = some ev ∧ (ev = .nilIface ∨ ∃ te pe, ev = .iface te pe)
theorem Errs.below {w w' : World} (h : Errs w) (hb : Below w.heap.size w w') : Errs w' := by
  obtain ⟨⟨e1, h1, h2⟩, e2, h3, h4⟩ := h
  exact ⟨⟨e1, pw_cell_below hb h1, h2⟩, e2, pw_cell_below hb h3, h4⟩
def numN (s : ByteArray) : Int := match Lib.parseIntB 64 s.data.toList with
  | .ok v => v
  | .syntax => 0
  | .range => Lib.intSat 64 s.data.toList
theorem Parse60_any (s : ByteArray) (w : World) (hs : s.size ≤ 1000000) (hE : Errs w) : Calls Tryz.prog 85 #[.string s, .int .i64 10, .int .i64 64] w fun e w' => ∃ er, e = .returned (.tuple #[.int .i64 (numN s), er]) ∧ (er = .nilIface ∨ ∃ te pe, er = .iface te pe) ∧ Below w.heap.size w w' := by
  unfold numN
  obtain ⟨⟨e1, h1, h2⟩, e2, h3, h4⟩ := hE
  match h : Lib.parseIntB 64 s.data.toList with
  | .ok v =>
    refine (Tryz.strconv_ParseInt_10_at64_ok s (by omega) v h w).mono ?_
    rintro e w' ⟨rfl, rfl | ⟨t, rfl⟩⟩
    · exact ⟨_, rfl, .inl rfl, Below.refl _ _⟩
    · exact ⟨_, rfl, .inl rfl, Lib.bytesWorld_below w 5 t⟩
  | .syntax =>
    refine (Tryz.strconv_ParseInt_10_at64_syntax s (by omega) h e1 w h1 h2).mono ?_
    rintro e w' ⟨N, rfl, _, _, hb⟩
    exact ⟨_, rfl, .inr ⟨_, _, rfl⟩, hb⟩
  | .range =>
    refine (Tryz.strconv_ParseInt_10_at64_range s (by omega) h e2 w h3 h4).mono ?_
    rintro e w' ⟨N, rfl, _, _, hb⟩
    exact ⟨_, rfl, .inr ⟨_, _, rfl⟩, hb⟩
set_option maxHeartbeats 1000000 in
theorem read59_any (s : ByteArray) (w : World) (hs : s.size ≤ 1000000) (hE : Errs w) : Calls Tryz.prog 84 #[.string s] w fun e w' => ∃ ok, e = .returned (.tuple #[.int .i64 (numN s), .bool ok]) ∧ Below w.heap.size w w' := by
  have HP := Lib.hid (Parse60_any s w hs hE)
  clear hE
  generalize numN s = n at *
  go_enter Tryz.func84, Tryz.ntmps84
  go_wp2_with (go_at_call 85; (with_reducible refine HP.out.mono ?_); rintro e w1 ⟨er, rfl, he, hb⟩; have HB := Lib.hid hb; clear hb)
  rcases he with rfl | ⟨te, pe, rfl⟩
  all_goals
    go_region
    go_wp2
    go_ret2
    exact ⟨_, rfl, below_drew HB.out⟩
def NmIs (k : Nat) (s : ByteArray) (n : Int) : Prop := (inB k n = true ∧ s = ⟨(showK k n).toArray⟩) ∨ (n = 0 ∧ ∀ m, inB k m = true → s ≠ ⟨(showK k m).toArray⟩)
set_option maxHeartbeats 4000000 in
theorem read63_any (k b : Nat) (s : ByteArray) (w : World) (hk : isNamed k = true) (hT : Tabs w) (h0 : w.heap[b]? = some (.cells #[.int .i64 (lo k)] 3 (0, 0))) (h1 : w.heap[b + 1]? = some (.cells #[.int .i64 (hi k + 1)] 3 (0, 0))) (h2 : w.heap[b + 2]? = some (.cells #[.func (.func (nameF k)) #[] #[]] 45 (0, 0))) :
    Calls Tryz.prog 88 #[.string s, .pointer (some ⟨b, 0, none⟩), .pointer (some ⟨b + 1, 0, none⟩), .pointer (some ⟨b + 2, 0, none⟩)] w fun e w' => ∃ n ok, e = .returned (.tuple #[.int .i64 n, .bool ok]) ∧ NmIs k s n ∧ Below w.heap.size w w' := by
  have HNM : Hid (∀ n W, inB k n = true → Below w.heap.size w W → Calls Tryz.prog (nameF k) #[.int .i64 n] W fun e w' => e = .returned (.string ⟨(showK k n).toArray⟩) ∧ Below W.heap.size W w') := Lib.hid (fun n W hn hW => nameF_in k n W hk hn (hT.below hW))
  have HC : Hid (∀ W, Below w.heap.size w W → W.cell? ⟨b, 0, none⟩ = some (.int .i64 (lo k)) ∧ W.cell? ⟨b + 1, 0, none⟩ = some (.int .i64 (hi k + 1)) ∧ W.cell? ⟨b + 2, 0, none⟩ = some (.func (.func (nameF k)) #[] #[])) := Lib.hid (fun W hW => ⟨pw_cell_below hW (blk_cell h0 0), pw_cell_below hW (blk_cell h1 0), pw_cell_below hW (blk_cell h2 0)⟩)
  have h3 : nameF k = 36 ∨ nameF k = 60 ∨ nameF k = 61 := by unfold nameF; split <;> (try split) <;> simp
  have hb : 0 ≤ lo k ∧ lo k ≤ hi k + 1 ∧ hi k ≤ 100 := by rcases named_cases hk with rfl | rfl | rfl | rfl <;> decide
  have HIN : Hid (∀ m, inB k m = true ↔ lo k ≤ m ∧ m ≤ hi k) := Lib.hid (fun m => by unfold inB; simp only [Bool.and_eq_true, decide_eq_true_eq])
  have HNI : Hid (∀ n, NmIs k s n ↔ (inB k n = true ∧ s = ⟨(showK k n).toArray⟩) ∨ (n = 0 ∧ ∀ m, inB k m = true → s ≠ ⟨(showK k m).toArray⟩)) := Lib.hid (fun _ => Iff.rfl)
  obtain ⟨c0, c1, c2⟩ := HC.out w (Below.refl _ _)
  clear h0 h1 h2 hk hT
  generalize lo k = l0 at *
  generalize hi k = h0 at *
  rcases h3 with h3 | h3 | h3
  all_goals
    rw [h3] at HNM HC c2
    clear h3
    go_enter Tryz.func88, Tryz.ntmps88
    go_wp2
    clear c0 c1 c2
    go_loopw [7] (fun i wr => ∃ j : Int, i = .int .i64 j ∧ l0 ≤ j ∧ j ≤ h0 + 1 ∧ Hid (∀ m, l0 ≤ m → m < j → s ≠ ⟨(showK k m).toArray⟩) ∧ Hid (Below w.heap.size w wr)) (fun i _ => (h0 + 1 - intOf i).toNat)
    case atStart => exact ⟨l0, rfl, by omega, hb.2.1, Lib.hid (fun m h1 h2 => by omega), Lib.hid (Below.refl _ _)⟩
    case round =>
      obtain ⟨j, rfl, hj0, hj1, HN, HB⟩ := hrel
      obtain ⟨c0, c1, c2⟩ := HC.out _ HB.out
      by_cases hlt : j < h0 + 1
      · have HI : Hid (inB k j = true) := Lib.hid ((HIN.out j).2 ⟨hj0, by omega⟩)
        have HCL := Lib.hid (HNM.out j _ HI.out HB.out)
        by_cases he : (⟨(showK k j).toArray⟩ : ByteArray) = s
        · have hq : ((⟨(showK k j).toArray⟩ : ByteArray).toList == s.toList) = true := (same_str2 _ _).2 he
          have HF : Hid (NmIs k s j) := Lib.hid ((HNI.out j).2 (.inl ⟨HI.out, he.symm⟩))
          generalize (⟨(showK k j).toArray⟩ : ByteArray) = nm at *
          clear he
          go_wp2_with ((first | go_at_call 36 | go_at_call 60 | go_at_call 61); (with_reducible refine HCL.out.mono ?_); rintro e w2 ⟨rfl, hb2⟩; have HB2 := Lib.hid (below_step HB.out hb2); clear hb2)
          go_ret2
          exact ⟨_, _, rfl, HF.out, HB2.out⟩
        · have hq : ((⟨(showK k j).toArray⟩ : ByteArray).toList == s.toList) = false := by rw [Bool.eq_false_iff, Ne, same_str2]; exact he
          have HN2 : Hid (∀ m, l0 ≤ m → m < j + 1 → s ≠ ⟨(showK k m).toArray⟩) := Lib.hid (fun m h1 h2 e => by
            rcases Int.lt_or_le m j with h | h
            · exact HN.out m h1 h e
            · obtain rfl : m = j := by omega
              exact he e.symm)
          generalize (⟨(showK k j).toArray⟩ : ByteArray) = nm at *
          clear he
          go_wp2_with ((first | go_at_call 36 | go_at_call 60 | go_at_call 61); (with_reducible refine HCL.out.mono ?_); rintro e w2 ⟨rfl, hb2⟩; have HB2 := Lib.hid (below_step HB.out hb2); clear hb2 c0 c1 c2)
          refine ⟨⟨j + 1, by simp, by omega, by omega, HN2, HB2⟩, ?_⟩
          simp [intOf]
          omega
      · have hlt2 : decide (j < h0 + 1) = false := by simpa using hlt
        have HF : Hid (NmIs k s 0) := Lib.hid ((HNI.out 0).2 (.inr ⟨rfl, fun m hm => HN.out m ((HIN.out m).1 hm).1 (by have := ((HIN.out m).1 hm).2; omega)⟩))
        go_wp2
        go_ret2
        first | exact ⟨0, rfl, HF.out, HB.out⟩ | exact ⟨0, by simp, HF.out, HB.out⟩ | exact ⟨0, false, rfl, HF.out, HB.out⟩
end Go.Proofs.YtamagdnlicnefaaGreatDoor
