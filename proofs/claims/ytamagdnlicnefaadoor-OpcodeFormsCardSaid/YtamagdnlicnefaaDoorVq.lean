/- Contracts of the document's Reel: Number, Signed, Raw, Bytes, End. -/
import Derived.Test.YtamagdnlicnefaaDoorVn
import Derived.Test.YtamagdnlicnefaaDoorVh
namespace Go.Proofs.YtamagdnlicnefaaDoor
open Go.RowKit Go.Shelf Go.Proofs.YtamagdnlicnefaaDoorW.PrintWords Go.Proofs.YtamagdnlicnefaaDoorW.PrintLast Go.Proofs.YtamagdnlicnefaaDoorW.PrintMore

theorem RefRNumber_any (w : World) (g base : Nat) (v : Value) (bs : List Int) (p : Nat) (most : Int) (hR : RefIs w g base v bs p) :
    Calls Tryd.prog 35 #[.pointer (some ⟨g, 0, none⟩), .int .u64 most] w fun e w' => e = .returned (.tuple #[.int .u64 (readN (rest bs p) most).1, .int .i64 (readN (rest bs p) most).2.1]) ∧
      RefIs w' g base v bs (p + (readN (rest bs p) most).2.2) ∧ Fr (fun i => i = g) w w' := by
  have hs := hR.small
  by_cases he : (look (rest bs p)).2.2 = 0
  · obtain ⟨hw1, hw2⟩ := look_wide bs p hR.le hR.bytes he
    have hf := RefLook_any w g base v bs p hR
    rw [he] at hf
    by_cases hm : most < (look (rest bs p)).1
    · have e : readN (rest bs p) most = (0, 12, 0) := by unfold readN; rw [if_pos he, if_pos hm]
      rw [e]
      generalize (look (rest bs p)).1 = n at *
      generalize (look (rest bs p)).2.1 = k at *
      have HF := Lib.hid hf
      clear hf he e
      go_enter Tryd.func35, Tryd.ntmps35
      go_wp2_with (go_at_call 54; refine HF.out.mono ?_; rintro e w1 ⟨rfl, hb⟩)
      go_ret2
      exact ⟨rfl, hR.below hb, Fr.of_below hb⟩
    · have e : readN (rest bs p) most = ((look (rest bs p)).1, 0, (look (rest bs p)).2.1) := by unfold readN; rw [if_pos he, if_neg hm]
      rw [e]
      generalize (look (rest bs p)).1 = n at *
      generalize (look (rest bs p)).2.1 = k at *
      have HF := Lib.hid hf
      have HR := Lib.hid hR
      have hm' : ¬ most < (n : Int) := hm
      clear hf he e hR hm
      go_enter Tryd.func35, Tryd.ntmps35
      go_wp2_with (go_at_call 54; refine HF.out.mono ?_; rintro e w1 ⟨rfl, hb⟩; have HR1 := Lib.hid (HR.out.below hb); have HB := Lib.hid hb; clear hb; have z1 := HR1.out.cells.2; have y1 := blk_frozen HR1.out.blk 1)
      go_ret2
      have h := HR1.out.move (q := p + k) (by omega)
      rw [show ((p + k : Nat) : Int) = (p : Int) + (k : Int) by omega] at h
      exact ⟨rfl, h, (Fr.of_below HB.out).set _ _ (fun _ => rfl)⟩
  · have e : readN (rest bs p) most = (0, (look (rest bs p)).2.2, 0) := by unfold readN; rw [if_neg he]
    rw [e]
    have hf := RefLook_any w g base v bs p hR
    generalize (look (rest bs p)).1 = n at *
    generalize (look (rest bs p)).2.1 = m at *
    generalize (look (rest bs p)).2.2 = k at *
    have hk : ((k : Int) != 0) = true := by simp; omega
    have HF := Lib.hid hf
    clear hf he e
    go_enter Tryd.func35, Tryd.ntmps35
    go_wp2_with (go_at_call 54; refine HF.out.mono ?_; rintro e w1 ⟨rfl, hb⟩)
    go_ret2
    exact ⟨rfl, hR.below hb, Fr.of_below hb⟩
theorem RefRSigned_any (w : World) (g base : Nat) (v : Value) (bs : List Int) (p : Nat) (least most : Int) (hR : RefIs w g base v bs p) :
    Calls Tryd.prog 55 #[.pointer (some ⟨g, 0, none⟩), .int .i64 least, .int .i64 most] w fun e w' => e = .returned (.tuple #[.int .i64 (readS (rest bs p) least most).1, .int .i64 (readS (rest bs p) least most).2.1]) ∧
      RefIs w' g base v bs (p + (readS (rest bs p) least most).2.2) ∧ Fr (fun i => i = g) w w' := by
  have hs := hR.small
  by_cases he : (look (rest bs p)).2.2 = 0
  · obtain ⟨hw1, hw2⟩ := look_wide bs p hR.le hR.bytes he
    have hf := RefLook_any w g base v bs p hR
    rw [he] at hf
    by_cases hm : zag (look (rest bs p)).1 < least ∨ most < zag (look (rest bs p)).1
    · have e : readS (rest bs p) least most = (0, 12, 0) := by unfold readS; rw [if_pos he, if_pos hm]
      rw [e]
      generalize (look (rest bs p)).1 = n at *
      generalize (look (rest bs p)).2.1 = k at *
      have HF := Lib.hid hf
      have HZ := Lib.hid (fun w => RefZag_any n hw2 w)
      clear hf he e
      generalize zag n = z at *
      by_cases h1 : z < least
      all_goals
       go_enter Tryd.func55, Tryd.ntmps55
       go_wp2_with (first | (go_at_call 54; refine HF.out.mono ?_; rintro e w1 ⟨rfl, hb⟩) | (go_at_call 74; refine (HZ.out _).mono ?_; rintro e w' ⟨rfl, rfl⟩))
       go_ret2
       exact ⟨rfl, hR.below hb, Fr.of_below hb⟩
    · have e : readS (rest bs p) least most = (zag (look (rest bs p)).1, 0, (look (rest bs p)).2.1) := by unfold readS; rw [if_pos he, if_neg hm]
      rw [e]
      generalize (look (rest bs p)).1 = n at *
      generalize (look (rest bs p)).2.1 = k at *
      have HF := Lib.hid hf
      have HR := Lib.hid hR
      have hm1 : ¬ zag n < least := fun h => hm (.inl h)
      have hm2 : ¬ most < zag n := fun h => hm (.inr h)
      have HZ := Lib.hid (fun w => RefZag_any n hw2 w)
      clear hf he e hR hm
      generalize zag n = z at *
      go_enter Tryd.func55, Tryd.ntmps55
      go_wp2_with (first | (go_at_call 54; refine HF.out.mono ?_; rintro e w1 ⟨rfl, hb⟩; have HR1 := Lib.hid (HR.out.below hb); have HB := Lib.hid hb; clear hb; have z1 := HR1.out.cells.2; have y1 := blk_frozen HR1.out.blk 1) | (go_at_call 74; refine (HZ.out _).mono ?_; rintro e w' ⟨rfl, rfl⟩))
      go_ret2
      have h := HR1.out.move (q := p + k) (by omega)
      rw [show ((p + k : Nat) : Int) = (p : Int) + (k : Int) by omega] at h
      exact ⟨rfl, h, (Fr.of_below HB.out).set _ _ (fun _ => rfl)⟩
  · have e : readS (rest bs p) least most = (0, (look (rest bs p)).2.2, 0) := by unfold readS; rw [if_neg he]
    rw [e]
    have hf := RefLook_any w g base v bs p hR
    generalize (look (rest bs p)).1 = n at *
    generalize (look (rest bs p)).2.1 = m at *
    generalize (look (rest bs p)).2.2 = k at *
    have hk : ((k : Int) != 0) = true := by simp; omega
    have HF := Lib.hid hf
    clear hf he e
    go_enter Tryd.func55, Tryd.ntmps55
    go_wp2_with (go_at_call 54; refine HF.out.mono ?_; rintro e w1 ⟨rfl, hb⟩)
    go_ret2
    exact ⟨rfl, hR.below hb, Fr.of_below hb⟩

end Go.Proofs.YtamagdnlicnefaaDoor
