/- Contracts of the document's Reel: look. -/
import Derived.Test.YtamagdnlicnefaaDoorVh
import Derived.LoopTactic
import Derived.Lib.Bytes
namespace Go.Proofs.YtamagdnlicnefaaDoor
open Go.RowKit Go.Shelf Go.Proofs.YtamagdnlicnefaaDoorW.PrintWords Go.Proofs.YtamagdnlicnefaaDoorW.PrintLast Go.Proofs.YtamagdnlicnefaaDoorW.PrintMore

/-- The document's Reel at block g: its bytes bs, in the slice v, and its place. -/
structure RefIs (W : World) (g base : Nat) (v : Value) (bs : List Int) (at_ : Nat) : Prop where
  blk : W.heap[g]? = some (.cells #[v, .int .i64 at_] 40 (0, 0))
  own : W.ownsRow base 5 1 v bs.length (nums .u8 bs)
  le : at_ ≤ bs.length
  small : bs.length ≤ 140737488355328
  bytes : ∀ b ∈ bs, 0 ≤ b ∧ b ≤ 255

theorem RefIs.below {w w' : World} {g base p : Nat} {v : Value} {bs : List Int} (h : RefIs w g base v bs p) (hb : Below w.heap.size w w') : RefIs w' g base v bs p :=
  ⟨(hb.block g (blk_lt h.blk)).trans h.blk, pw_own_below h.own hb, h.le, h.small, h.bytes⟩
theorem RefIs.ne {W : World} {g base p : Nat} {v : Value} {bs : List Int} (h : RefIs W g base v bs p) : v.ownBlock ≠ some g := fun e => own_ne h.own h.blk (by decide) e.symm
theorem RefIs.move {w : World} {g base p q : Nat} {v : Value} {bs : List Int} (h : RefIs w g base v bs p) (hq : q ≤ bs.length) : RefIs (w.setCell ⟨g, 1, none⟩ (.int .i64 q)) g base v bs q :=
  ⟨by have := blk_set h.blk 1 (.int .i64 q); simpa using this, own_setCell h.own (Ne.symm h.ne) _, hq, h.small, h.bytes⟩
theorem RefIs.cells {W : World} {g base p : Nat} {v : Value} {bs : List Int} (h : RefIs W g base v bs p) : W.cell? ⟨g, 0, none⟩ = some v ∧ W.cell? ⟨g, 1, none⟩ = some (.int .i64 p) := ⟨blk_cell h.blk 0, blk_cell h.blk 1⟩

/-- The place is at the end. -/
theorem look_end (w : World) (g base : Nat) (v : Value) (bs : List Int) (hR : RefIs w g base v bs bs.length) :
    Calls Tryd.prog 54 #[.pointer (some ⟨g, 0, none⟩)] w fun e w' => e = .returned (.tuple #[.int .u64 0, .int .i64 0, .int .i64 10]) ∧ Below w.heap.size w w' := by
  obtain ⟨hc0, hc1⟩ := hR.cells
  obtain ⟨A, c, rfl⟩ := own_slice hR.own
  have h' : decide ((bs.length : Int) ≤ (bs.length : Int)) = true := decide_eq_true (Int.le_refl _)
  go_enter Tryd.func54, Tryd.ntmps54
  go_wp2
  go_quiet (fail)
  go_wp2
  go_ret3
  exact ⟨rfl, pw_below_drewN (Below.refl _ _) _⟩

/-- The bit of a round. -/
def bitOf (j : Nat) : Nat := if j = 8 then 0 else 2 ^ (7 - j)
theorem bit_on : ∀ y : Fin 256, ∀ j : Fin 9, j.val + 1 < VP.lead y.val → j.val < 8 ∧ 0 < bitOf j.val ∧ bitOf j.val ≤ y.val - VP.mark (j.val + 1) ∧ y.val - VP.mark (j.val + 1) - bitOf j.val = y.val - VP.mark (j.val + 1 + 1) ∧ bitOf j.val / 2 = bitOf (j.val + 1) := by decide +kernel
theorem bit_off : ∀ y : Fin 256, bitOf (VP.lead y.val - 1) = 0 ∨ (0 < bitOf (VP.lead y.val - 1) ∧ y.val - VP.mark (VP.lead y.val) < bitOf (VP.lead y.val - 1)) := by decide +kernel

theorem m_small : ∀ y : Fin 256, (VP.lead y.val - 1 < 8 → y.val - VP.mark (VP.lead y.val) < 2 ^ (7 - (VP.lead y.val - 1))) ∧ (VP.lead y.val - 1 = 8 → y.val - VP.mark (VP.lead y.val) = 0) := by decide +kernel

set_option maxRecDepth 100000 in
set_option maxHeartbeats 2000000 in
theorem look_some (w : World) (g base : Nat) (v : Value) (bs : List Int) (p : Nat) (hR : RefIs w g base v bs p) (hlt : p < bs.length) :
    Calls Tryd.prog 54 #[.pointer (some ⟨g, 0, none⟩)] w fun e w' => e = .returned (.tuple #[.int .u64 (look (rest bs p)).1, .int .i64 (look (rest bs p)).2.1, .int .i64 (look (rest bs p)).2.2]) ∧ Below w.heap.size w w' := by
  obtain ⟨hc0, hc1⟩ := hR.cells
  have hs := hR.small
  obtain ⟨A, c, rfl⟩ := own_slice hR.own
  have hcap := (row_C hR.own).2.1
  obtain ⟨ab, hA, hcb⟩ := Kd.at_int (row_C hR.own).2.2 (p : Int) (by omega) (by omega)
  have hci : ∀ i : Nat, i < bs.length → w.cell? (ab.add i) = some (.int .u8 (bs.getD i 0)) := by
    intro i hi
    obtain ⟨ad, e, h⟩ := Kd.at_int (row_C hR.own).2.2 (i : Int) (by omega) (by omega)
    rw [hA] at e
    cases e
    simpa [rd] using h
  have hby := hR.bytes (bs.getD p 0) (by rw [List.getD_eq_getElem?_getD, List.getElem?_eq_getElem hlt]; exact List.getElem_mem hlt)
  have hrd : rd bs (p : Int) = bs.getD p 0 := by simp [rd]
  rw [hrd] at hcb
  obtain ⟨y, hy⟩ := Int.eq_ofNat_of_zero_le hby.1
  have hrest : rest bs p = y :: rest bs (p + 1) := by
    rw [rest, List.drop_eq_getElem_cons hlt, List.map_cons]
    congr 1
    have : bs.getD p 0 = bs[p] := by rw [List.getD_eq_getElem?_getD, List.getElem?_eq_getElem hlt]; rfl
    rw [← this, hy]; rfl
  rw [hy] at hcb hby
  have hy256 : y < 256 := by have := hby.2; omega
  simp only [Int.toNat_natCast] at hcb
  clear hrd hby hy
  have hon := fun j (hj : j < 9) => bit_on ⟨y, hy256⟩ ⟨j, hj⟩
  have hoff := bit_off ⟨y, hy256⟩
  have hms := m_small ⟨y, hy256⟩
  have hml := VP.mark_lead y hy256
  simp only at hon hoff hms
  have h' : decide ((bs.length : Int) ≤ (p : Int)) = false := decide_eq_false (by omega)
  have hw1 : IntKind.i64.wrap (y : Int) = (y : Int) := by rw [IntKind.wrap_i64]; omega
  subst hA
  obtain ⟨R, hRR⟩ : ∃ R, R = look (rest bs p) := ⟨_, rfl⟩
  rw [← hRR]
  have HLK := Lib.hid hRR
  rw [hrest, look_cons] at hRR
  have HR := Lib.hid hR
  have HCB := Lib.hid (fun W (h : Below w.heap.size w W) => pw_cell_below h hcb)
  have HON := Lib.hid hon
  have HOFF := Lib.hid hoff
  have HMS := Lib.hid hms
  have HCI := Lib.hid hci
  have HML := Lib.hid hml
  have HREST := Lib.hid hrest
  clear hR hon hoff hml hrest hms hci
  generalize hL : VP.lead y = L at *
  have HLL := Lib.hid hL
  have HRR := Lib.hid hRR
  clear hL hRR
  go_enter Tryd.func54, Tryd.ntmps54
  go_wp2
  go_quiet (fail)
  have hB1 := Lib.hid (pw_below_drewN (Below.refl w.heap.size w) nq)
  generalize w.drewN nq = w1 at *
  clear hc0 hc1 hcb
  obtain ⟨hc0, hc1⟩ := (HR.out.below hB1.out).cells
  have hcb1 := HCB.out _ hB1.out
  go_wp2
  go_quiet (fail)
  have hB2 := Lib.hid (pw_below_drewN hB1.out nq)
  clear hc0 hc1 hcb1 hB1
  generalize w1.drewN nq = w2 at *
  clear w1
  go_wp2
  go_loop [5, 6, 7] (fun a b d => ∃ j M T : Nat, j + 1 ≤ L ∧ a = .int .i64 ((j : Int) + 1) ∧ b = .int .i64 M ∧ d = .int .i64 T ∧ Aside0 (M = y - VP.mark (j + 1)) ∧ Aside0 (T = bitOf j)) (fun a _ _ => 9 - (intOf a).toNat)
  case atStart => exact ⟨0, y, 128, (HML.out).2.2.1, rfl, rfl, rfl, Aside0.mk rfl, Aside0.mk (by decide)⟩
  case round =>
    obtain ⟨j, M, T, hj, rfl, rfl, rfl, HM, HT⟩ := hrel
    have hL9 : L ≤ 9 := (HML.out).2.2.2
    have hMl : M ≤ y := by have := HM.out; omega
    by_cases hjl : j + 1 < L
    · obtain ⟨h8, hp, hle, hsub, hhalf⟩ := HON.out j (by omega) hjl
      rw [← HT.out] at hp hle hsub hhalf
      rw [← HM.out] at hle hsub
      have HSUB := Lib.hid hsub
      have HHALF := Lib.hid hhalf
      clear hsub hhalf
      have hp' : (0 : Int) < (T : Int) := by omega
      have hle' : (T : Int) ≤ (M : Int) := by omega
      have hT256 : T ≤ 256 := by omega
      go_wp2
      go_round
      case rel => exact ⟨j + 1, M - T, T / 2, by omega, by go_num, by go_num, by go_num, Aside0.mk HSUB.out, Aside0.mk HHALF.out⟩
      case measure => simp [intOf]; omega
    · obtain rfl : L = j + 1 := by omega
      have hoff := HOFF.out
      rw [Nat.add_sub_cancel, ← HT.out, ← HM.out] at hoff
      have hoff' : T = 0 ∨ ((0 : Int) < (T : Int) ∧ ¬ (T : Int) ≤ (M : Int)) := by omega
      clear hoff
      have hrl : (rest bs (p + 1)).length = bs.length - (p + 1) := by simp [rest]
      have HRL := Lib.hid hrl
      have hM64 : (M : Int) ≤ 255 := by omega
      clear hrl hj hjl hMl
      rcases hoff' with h0 | ⟨h0, h1⟩
      all_goals
        try subst h0
        go_wp2
        obtain ⟨hc0, hc1⟩ := (HR.out.below hB2.out).cells
        obtain ⟨q, hq⟩ : ∃ q, q = p + (j + 1) := ⟨_, rfl⟩
        have hqs : IntKind.i64.wrap ((p : Int) + ((j : Int) + 1)) = (q : Int) := by rw [IntKind.wrap_i64]; omega
        have HQ := Lib.hid hq
        by_cases hsh : bs.length < q
        · have hd : decide ((bs.length : Int) < (q : Int)) = true := decide_eq_true (by omega)
          obtain rfl : R = (0, 0, 10) := by rw [HRR.out, if_pos (by have := HRL.out; omega)]
          clear hq
          go_quiet (fail)
          go_wp2
          go_ret3
          exact ⟨rfl, pw_below_drewN hB2.out _⟩
        · have hd : decide ((bs.length : Int) < (q : Int)) = false := decide_eq_false (by omega)
          have hR2 := HRR.out
          rw [if_neg (by have := HRL.out; omega), Nat.add_sub_cancel, ← HM.out] at hR2
          have HR2 := Lib.hid hR2
          clear hR2 HRR
          clear hq
          go_quiet (fail)
          clear hc0 hc1
          have hB3 := Lib.hid (pw_below_drewN hB2.out nq)
          generalize w2.drewN nq = w3 at *
          have hms := HMS.out
          rw [Nat.add_sub_cancel, ← HM.out] at hms
          have HSS := Lib.hid (fun (m : Nat) (hm : m ≤ j) => fold_small M j m ((rest bs (p + 1)).take m) (fun b h => rest_lt bs HR.out.bytes (p + 1) b (List.mem_of_mem_take h)) (by rw [List.length_take]; have := HRL.out; have := HQ.out; omega) hm (by omega) hms.1 hms.2)
          clear hms
          go_wp2
          go_loopw [8, 9] (fun n i W => ∃ m F : Nat, m ≤ j ∧ i = .int .i64 ((m : Int) + 1) ∧ n = .int .u64 F ∧ Aside0 (F = VP.fold M ((rest bs (p + 1)).take m)) ∧ Aside0 (Below w.heap.size w W)) (fun _ i _ => j + 1 - (intOf i).toNat)
          case atStart => exact ⟨0, M, Nat.zero_le _, rfl, rfl, Aside0.mk rfl, Aside0.mk hB3.out⟩
          case round =>
            obtain ⟨m, F, hm, rfl, rfl, HF, HBm⟩ := hrel
            by_cases hmj : m < j
            · have hq2 : p + (m + 1) < bs.length := by have := HQ.out; omega
              obtain ⟨q2, hq2e⟩ : ∃ q2, q2 = p + (m + 1) := ⟨_, rfl⟩
              rw [← hq2e] at hq2
              have hF56 := (HSS.out m hm).2 hmj
              rw [← HF.out] at hF56
              have hcz := pw_cell_below HBm.out (HCI.out q2 hq2)
              have hbz := HR.out.bytes (bs.getD q2 0) (by rw [List.getD_eq_getElem?_getD, List.getElem?_eq_getElem hq2]; exact List.getElem_mem hq2)
              obtain ⟨z, hz⟩ := Int.eq_ofNat_of_zero_le hbz.1
              have hnx : (rest bs (p + 1)).take (m + 1) = (rest bs (p + 1)).take m ++ [z] := by
                refine (take_next _ _ _ ?_).symm
                simp only [rest, List.getElem?_map, List.getElem?_drop]
                rw [show p + 1 + m = q2 by omega, List.getElem?_eq_getElem hq2]
                rw [List.getD_eq_getElem?_getD, List.getElem?_eq_getElem hq2] at hz
                simp only [Option.getD_some] at hz
                simp [hz]
              have hfx : 256 * F + z = VP.fold M ((rest bs (p + 1)).take (m + 1)) := by rw [hnx, fold_snoc, ← HF.out]
              rw [hz] at hcz hbz
              have HFX := Lib.hid hfx
              obtain ⟨hc0, hc1⟩ := (HR.out.below HBm.out).cells
              have f1 : IntKind.u64.wrap (256 * (F : Int)) = 256 * (F : Int) := by rw [IntKind.wrap_u64]; omega
              have f2 : IntKind.i64.wrap ((p : Int) + ((m : Int) + 1)) = (q2 : Int) := by rw [IntKind.wrap_i64]; omega
              have f3 : IntKind.u64.wrap (z : Int) = (z : Int) := by rw [IntKind.wrap_u64]; omega
              have f4 : IntKind.u64.wrap (256 * (F : Int) + (z : Int)) = ((256 * F + z : Nat) : Int) := by rw [IntKind.wrap_u64]; omega
              have hq2i : (q2 : Int) < (bs.length : Int) := by omega
              clear hz hnx hfx hq2e
              go_wp2
              go_quiet (fail)
              go_wp2
              refine ⟨⟨m + 1, 256 * F + z, by omega, by go_num, by go_num, Aside0.mk HFX.out, Aside0.mk (pw_below_drewN HBm.out nq)⟩, ?_⟩
              show j + 1 - ((m : Int) + 1 + 1).toNat < j + 1 - ((m : Int) + 1).toNat
              omega
            · obtain rfl : j = m := by omega
              go_wp2
              have hF64 := (HSS.out j (Nat.le_refl _)).1
              rw [← HF.out] at hF64
              have HF64 := Lib.hid hF64
              have hpq : p + j + 1 = q := by have := HQ.out; omega
              obtain ⟨A', hcut, hcc⟩ := cut_read (some ab) c p q bs (by omega) (by omega) hcap
              have hqs : IntKind.i64.wrap ((p : Int) + ((j : Int) + 1)) = (q : Int) := by rw [IntKind.wrap_i64]; omega
              have HRm := Lib.hid (HR.out.below (below_drew HBm.out))
              have HB4 := Lib.hid (below_drew HBm.out)
              obtain ⟨e0, e1⟩ := HRm.out.cells
              have hcs := string_read (c := c - p) (hcc _ (row_C HRm.out.own).2.2)
              have hcs5 := fun W (h : Below wr.drew.heap.size wr.drew W) => string_read (c := c - p) (hcc W (Kd.C_below (row_C HRm.out.own).2.2 h))
              clear hF64 hpq hcc
              -- region 17: 20 operations: 0:move 1:call 2:convert 3:move 4:nilCheck 5:fieldAddr 6:load 7:move 8:nilCheck 9:fieldAddr 10:load 11:move 12:nilCheck 13:fieldAddr 14:load 15:move 16:binOp 17:slice 18:convert 19:binOp
              refine start_ (S := fun W' => W'.cell? ⟨g, 0, none⟩ = some (.slice (some ab) bs.length c) ∧ W'.cell? ⟨g, 1, none⟩ = some (.int .i64 p) ∧ (convert 30 9 (.slice A' (q - p) (c - p))).run Tryd.prog W' = .ok (.string (strOfNums ((bs.take q).drop p))) W') (ds := []) #[false, false, false, false, false, false, false, false, false, false, false, false, false, false, false, false, false, false, false, false] (by kernel_rfl) rfl rfl ⟨e0, e1, hcs⟩ (fun hHeld => ?_)
              refine pure_ (i := 0) (N := some 80) (v := ?_) (a' := ?_) #[true, false, false, false, false, false, false, false, false, false, false, false, false, false, false, false, false, false, false, false] rfl rfl (by kernel_rfl) (fun _ _ _ h => h) (Or.inl ⟨by rfl, ?_⟩) ?_ ?_
              rotate_left
              · intro w'
                go_simp
                with_reducible rfl
              rotate_left
              · simp only [Act.put, List.setIfInBounds_toArray, List.set_cons_zero, List.set_cons_succ]
                rfl
              refine pure_ (i := 3) (N := some 83) (v := ?_) (a' := ?_) #[true, false, false, true, false, false, false, false, false, false, false, false, false, false, false, false, false, false, false, false] rfl rfl (by kernel_rfl) (fun _ _ _ h => h) (Or.inl ⟨by rfl, ?_⟩) ?_ ?_
              rotate_left
              · intro w'
                go_simp
                with_reducible rfl
              rotate_left
              · simp only [Act.put, List.setIfInBounds_toArray, List.set_cons_zero, List.set_cons_succ]
                rfl
              refine pure_ (i := 4) (N := some 84) (v := ?_) (a' := ?_) #[true, false, false, true, true, false, false, false, false, false, false, false, false, false, false, false, false, false, false, false] rfl rfl (by kernel_rfl) (fun _ _ _ h => h) (Or.inl ⟨by rfl, ?_⟩) ?_ ?_
              rotate_left
              · intro w'
                go_simp
                with_reducible rfl
              rotate_left
              · simp only [Act.put, List.setIfInBounds_toArray, List.set_cons_zero, List.set_cons_succ]
                rfl
              refine pure_ (i := 5) (N := some 85) (v := ?_) (a' := ?_) #[true, false, false, true, true, true, false, false, false, false, false, false, false, false, false, false, false, false, false, false] rfl rfl (by kernel_rfl) (fun _ _ _ h => h) (Or.inl ⟨by rfl, ?_⟩) ?_ ?_
              rotate_left
              · intro w'
                go_simp
                with_reducible rfl
              rotate_left
              · simp only [Act.put, List.setIfInBounds_toArray, List.set_cons_zero, List.set_cons_succ]
                rfl
              refine pure_ (i := 7) (N := some 87) (v := ?_) (a' := ?_) #[true, false, false, true, true, true, false, true, false, false, false, false, false, false, false, false, false, false, false, false] rfl rfl (by kernel_rfl) (fun _ _ _ h => h) (Or.inl ⟨by rfl, ?_⟩) ?_ ?_
              rotate_left
              · intro w'
                go_simp
                with_reducible rfl
              rotate_left
              · simp only [Act.put, List.setIfInBounds_toArray, List.set_cons_zero, List.set_cons_succ]
                rfl
              refine pure_ (i := 8) (N := some 88) (v := ?_) (a' := ?_) #[true, false, false, true, true, true, false, true, true, false, false, false, false, false, false, false, false, false, false, false] rfl rfl (by kernel_rfl) (fun _ _ _ h => h) (Or.inl ⟨by rfl, ?_⟩) ?_ ?_
              rotate_left
              · intro w'
                go_simp
                with_reducible rfl
              rotate_left
              · simp only [Act.put, List.setIfInBounds_toArray, List.set_cons_zero, List.set_cons_succ]
                rfl
              refine pure_ (i := 9) (N := some 89) (v := ?_) (a' := ?_) #[true, false, false, true, true, true, false, true, true, true, false, false, false, false, false, false, false, false, false, false] rfl rfl (by kernel_rfl) (fun _ _ _ h => h) (Or.inl ⟨by rfl, ?_⟩) ?_ ?_
              rotate_left
              · intro w'
                go_simp
                with_reducible rfl
              rotate_left
              · simp only [Act.put, List.setIfInBounds_toArray, List.set_cons_zero, List.set_cons_succ]
                rfl
              refine pure_ (i := 11) (N := some 91) (v := ?_) (a' := ?_) #[true, false, false, true, true, true, false, true, true, true, false, true, false, false, false, false, false, false, false, false] rfl rfl (by kernel_rfl) (fun _ _ _ h => h) (Or.inl ⟨by rfl, ?_⟩) ?_ ?_
              rotate_left
              · intro w'
                go_simp
                with_reducible rfl
              rotate_left
              · simp only [Act.put, List.setIfInBounds_toArray, List.set_cons_zero, List.set_cons_succ]
                rfl
              refine pure_ (i := 12) (N := some 92) (v := ?_) (a' := ?_) #[true, false, false, true, true, true, false, true, true, true, false, true, true, false, false, false, false, false, false, false] rfl rfl (by kernel_rfl) (fun _ _ _ h => h) (Or.inl ⟨by rfl, ?_⟩) ?_ ?_
              rotate_left
              · intro w'
                go_simp
                with_reducible rfl
              rotate_left
              · simp only [Act.put, List.setIfInBounds_toArray, List.set_cons_zero, List.set_cons_succ]
                rfl
              refine pure_ (i := 13) (N := some 93) (v := ?_) (a' := ?_) #[true, false, false, true, true, true, false, true, true, true, false, true, true, true, false, false, false, false, false, false] rfl rfl (by kernel_rfl) (fun _ _ _ h => h) (Or.inl ⟨by rfl, ?_⟩) ?_ ?_
              rotate_left
              · intro w'
                go_simp
                with_reducible rfl
              rotate_left
              · simp only [Act.put, List.setIfInBounds_toArray, List.set_cons_zero, List.set_cons_succ]
                rfl
              refine pure_ (i := 15) (N := some 95) (v := ?_) (a' := ?_) #[true, false, false, true, true, true, false, true, true, true, false, true, true, true, false, true, false, false, false, false] rfl rfl (by kernel_rfl) (fun _ _ _ h => h) (Or.inl ⟨by rfl, ?_⟩) ?_ ?_
              rotate_left
              · intro w'
                go_simp
                with_reducible rfl
              rotate_left
              · simp only [Act.put, List.setIfInBounds_toArray, List.set_cons_zero, List.set_cons_succ]
                rfl
              refine take_ (i := 6) (N := some 86) (v := ?_) (a' := ?_) #[true, false, false, true, true, true, true, true, true, true, false, true, true, true, false, true, false, false, false, false] rfl rfl (by kernel_rfl) (fun _ _ _ h => h) (Or.inl ⟨by rfl, ?_⟩) hHeld ?_ ?_
              rotate_left
              · rintro w' ⟨h1, h2, h3⟩
                go_simp
                with_reducible rfl
              rotate_left
              · simp only [Act.put, List.setIfInBounds_toArray, List.set_cons_zero, List.set_cons_succ]
                rfl
              refine take_ (i := 10) (N := some 90) (v := ?_) (a' := ?_) #[true, false, false, true, true, true, true, true, true, true, true, true, true, true, false, true, false, false, false, false] rfl rfl (by kernel_rfl) (fun _ _ _ h => h) (Or.inl ⟨by rfl, ?_⟩) hHeld ?_ ?_
              rotate_left
              · rintro w' ⟨h1, h2, h3⟩
                go_simp
                with_reducible rfl
              rotate_left
              · simp only [Act.put, List.setIfInBounds_toArray, List.set_cons_zero, List.set_cons_succ]
                rfl
              refine take_ (i := 14) (N := some 94) (v := ?_) (a' := ?_) #[true, false, false, true, true, true, true, true, true, true, true, true, true, true, true, true, false, false, false, false] rfl rfl (by kernel_rfl) (fun _ _ _ h => h) (Or.inl ⟨by rfl, ?_⟩) hHeld ?_ ?_
              rotate_left
              · rintro w' ⟨h1, h2, h3⟩
                go_simp
                with_reducible rfl
              rotate_left
              · simp only [Act.put, List.setIfInBounds_toArray, List.set_cons_zero, List.set_cons_succ]
                rfl
              refine pure_ (i := 16) (N := some 96) (v := ?_) (a' := ?_) #[true, false, false, true, true, true, true, true, true, true, true, true, true, true, true, true, true, false, false, false] rfl rfl (by kernel_rfl) (fun _ _ _ h => h) (Or.inl ⟨by rfl, ?_⟩) ?_ ?_
              rotate_left
              · intro w'
                go_simp
                with_reducible rfl
              rotate_left
              · simp only [Act.put, List.setIfInBounds_toArray, List.set_cons_zero, List.set_cons_succ]
                rfl
              refine pure_ (i := 17) (N := some 97) (v := ?_) (a' := ?_) #[true, false, false, true, true, true, true, true, true, true, true, true, true, true, true, true, true, true, false, false] rfl rfl (by kernel_rfl) (fun _ _ _ h => h) (Or.inl ⟨by rfl, ?_⟩) ?_ ?_
              rotate_left
              · intro w'
                go_simp
                with_reducible rfl
              rotate_left
              · simp only [Act.put, List.setIfInBounds_toArray, List.set_cons_zero, List.set_cons_succ]
                rfl
              refine take_ (i := 18) (N := some 98) (v := ?_) (a' := ?_) #[true, false, false, true, true, true, true, true, true, true, true, true, true, true, true, true, true, true, true, false] rfl rfl (by kernel_rfl) (fun _ _ _ h => h) (Or.inl ⟨by rfl, ?_⟩) hHeld ?_ ?_
              rotate_left
              · rintro w' ⟨h1, h2, h3⟩
                go_simp
                with_reducible rfl
              rotate_left
              · simp only [Act.put, List.setIfInBounds_toArray, List.set_cons_zero, List.set_cons_succ]
                rfl
              refine one_ (i := 1) (N := some 81) #[true, true, false, true, true, true, true, true, true, true, true, true, true, true, true, true, true, true, true, false] rfl rfl (by kernel_rfl) (by decide) (fun K hK => ?_)
              refine goes_ Tryd.func50 (by kernel_rfl) rfl #[.int .u64 F] (by rfl) rfl rfl (by simp only [List.map_toArray, List.map_cons, List.map_nil]; rfl) ?_
              refine (RefNumber_any F HF64.out _).mono ?_
              rintro e w5 ⟨v7, rfl, ho7, hb7⟩
              obtain ⟨A7, c7, rfl⟩ := own_slice ho7
              have hcv7 := string_read (c := c7) (row_C ho7).2.2
              refine ⟨_, rfl, ?_⟩
              have HB5 := Lib.hid (below_then HB4.out (by have := HB4.out.size; omega) hb7)
              have z0 := pw_cell_below hb7 e0
              have z1 := pw_cell_below hb7 e1
              have z2 := hcs5 _ hb7
              clear ho7
              refine hK.out _ _ ⟨z0, z1, z2⟩ (fun hHeld => ?_)
              clear hK K
              refine norm_ (a' := ?_) ?_ ?_
              rotate_left
              · show Act.put _ (some 81) _ = _
                simp only [Act.put, List.setIfInBounds_toArray, List.set_cons_zero, List.set_cons_succ]
                rfl
              refine one_ (i := 2) (N := some 82) #[true, true, true, true, true, true, true, true, true, true, true, true, true, true, true, true, true, true, true, false] rfl rfl (by kernel_rfl) (by decide) (fun K hK => ?_)
              refine value_ (by rfl) rfl (v := .string (strOfNums (encI F))) (w1 := w5) (by go_simp) ?_
              refine hK.out _ _ ⟨z0, z1, z2⟩ (fun hHeld => ?_)
              clear hK K
              refine norm_ (a' := ?_) ?_ ?_
              rotate_left
              · show Act.put _ (some 82) _ = _
                simp only [Act.put, List.setIfInBounds_toArray, List.set_cons_zero, List.set_cons_succ]
                rfl
              refine pure_ (i := 19) (N := some 99) (v := ?_) (a' := ?_) #[true, true, true, true, true, true, true, true, true, true, true, true, true, true, true, true, true, true, true, true] rfl rfl (by kernel_rfl) (fun _ _ _ h => h) (Or.inl ⟨by rfl, ?_⟩) ?_ ?_
              rotate_left
              · intro w'
                go_simp
                with_reducible rfl
              rotate_left
              · simp only [Act.put, List.setIfInBounds_toArray, List.set_cons_zero, List.set_cons_succ]
                rfl
              refine done_ (by kernel_rfl) ?_
              have hR2 := HR2.out
              rw [← HF.out] at hR2
              have hql : ((bs.take q).drop p).length = j + 1 := by have := HQ.out; rw [List.length_drop, List.length_take]; omega
              clear z0 z1 z2 e0 e1 hcs hcs5 hcv7 hcut hHeld hqs
              by_cases hwid : VP.wid F = j + 1
              · rw [if_pos hwid] at hR2
                have hlk := HLK.out
                rw [hR2] at hlk
                have hb := (look_bytes bs p HR.out.bytes (by rw [← hlk])).1
                rw [← hlk, ← HQ.out] at hb
                subst hR2
                have hse : (!((strOfNums (encI F)).toList == (strOfNums ((bs.take q).drop p)).toList)) = false := by rw [hb]; simp
                clear hb hlk
                go_wp2
                all_goals first | (exfalso; rename_i hh; exact absurd (hse.symm.trans hh) Bool.false_ne_true) | (go_ret3; refine ⟨?_, HB5.out⟩; simp; done)
              · rw [if_neg hwid] at hR2
                subst hR2
                have hse0 : ((strOfNums (encI F)).toList == (strOfNums ((bs.take q).drop p)).toList) = false := by
                  rw [beq_eq_false_iff_ne]
                  intro h
                  have h2 := congrArg List.length h
                  rw [Lib.strOfNums_toList, Lib.strOfNums_toList, Lib.bytesOf_length, Lib.bytesOf_length, encI_length, hql] at h2
                  exact hwid h2
                have hse : (!((strOfNums (encI F)).toList == (strOfNums ((bs.take q).drop p)).toList)) = true := by rw [hse0]; rfl
                clear hse0
                go_wp2
                all_goals first | (exfalso; rename_i hh; exact absurd (hh.symm.trans hse) Bool.false_ne_true) | (go_ret3; refine ⟨rfl, HB5.out⟩)

/-- The document's look answers as look does. -/
theorem RefLook_any (w : World) (g base : Nat) (v : Value) (bs : List Int) (p : Nat) (hR : RefIs w g base v bs p) :
    Calls Tryd.prog 54 #[.pointer (some ⟨g, 0, none⟩)] w fun e w' => e = .returned (.tuple #[.int .u64 (look (rest bs p)).1, .int .i64 (look (rest bs p)).2.1, .int .i64 (look (rest bs p)).2.2]) ∧ Below w.heap.size w w' := by
  by_cases hlt : p < bs.length
  · exact look_some w g base v bs p hR hlt
  · obtain rfl : p = bs.length := by have := hR.le; omega
    have e : look (rest bs bs.length) = (0, 0, 10) := by rw [rest, List.drop_length]; rfl
    rw [e]
    exact look_end w g base v bs hR
end Go.Proofs.YtamagdnlicnefaaDoor
