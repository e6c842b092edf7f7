/- The document's Number, Bytes, Twin, Zig, Zag: contracts · What VaryWrites holds: the Tape, the bytes that are wanted, a row of its own; each in memory of its own · Contracts of the Reel: Raw, Bytes · Contracts of the document's Reel: look · Contracts of the document's Reel: Number, Signed, Raw, Bytes, End. -/
import Derived.Test.YtacmajlbaenjfaaV1
import Derived.Test.YtacmajlbaenjfaaPRefb
import Derived.Test.YtacmajlbaenjfaaPRefa
import Derived.LoopTactic
import Derived.Lib.Bytes
/- The document's Number, Bytes, Twin, Zig, Zag: contracts. -/
namespace Go.Proofs.Ytacmajlbaenjfaa
open Go.RowKit Go.Shelf Go.Proofs.YtacmajlbaenjfaaW.PrintWords Go.Proofs.YtacmajlbaenjfaaW.PrintLast Go.Proofs.YtacmajlbaenjfaaW.PrintMore
open Go.Proofs.Ytacmajlbaenjfaa.PRef

theorem be_snoc : ∀ (j n : Nat), VP.be (j + 1) n = VP.be j (n / 256) ++ [n % 256]
  | 0, n => by simp [VP.be]
  | j + 1, n => by
    have e : VP.be (j + 1 + 1) n = (n / 256 ^ (j + 1) % 256) :: VP.be (j + 1) n := rfl
    rw [e, be_snoc j n]
    have e2 : VP.be (j + 1) (n / 256) = (n / 256 / 256 ^ j % 256) :: VP.be j (n / 256) := rfl
    rw [e2, Nat.div_div_eq_div_mul, Nat.pow_succ, Nat.mul_comm (256 ^ j) 256]
    rfl

theorem width_l0 (n : Nat) (hn : n < 18446744073709551616) : ∀ (m k : Nat), 1 ≤ k → k ≤ 8 → m + k = 8 → (k = 1 ∨ 128 ^ (k - 1) ≤ n) → backstayref01_Width.l0 (m + 1) n k (128 ^ k : Nat) = some (VP.wid n : Int)
  | 0, k, h1, h8, hm, hlo => by
    obtain rfl : k = 8 := by omega
    simp only [backstayref01_Width.l0]
    rw [if_neg (by omega)]
    by_cases h : 72057594037927936 ≤ n
    · rw [if_pos (by simp; omega), wid_9 n h]; rfl
    · rw [if_neg (by simp; omega), wid_of n 8 h1 h8 hlo (by simp; omega)]
  | m + 1, k, h1, h8, hm, hlo => by
    rw [backstayref01_Width.l0, if_pos (by omega)]
    by_cases h : 128 ^ k ≤ n
    · rw [if_pos (by exact_mod_cast h)]
      have e1 : wrap64 ((k : Int) + 1) = ((k + 1 : Nat) : Int) := by
        unfold wrap64; omega
      have hp := pow128 (k + 1) (by omega)
      have e2 : IntKind.u64.wrap (((128 ^ k : Nat) : Int) * 128) = ((128 ^ (k + 1) : Nat) : Int) := by
        rw [IntKind.wrap_u64, Nat.pow_succ]
        rw [Nat.pow_succ] at hp
        omega
      rw [e1, e2]
      exact width_l0 n hn m (k + 1) (by omega) (by omega) (by omega) (.inr h)
    · rw [if_neg (by simp only [ge_iff_le, Int.ofNat_le]; exact h), wid_of n k h1 h8 hlo (by omega)]

theorem width_f (n : Nat) (hn : n < 18446744073709551616) : backstayref01_Width.f 8 n = some (VP.wid n : Int) := width_l0 n hn 7 1 (by omega) (by omega) (by omega) (.inl rfl)

theorem l1_at (w : Nat) (h1 : 1 ≤ w) (h9 : w ≤ 9) (L : List Int) : backstayref01_Number.l1 9 w L 0 128 1 = if 0 < (L.length : Int) then some (L.set 0 (wrap64 (((VP.mark w : Nat) : Int) + wrap64 (rd L 0)) % 256)) else none := by
  have : w = 1 ∨ w = 2 ∨ w = 3 ∨ w = 4 ∨ w = 5 ∨ w = 6 ∨ w = 7 ∨ w = 8 ∨ w = 9 := by omega
  rcases this with rfl | rfl | rfl | rfl | rfl | rfl | rfl | rfl | rfl <;> simp [backstayref01_Number.l1, VP.mark, wrap64]

theorem l0_at (w : Nat) (K : Nat) : ∀ (j x : Nat) (L : List Int), x < 18446744073709551616 → j ≤ L.length → L.length ≤ 9 →
    backstayref01_Number.l0 (K + 1 + j) x w L ((j : Int) - 1) = backstayref01_Number.l1 K w ((VP.be j x).map Int.ofNat ++ L.drop j) 0 128 1
  | 0, x, L, _, _, _ => by
    rw [Nat.add_zero, backstayref01_Number.l0, if_neg (by omega)]
    simp [VP.be]
  | j + 1, x, L, hx, hj, h9 => by
    have ej : (((j + 1 : Nat) : Int) - 1) = (j : Int) := by omega
    rw [ej, ← Nat.add_assoc, backstayref01_Number.l0, if_pos (by omega), if_pos (by omega), if_pos (by omega)]
    have e1 : IntKind.u64.wrap (Int.tdiv (x : Int) 256) = ((x / 256 : Nat) : Int) := by
      rw [Int.tdiv_eq_ediv_of_nonneg (by omega), IntKind.wrap_u64]; omega
    have e2 : wrap64 ((j : Int) - 1) = (j : Int) - 1 := by
      unfold wrap64; omega
    have e3 : (Int.tmod (x : Int) 256) % 256 = ((x % 256 : Nat) : Int) := by
      rw [Int.tmod_eq_emod_of_nonneg (by omega)]; omega
    rw [e1, e2, e3, l0_at w K j (x / 256) _ (by omega) (by rw [List.length_set]; omega) (by rw [List.length_set]; omega), Int.toNat_natCast, be_snoc, List.map_append, List.append_assoc]
    congr 2
    have hjl : j < L.length := by omega
    rw [List.drop_eq_getElem_cons (by rw [List.length_set]; exact hjl), List.getElem_set_self, List.drop_set_of_lt (by omega)]
    rfl

theorem leO_up {α : Type} {f : Nat → Option α} (hs : ∀ k, LeO (f k) (f (k + 1))) {a b : Nat} (hab : a ≤ b) {r : α} (h : f a = some r) : f b = some r := by
  induction hab with
  | refl => exact h
  | step _ ih => exact hs _ r ih

theorem number_f (n : Nat) (hn : n < 18446744073709551616) : backstayref01_Number.f 19 n = some (encI n) := by
  have hw := VP.wid_pos n
  have hf : backstayref01_Width.f 19 n = some (VP.wid n : Int) := leO_up (f := fun k => backstayref01_Width.f k n) (fun k => backstayref01_Width.mono _ k) (by omega) (width_f n hn)
  obtain ⟨d, hd⟩ : ∃ d, VP.wid n = d + 1 := ⟨VP.wid n - 1, by omega⟩
  have h0 : backstayref01_Number.l0 19 n (VP.wid n : Int) (List.replicate (VP.wid n) 0) ((VP.wid n : Int) - 1) = backstayref01_Number.l1 (18 - VP.wid n) (VP.wid n : Int) ((VP.be (VP.wid n) n).map Int.ofNat) 0 128 1 := by
    have h := l0_at (VP.wid n) (18 - VP.wid n) (VP.wid n) n (List.replicate (VP.wid n) 0) hn (by simp) (by simp; omega)
    rw [show 18 - VP.wid n + 1 + VP.wid n = 19 by omega] at h
    rw [h, List.drop_of_length_le (by simp), List.append_nil]
  have h1 : backstayref01_Number.l1 (18 - VP.wid n) (VP.wid n : Int) ((VP.be (VP.wid n) n).map Int.ofNat) 0 128 1 = some (encI n) := by
    have h := l1_at (VP.wid n) hw.1 hw.2 ((VP.be (VP.wid n) n).map Int.ofNat)
    rw [if_pos (by simp [VP.be_length]; omega)] at h
    have h' := leO_up (f := fun k => backstayref01_Number.l1 k (VP.wid n : Int) ((VP.be (VP.wid n) n).map Int.ofNat) 0 128 1) (fun k => (backstayref01_Number.mono_l k).2 _ _ _ _ _) (show 9 ≤ 18 - VP.wid n by omega) h
    rw [h']
    congr 1
    obtain ⟨_, f2, _, _, f5⟩ := VP.first_cases n hn
    rw [encI, VP.enc, VP.first] at *
    simp only [hd, Nat.add_sub_cancel] at *
    have e1 : VP.be (d + 1) n = (n / 256 ^ d % 256) :: VP.be d n := rfl
    rw [e1, Nat.mod_eq_of_lt f5]
    simp only [List.map_cons, List.set_cons_zero, rd, Int.toNat_zero, List.getD_cons_zero]
    generalize n / 256 ^ d = q at *
    congr 1
    unfold wrap64
    simp only [Int.ofNat_eq_natCast]
    omega
  show ((backstayref01_Width.f 19 n).bind _) = _
  rw [hf]
  show (if (0 : Int) ≤ (VP.wid n : Int) then (if ((VP.wid n : Int)).toNat ≤ 281474976710656 then _ else none) else none) = _
  rw [if_pos (by omega), if_pos (by omega), show wrap64 ((VP.wid n : Int) - 1) = (VP.wid n : Int) - 1 by unfold wrap64; omega, Int.toNat_natCast, h0, h1]

theorem RefNumber_any (n : Nat) (hn : n < 18446744073709551616) (w : World) :
    Calls Try.prog 67 #[.int .u64 n] w fun e w' => ∃ v, e = .returned v ∧ w'.ownsRow w.heap.size 5 1 v (encI n).length (nums .u8 (encI n)) ∧ Below w.heap.size w w' := by
  refine (backstayref01_Number.calls 19 n (encI n) w (number_f n hn)).mono ?_
  rintro e w' ⟨v, rfl, hR, hB⟩
  exact ⟨v, rfl, Kd.own_of_R hR, hB⟩

theorem Twin_any (A : Option Addr) (c : Nat) (bs : List Int) (w : World) (hC : (Kd.int .u8).C w A bs.length bs) (hc : bs.length ≤ c) (hl : bs.length < 140737488355328) :
    Calls Try.prog 10 #[.slice A bs.length c] w fun e w' => ∃ v, e = .returned v ∧ w'.ownsRow w.heap.size 5 1 v bs.length (nums .u8 bs) ∧ Below w.heap.size w w' := by
  refine (PRef.backstayref01_Twin.calls A c bs bs w hC hc (by simp [PRef.backstayref01_Twin.f]; omega)).mono ?_
  rintro e w' ⟨v, rfl, hR, hB⟩
  exact ⟨v, rfl, Kd.own_of_R hR, hB⟩

end Go.Proofs.Ytacmajlbaenjfaa

/- What VaryWrites holds: the Tape, the bytes that are wanted, a row of its own; each in memory of its own. -/
namespace Go.Proofs.Ytacmajlbaenjfaa
open Go.RowKit Go.Shelf Go.Proofs.YtacmajlbaenjfaaW.PrintWords Go.Proofs.YtacmajlbaenjfaaW.PrintLast Go.Proofs.YtacmajlbaenjfaaW.PrintMore

theorem own_fr {S : Nat → Prop} {w W : World} {base n : Nat} {e : TypeId} {size : Nat} {v : Value} {xs : List Value} (h : w.ownsRow base e size v n xs) (hF : Fr S w W) (hn : ∀ b, v.ownBlock = some b → ¬ S b) : W.ownsRow base e size v n xs := by
  refine ⟨h.1, ?_⟩
  rcases h.2 with hn' | ⟨g, cap, cur, rfl, hb, hgg, rest⟩
  · exact .inl hn'
  · refine .inr ⟨g, cap, cur, rfl, hb, ?_, rest⟩
    rw [hF.block g (Array.getElem?_eq_some_iff.1 hgg).1 (hn g rfl)]
    exact hgg

theorem TapeIs.fr {S : Nat → Prop} {w W : World} {g base : Nat} {v : Value} {xs : List Int} (h : TapeIs w g base v xs) (hF : Fr S w W) (hg : ¬ S g) (hn : ∀ b, v.ownBlock = some b → ¬ S b) : TapeIs W g base v xs :=
  ⟨(hF.block g (blk_lt h.blk) hg).trans h.blk, own_fr h.own hF hn⟩

/-- The Tape at block g and the wanted bytes vw, both of bytes xs. -/
structure WAt (W : World) (g base : Nat) (vt vw : Value) (xs : List Int) : Prop where
  tape : TapeIs W g base vt xs
  want : W.ownsRow base 5 1 vw xs.length (nums .u8 xs)
  apart : ∀ b, vt.ownBlock = some b → vw.ownBlock ≠ some b

theorem WAt.fr {S : Nat → Prop} {w W : World} {g base : Nat} {vt vw : Value} {xs : List Int} (h : WAt w g base vt vw xs) (hF : Fr S w W) (hg : ¬ S g) (ht : ∀ b, vt.ownBlock = some b → ¬ S b) (hw : ∀ b, vw.ownBlock = some b → ¬ S b) : WAt W g base vt vw xs :=
  ⟨h.tape.fr hF hg ht, own_fr h.want hF hw, h.apart⟩

theorem WAt.below {w W : World} {g base : Nat} {vt vw : Value} {xs : List Int} (h : WAt w g base vt vw xs) (hB : Below w.heap.size w W) : WAt W g base vt vw xs := by
  have hl := blk_lt h.tape.blk
  refine h.fr (S := fun i => w.heap.size ≤ i) ⟨hB.os, hB.tape, hB.output, hB.size, fun i hi _ => hB.block i hi⟩ (by omega) (fun b hb => ?_) (fun b hb => ?_)
  · have := (World.ownsRow.lt h.tape.own b hb).2; omega
  · have := (World.ownsRow.lt h.want b hb).2; omega

theorem WAt.tape2 {W W2 : World} {g base : Nat} {vt vw : Value} {xs : List Int} (h : WAt W g base vt vw xs) (hgrow : W.grownBy W2 vw.ownBlock) : TapeIs W2 g base vt xs :=
  h.tape.fr (Fr.grown (S := fun i => vw.ownBlock = some i) hgrow (fun _ _ e => e)) (fun e => own_ne h.want h.tape.blk (by decide) e.symm) (fun b hb e => h.apart b hb e)

/-- A row of its own, apart from both. -/
structure Own (W : World) (g lo : Nat) (vt vw v6 : Value) (bs : List Int) : Prop where
  row : W.ownsRow lo 5 1 v6 bs.length (nums .u8 bs)
  far : ∀ b, v6.ownBlock = some b → b ≠ g ∧ vt.ownBlock ≠ some b ∧ vw.ownBlock ≠ some b

theorem Own.made {w W : World} {g base : Nat} {vt vw v6 : Value} {xs bs : List Int} (h : WAt w g base vt vw xs) (hr : W.ownsRow w.heap.size 5 1 v6 bs.length (nums .u8 bs)) : Own W g w.heap.size vt vw v6 bs := by
  refine ⟨hr, fun b hb => ?_⟩
  have h1 := (World.ownsRow.lt hr b hb).1
  have hl := blk_lt h.tape.blk
  refine ⟨by omega, fun h2 => ?_, fun h2 => ?_⟩
  · have := (World.ownsRow.lt h.tape.own b h2).2; omega
  · have := (World.ownsRow.lt h.want b h2).2; omega

theorem Own.below {w W : World} {g lo : Nat} {vt vw v6 : Value} {bs : List Int} (h : Own w g lo vt vw v6 bs) (hB : Below w.heap.size w W) : Own W g lo vt vw v6 bs :=
  ⟨pw_own_below h.row hB, h.far⟩

theorem Own.at_ {W : World} {g lo n c : Nat} {vt vw : Value} {A : Option Addr} {zs : List Int} (h : Own W g lo vt vw (.slice A n c) zs) (j : Nat) (hj : j < zs.length) :
    ∃ g6, A = some ⟨g6, 0, none⟩ ∧ n = zs.length ∧ lo ≤ g6 ∧ g6 < W.heap.size ∧ W.cell? ⟨g6, j, none⟩ = some (.int .u8 (zs.getD j 0)) ∧ W.frozen? ⟨g6, j, none⟩ = false := by
  rcases h.row.2 with ⟨_, h0⟩ | ⟨g6, cap, cur, e, hb, _⟩
  · omega
  · have hn := (row_C h.row).1
    cases e
    have hlt := World.ownsRow.lt h.row g6 rfl
    refine ⟨g6, rfl, rfl, hb, hlt.2, ?_, World.ownsRow.frozenAt h.row j⟩
    rw [World.ownsRow.cellAt h.row j (by omega)]
    simp [nums, List.getD_eq_getElem?_getD, List.getElem?_eq_getElem hj]

theorem Own.put {W : World} {g base lo g6 c : Nat} {vt vw : Value} {xs zs : List Int} (h : Own W g lo vt vw (.slice (some ⟨g6, 0, none⟩) zs.length c) zs) (hW : WAt W g base vt vw xs) (j : Nat) (x : Int) :
    Own (W.setCell ⟨g6, j, none⟩ (.int .u8 x)) g lo vt vw (.slice (some ⟨g6, 0, none⟩) zs.length c) (zs.set j x) ∧ WAt (W.setCell ⟨g6, j, none⟩ (.int .u8 x)) g base vt vw xs := by
  refine ⟨⟨?_, h.far⟩, ?_⟩
  · have h2 := own_put h.row j x
    rw [Int.toNat_natCast] at h2
    exact h2
  · refine hW.fr (S := fun i => i = g6) ((Fr.refl _ _).set _ _ (fun _ => rfl)) (fun e => (h.far g6 rfl).1 e.symm) (fun b hb e => ?_) (fun b hb e => ?_)
    · subst e; exact (h.far b rfl).2.1 hb
    · subst e; exact (h.far b rfl).2.2 hb

/-- The wanted bytes have grown, and then the Tape. -/
theorem WAt.wrote {W W2 W3 : World} {g base : Nat} {vt vw vw2 vt2 : Value} {xs ys : List Int} (h : WAt W g base vt vw xs) (hat : vw2.ownBlock = vw.ownBlock ∨ ∃ b, vw2.ownBlock = some b ∧ W.heap.size ≤ b)
    (ho2 : W2.ownsRow base 5 1 vw2 ys.length (nums .u8 ys)) (hT2 : TapeIs W3 g base vt2 ys) (hv2 : vt2.ownBlock = vt.ownBlock ∨ ∃ b, vt2.ownBlock = some b ∧ W2.heap.size ≤ b) (hF : Fr (fun i => i = g ∨ vt.ownBlock = some i) W2 W3) : WAt W3 g base vt2 vw2 ys := by
  have hl := blk_lt h.tape.blk
  have hgw : vw.ownBlock ≠ some g := fun e => own_ne h.want h.tape.blk (by decide) e.symm
  have hg2 : vw2.ownBlock ≠ some g := by
    rcases hat with e | ⟨b, e, hb⟩
    · rw [e]; exact hgw
    · rw [e]; intro e2; cases e2; omega
  have ha2 : ∀ b, vt.ownBlock = some b → vw2.ownBlock ≠ some b := by
    intro b hb
    rcases hat with e | ⟨c, e, hc⟩
    · rw [e]; exact h.apart b hb
    · rw [e]; intro e2; cases e2
      have := (World.ownsRow.lt h.tape.own _ hb).2; omega
  refine ⟨hT2, own_fr ho2 hF (fun b hb hS => ?_), fun b hb e => ?_⟩
  · rcases hS with rfl | hS
    · exact hg2 hb
    · exact ha2 b hS hb
  · rcases hv2 with e2 | ⟨c, e2, hc⟩
    · exact ha2 b (e2 ▸ hb) e
    · rw [e2] at hb; cases hb
      have := (World.ownsRow.lt ho2 _ e).2; omega

theorem Own.wrote {W W2 W3 : World} {g lo : Nat} {vt vw v6 vw2 vt2 : Value} {bs : List Int} (h : Own W g lo vt vw v6 bs) (hg : g < W.heap.size) (hgrow : W.grownBy W2 vw.ownBlock) (hat : vw2.ownBlock = vw.ownBlock ∨ ∃ b, vw2.ownBlock = some b ∧ W.heap.size ≤ b)
    (hv2 : vt2.ownBlock = vt.ownBlock ∨ ∃ b, vt2.ownBlock = some b ∧ W2.heap.size ≤ b) (hF : Fr (fun i => i = g ∨ vt.ownBlock = some i) W2 W3) : Own W3 g lo vt2 vw2 v6 bs := by
  have hlt : ∀ b, v6.ownBlock = some b → b < W.heap.size := fun b hb => (World.ownsRow.lt h.row b hb).2
  refine ⟨own_fr (own_fr h.row (Fr.grown (S := fun i => vw.ownBlock = some i) hgrow (fun i _ e => e)) (fun b hb => (h.far b hb).2.2)) hF (fun b hb hS => ?_), fun b hb => ⟨(h.far b hb).1, fun e => ?_, fun e => ?_⟩⟩
  · rcases hS with rfl | hS
    · exact (h.far b hb).1 rfl
    · exact (h.far b hb).2.1 hS
  · have := hgrow.size
    have := hlt b hb
    rcases hv2 with e2 | ⟨c, e2, hc⟩
    · exact (h.far b hb).2.1 (e2 ▸ e)
    · rw [e2] at e; cases e; omega
  · have := hlt b hb
    rcases hat with e2 | ⟨c, e2, hc⟩
    · exact (h.far b hb).2.2 (e2 ▸ e)
    · rw [e2] at e; cases e; omega
end Go.Proofs.Ytacmajlbaenjfaa

/- Contracts of the Reel: Raw, Bytes. -/
namespace Go.Proofs.Ytacmajlbaenjfaa
open Go.RowKit Go.Shelf Go.Proofs.YtacmajlbaenjfaaW.PrintWords Go.Proofs.YtacmajlbaenjfaaW.PrintLast Go.Proofs.YtacmajlbaenjfaaW.PrintMore

/-- What Raw answers: the bytes, the code, how far the place goes. -/
def readR (bs : List Int) (p : Nat) (n : Int) : List Int × Nat × Nat :=
  if n < 0 then ([], 2, 0) else if (bs.length : Int) - p < n then ([], 10, 0) else ((bs.take (p + n.toNat)).drop p, 0, n.toNat)

set_option maxRecDepth 100000 in
set_option maxHeartbeats 2000000 in
theorem Raw_any (w : World) (g base : Nat) (v : Value) (bs : List Int) (p : Nat) (n : Int) (hR : ReelIs w g base v bs p) (h0 : -9223372036854775808 ≤ n) (h1 : n ≤ 9223372036854775807) :
    Calls Try.prog 69 #[.pointer (some ⟨g, 0, none⟩), .int .i64 n] w fun e w' => ∃ u, e = .returned (.tuple #[u, .int .i64 (readR bs p n).2.1]) ∧
      w'.ownsRow w.heap.size 5 1 u (readR bs p n).1.length (nums .u8 (readR bs p n).1) ∧ ReelIs w' g base v bs (p + (readR bs p n).2.2) ∧ Fr (fun i => i = g) w w' := by
  have hc0 : w.cell? ⟨g, 0, none⟩ = some v := blk_cell hR.blk 0
  have hc1 : w.cell? ⟨g, 1, none⟩ = some (.int .i64 p) := blk_cell hR.blk 1
  have hs := hR.small
  have hp := hR.le
  obtain ⟨A, c, rfl⟩ := own_slice hR.own
  have hcap := (row_C hR.own).2.1
  by_cases hn : n < 0
  · have e : readR bs p n = ([], 2, 0) := by unfold readR; rw [if_pos hn]
    rw [e]
    have HR := Lib.hid hR
    clear hR e
    go_enter Try.func69, Try.ntmps69
    go_wp2
    go_ret2
    exact ⟨_, rfl, World.ownsRow_nil _ _ _ _, HR.out, Fr.refl _ _⟩
  · obtain ⟨k, rfl⟩ := Int.eq_ofNat_of_zero_le (show 0 ≤ n by omega)
    by_cases hlt : (bs.length : Int) - p < (k : Int)
    · have e : readR bs p k = ([], 10, 0) := by unfold readR; rw [if_neg hn, if_pos hlt]
      rw [e]
      have h' : decide ((bs.length : Int) - p < (k : Int)) = true := decide_eq_true hlt
      have HR := Lib.hid hR
      clear hR e
      go_enter Try.func69, Try.ntmps69
      go_wp2
      go_quiet (fail)
      go_wp2
      go_ret2
      exact ⟨_, rfl, World.ownsRow_nil _ _ _ _, HR.out.below (pw_below_drewN (Below.refl _ _) _), Fr.of_below (pw_below_drewN (Below.refl _ _) _)⟩
    · have e : readR bs p k = ((bs.take (p + k)).drop p, 0, k) := by unfold readR; rw [if_neg hn, if_neg hlt, Int.toNat_natCast]
      rw [e]
      have h' : decide ((bs.length : Int) - p < (k : Int)) = false := decide_eq_false hlt
      obtain ⟨q, hq⟩ : ∃ q, q = p + k := ⟨_, rfl⟩
      simp only [← hq]
      have hqs : IntKind.i64.wrap ((p : Int) + (k : Int)) = (q : Int) := by rw [IntKind.wrap_i64]; omega
      obtain ⟨A', hcut, hcc⟩ := cut_read A c p q bs (by omega) (by omega) hcap
      have HR := Lib.hid hR
      have HCC := Lib.hid hcc
      have HQ := Lib.hid hq
      clear hR e hcc hq
      go_enter Try.func69, Try.ntmps69
      go_wp2
      go_quiet (fail)
      go_wp2
      have HR1 := Lib.hid (HR.out.below (pw_below_drewN (Below.refl _ _) nq))
      have HF1 := Lib.hid (pw_below_drewN (Below.refl w.heap.size w) nq)
      have hsz : (w.drewN nq).heap.size = w.heap.size := by simp
      generalize w.drewN nq = w1 at *
      clear hc0 hc1
      have HSZ := Lib.hid hsz
      clear hsz
      have hc0 : w1.cell? ⟨g, 0, none⟩ = some (.slice A bs.length c) := blk_cell HR1.out.blk 0
      have hc1 : w1.cell? ⟨g, 1, none⟩ = some (.int .i64 p) := blk_cell HR1.out.blk 1
      have hCd := HCC.out w1.drew (Kd.C_below (row_C HR1.out.own).2.2 (below_drew (Below.refl _ _)))
      have hln : ((bs.take q).drop p).length = q - p := by have := HQ.out; rw [List.length_drop, List.length_take]; omega
      have hcl := Clone_any A' (c - p) ((bs.take q).drop p) w1.drew (hln ▸ hCd) (by rw [hln]; have := HQ.out; omega)
      rw [hln] at hcl
      have HCL := Lib.hid hcl
      have HLN := Lib.hid hln
      clear hcl hln hCd
      -- region 7: 17 operations: 0:move 1:nilCheck 2:fieldAddr 3:load 4:move 5:nilCheck 6:fieldAddr 7:load 8:move 9:nilCheck 10:fieldAddr 11:load 12:move 13:binOp 14:slice 15:call 16:assign
      refine start_ (S := fun W' => W'.cell? ⟨g, 0, none⟩ = some (.slice A bs.length c) ∧ W'.cell? ⟨g, 1, none⟩ = some (.int .i64 p)) (ds := []) #[false, false, false, false, false, false, false, false, false, false, false, false, false, false, false, false, false] (by kernel_rfl) rfl rfl ⟨by go_simp, by go_simp⟩ (fun hHeld => ?_)
      refine pure_ (i := 0) (N := some 26) (v := ?_) (a' := ?_) #[true, false, false, false, false, false, false, false, false, false, false, false, false, false, false, false, false] rfl rfl (by kernel_rfl) (fun _ _ _ h => h) (Or.inl ⟨by rfl, ?_⟩) ?_ ?_
      rotate_left
      · intro w'
        go_simp
        with_reducible rfl
      rotate_left
      · simp only [Act.put, List.setIfInBounds_toArray, List.set_cons_zero, List.set_cons_succ]
        rfl
      refine pure_ (i := 1) (N := some 27) (v := ?_) (a' := ?_) #[true, true, false, false, false, false, false, false, false, false, false, false, false, false, false, false, false] rfl rfl (by kernel_rfl) (fun _ _ _ h => h) (Or.inl ⟨by rfl, ?_⟩) ?_ ?_
      rotate_left
      · intro w'
        go_simp
        with_reducible rfl
      rotate_left
      · simp only [Act.put, List.setIfInBounds_toArray, List.set_cons_zero, List.set_cons_succ]
        rfl
      refine pure_ (i := 2) (N := some 28) (v := ?_) (a' := ?_) #[true, true, true, false, false, false, false, false, false, false, false, false, false, false, false, false, false] rfl rfl (by kernel_rfl) (fun _ _ _ h => h) (Or.inl ⟨by rfl, ?_⟩) ?_ ?_
      rotate_left
      · intro w'
        go_simp
        with_reducible rfl
      rotate_left
      · simp only [Act.put, List.setIfInBounds_toArray, List.set_cons_zero, List.set_cons_succ]
        rfl
      refine pure_ (i := 4) (N := some 30) (v := ?_) (a' := ?_) #[true, true, true, false, true, false, false, false, false, false, false, false, false, false, false, false, false] rfl rfl (by kernel_rfl) (fun _ _ _ h => h) (Or.inl ⟨by rfl, ?_⟩) ?_ ?_
      rotate_left
      · intro w'
        go_simp
        with_reducible rfl
      rotate_left
      · simp only [Act.put, List.setIfInBounds_toArray, List.set_cons_zero, List.set_cons_succ]
        rfl
      refine pure_ (i := 5) (N := some 31) (v := ?_) (a' := ?_) #[true, true, true, false, true, true, false, false, false, false, false, false, false, false, false, false, false] rfl rfl (by kernel_rfl) (fun _ _ _ h => h) (Or.inl ⟨by rfl, ?_⟩) ?_ ?_
      rotate_left
      · intro w'
        go_simp
        with_reducible rfl
      rotate_left
      · simp only [Act.put, List.setIfInBounds_toArray, List.set_cons_zero, List.set_cons_succ]
        rfl
      refine pure_ (i := 6) (N := some 32) (v := ?_) (a' := ?_) #[true, true, true, false, true, true, true, false, false, false, false, false, false, false, false, false, false] rfl rfl (by kernel_rfl) (fun _ _ _ h => h) (Or.inl ⟨by rfl, ?_⟩) ?_ ?_
      rotate_left
      · intro w'
        go_simp
        with_reducible rfl
      rotate_left
      · simp only [Act.put, List.setIfInBounds_toArray, List.set_cons_zero, List.set_cons_succ]
        rfl
      refine pure_ (i := 8) (N := some 34) (v := ?_) (a' := ?_) #[true, true, true, false, true, true, true, false, true, false, false, false, false, false, false, false, false] rfl rfl (by kernel_rfl) (fun _ _ _ h => h) (Or.inl ⟨by rfl, ?_⟩) ?_ ?_
      rotate_left
      · intro w'
        go_simp
        with_reducible rfl
      rotate_left
      · simp only [Act.put, List.setIfInBounds_toArray, List.set_cons_zero, List.set_cons_succ]
        rfl
      refine pure_ (i := 9) (N := some 35) (v := ?_) (a' := ?_) #[true, true, true, false, true, true, true, false, true, true, false, false, false, false, false, false, false] rfl rfl (by kernel_rfl) (fun _ _ _ h => h) (Or.inl ⟨by rfl, ?_⟩) ?_ ?_
      rotate_left
      · intro w'
        go_simp
        with_reducible rfl
      rotate_left
      · simp only [Act.put, List.setIfInBounds_toArray, List.set_cons_zero, List.set_cons_succ]
        rfl
      refine pure_ (i := 10) (N := some 36) (v := ?_) (a' := ?_) #[true, true, true, false, true, true, true, false, true, true, true, false, false, false, false, false, false] rfl rfl (by kernel_rfl) (fun _ _ _ h => h) (Or.inl ⟨by rfl, ?_⟩) ?_ ?_
      rotate_left
      · intro w'
        go_simp
        with_reducible rfl
      rotate_left
      · simp only [Act.put, List.setIfInBounds_toArray, List.set_cons_zero, List.set_cons_succ]
        rfl
      refine pure_ (i := 12) (N := some 38) (v := ?_) (a' := ?_) #[true, true, true, false, true, true, true, false, true, true, true, false, true, false, false, false, false] rfl rfl (by kernel_rfl) (fun _ _ _ h => h) (Or.inl ⟨by rfl, ?_⟩) ?_ ?_
      rotate_left
      · intro w'
        go_simp
        with_reducible rfl
      rotate_left
      · simp only [Act.put, List.setIfInBounds_toArray, List.set_cons_zero, List.set_cons_succ]
        rfl
      refine take_ (i := 3) (N := some 29) (v := ?_) (a' := ?_) #[true, true, true, true, true, true, true, false, true, true, true, false, true, false, false, false, false] rfl rfl (by kernel_rfl) (fun _ _ _ h => h) (Or.inl ⟨by rfl, ?_⟩) hHeld ?_ ?_
      rotate_left
      · rintro w' ⟨h1, h2⟩
        go_simp
        with_reducible rfl
      rotate_left
      · simp only [Act.put, List.setIfInBounds_toArray, List.set_cons_zero, List.set_cons_succ]
        rfl
      refine take_ (i := 7) (N := some 33) (v := ?_) (a' := ?_) #[true, true, true, true, true, true, true, true, true, true, true, false, true, false, false, false, false] rfl rfl (by kernel_rfl) (fun _ _ _ h => h) (Or.inl ⟨by rfl, ?_⟩) hHeld ?_ ?_
      rotate_left
      · rintro w' ⟨h1, h2⟩
        go_simp
        with_reducible rfl
      rotate_left
      · simp only [Act.put, List.setIfInBounds_toArray, List.set_cons_zero, List.set_cons_succ]
        rfl
      refine take_ (i := 11) (N := some 37) (v := ?_) (a' := ?_) #[true, true, true, true, true, true, true, true, true, true, true, true, true, false, false, false, false] rfl rfl (by kernel_rfl) (fun _ _ _ h => h) (Or.inl ⟨by rfl, ?_⟩) hHeld ?_ ?_
      rotate_left
      · rintro w' ⟨h1, h2⟩
        go_simp
        with_reducible rfl
      rotate_left
      · simp only [Act.put, List.setIfInBounds_toArray, List.set_cons_zero, List.set_cons_succ]
        rfl
      refine pure_ (i := 13) (N := some 39) (v := ?_) (a' := ?_) #[true, true, true, true, true, true, true, true, true, true, true, true, true, true, false, false, false] rfl rfl (by kernel_rfl) (fun _ _ _ h => h) (Or.inl ⟨by rfl, ?_⟩) ?_ ?_
      rotate_left
      · intro w'
        go_simp
        with_reducible rfl
      rotate_left
      · simp only [Act.put, List.setIfInBounds_toArray, List.set_cons_zero, List.set_cons_succ]
        rfl
      refine pure_ (i := 14) (N := some 40) (v := ?_) (a' := ?_) #[true, true, true, true, true, true, true, true, true, true, true, true, true, true, true, false, false] rfl rfl (by kernel_rfl) (fun _ _ _ h => h) (Or.inl ⟨by rfl, ?_⟩) ?_ ?_
      rotate_left
      · intro w'
        go_simp
        with_reducible rfl
      rotate_left
      · simp only [Act.put, List.setIfInBounds_toArray, List.set_cons_zero, List.set_cons_succ]
        rfl
      refine one_ (i := 15) (N := some 41) #[true, true, true, true, true, true, true, true, true, true, true, true, true, true, true, true, false] rfl rfl (by kernel_rfl) (by decide) (fun K hK => ?_)
      refine goes_ Try.func45 (by kernel_rfl) rfl #[.slice A' (q - p) (c - p)] (by rfl) rfl rfl (by simp only [List.map_toArray, List.map_cons, List.map_nil]; rfl) ?_
      refine HCL.out.mono ?_
      rintro e w3 ⟨u, rfl, ho3, hb3⟩
      refine ⟨_, rfl, ?_⟩
      have HO3 := Lib.hid ho3
      have HB3 := Lib.hid hb3
      have z0 := pw_cell_below hb3 (by go_simp : w1.drew.cell? ⟨g, 0, none⟩ = some (.slice A bs.length c))
      have z1 := pw_cell_below hb3 (by go_simp : w1.drew.cell? ⟨g, 1, none⟩ = some (.int .i64 p))
      clear ho3 hb3
      refine hK.out _ _ ⟨z0, z1⟩ (fun hHeld => ?_)
      clear hK K
      refine norm_ (a' := ?_) ?_ ?_
      rotate_left
      · show Act.put _ (some 41) _ = _
        simp only [Act.put, List.setIfInBounds_toArray, List.set_cons_zero, List.set_cons_succ]
        rfl
      refine pure_ (i := 16) (N := some 6) (v := ?_) (a' := ?_) #[true, true, true, true, true, true, true, true, true, true, true, true, true, true, true, true, true] rfl rfl (by kernel_rfl) (fun _ _ _ h => h) (Or.inl ⟨by rfl, ?_⟩) ?_ ?_
      rotate_left
      · intro w'
        go_simp
        with_reducible rfl
      rotate_left
      · simp only [Act.put, List.setIfInBounds_toArray, List.set_cons_zero, List.set_cons_succ]
        rfl
      refine done_ (by kernel_rfl) ?_

      have hR3 := (HR1.out.below (below_drew (Below.refl _ _))).below HB3.out
      have hF3 : Fr (fun i => i = g) w w3 := Fr.of_below (HF1.out.trans (HSZ.out ▸ ((below_drew (Below.refl _ w1)).trans HB3.out)))
      have HF3 := Lib.hid hF3
      have HR3 := Lib.hid hR3
      have hgl : g < w.heap.size := blk_lt HR.out.blk
      have HGL := Lib.hid hgl
      clear hR3 hF3 z0 z1 hHeld hcut hgl
      go_wp2_with (go_at_call 90; (with_reducible refine (move_any _ g base _ bs p k HR3.out (by omega)).mono ?_); rintro e w4 ⟨rfl, hR4, hF4⟩)
      go_ret2
      rw [← HQ.out] at hR4
      have ho := HO3.out
      rw [show w1.drew.heap.size = w.heap.size from HSZ.out] at ho
      refine ⟨u, rfl, ?_, hR4, HF3.out.trans hF4 (fun _ _ h => h)⟩
      rw [HLN.out]
      refine own_fr ho hF4 (fun b hb e => ?_)
      have := (World.ownsRow.lt ho b hb).1
      have := HGL.out
      omega

/-- What Bytes answers: the bytes, the code, how far the place goes. -/
def readB (bs : List Int) (p : Nat) (most : Int) : List Int × Nat × Nat :=
  if (look (rest bs p)).2.2 = 0 then
    (if most.toNat < (look (rest bs p)).1 then ([], 12, 0)
    else if bs.length - p - (look (rest bs p)).2.1 < (look (rest bs p)).1 then ([], 10, 0)
    else ((bs.take (p + (look (rest bs p)).2.1 + (look (rest bs p)).1)).drop (p + (look (rest bs p)).2.1), 0, (look (rest bs p)).2.1 + (look (rest bs p)).1))
  else ([], (look (rest bs p)).2.2, 0)

attribute [local go_sem] max2_int min2_int max_two min_two max_three min_three max_four min_four
end Go.Proofs.Ytacmajlbaenjfaa

/- Contracts of the document's Reel: look. -/
namespace Go.Proofs.Ytacmajlbaenjfaa
open Go.RowKit Go.Shelf Go.Proofs.YtacmajlbaenjfaaW.PrintWords Go.Proofs.YtacmajlbaenjfaaW.PrintLast Go.Proofs.YtacmajlbaenjfaaW.PrintMore

/-- The document's Reel at block g: its bytes bs, in the slice v, and its place. -/
structure RefIs (W : World) (g base : Nat) (v : Value) (bs : List Int) (at_ : Nat) : Prop where
  blk : W.heap[g]? = some (.cells #[v, .int .i64 at_] 37 (0, 0))
  own : W.ownsRow base 5 1 v bs.length (nums .u8 bs)
  le : at_ ≤ bs.length
  small : bs.length ≤ 140737488355328
  bytes : ∀ b ∈ bs, 0 ≤ b ∧ b ≤ 255

theorem RefIs.below {w w' : World} {g base p : Nat} {v : Value} {bs : List Int} (h : RefIs w g base v bs p) (hb : Below w.heap.size w w') : RefIs w' g base v bs p :=
  ⟨(hb.block g (blk_lt h.blk)).trans h.blk, pw_own_below h.own hb, h.le, h.small, h.bytes⟩
theorem RefIs.ne {W : World} {g base p : Nat} {v : Value} {bs : List Int} (h : RefIs W g base v bs p) : v.ownBlock ≠ some g := fun e => own_ne h.own h.blk (by decide) e.symm
theorem RefIs.move {w : World} {g base p q : Nat} {v : Value} {bs : List Int} (h : RefIs w g base v bs p) (hq : q ≤ bs.length) : RefIs (w.setCell ⟨g, 1, none⟩ (.int .i64 q)) g base v bs q :=
  ⟨by have := blk_set h.blk 1 (.int .i64 q); simpa using this, own_setCell h.own (Ne.symm h.ne) _, hq, h.small, h.bytes⟩
theorem RefIs.cells {W : World} {g base p : Nat} {v : Value} {bs : List Int} (h : RefIs W g base v bs p) : W.cell? ⟨g, 0, none⟩ = some v ∧ W.cell? ⟨g, 1, none⟩ = some (.int .i64 p) := ⟨blk_cell h.blk 0, blk_cell h.blk 1⟩

/-- The place is at the end. -/
theorem look_end (w : World) (g base : Nat) (v : Value) (bs : List Int) (hR : RefIs w g base v bs bs.length) :
    Calls Try.prog 92 #[.pointer (some ⟨g, 0, none⟩)] w fun e w' => e = .returned (.tuple #[.int .u64 0, .int .i64 0, .int .i64 10]) ∧ Below w.heap.size w w' := by
  obtain ⟨hc0, hc1⟩ := hR.cells
  obtain ⟨A, c, rfl⟩ := own_slice hR.own
  have h' : decide ((bs.length : Int) ≤ (bs.length : Int)) = true := decide_eq_true (Int.le_refl _)
  go_enter Try.func92, Try.ntmps92
  go_wp2
  go_quiet (fail)
  go_wp2
  go_ret3
  exact ⟨rfl, pw_below_drewN (Below.refl _ _) _⟩

/-- The bit of a round. -/
def bitOf (j : Nat) : Nat := if j = 8 then 0 else 2 ^ (7 - j)
theorem bit_on : ∀ y : Fin 256, ∀ j : Fin 9, j.val + 1 < VP.lead y.val → j.val < 8 ∧ 0 < bitOf j.val ∧ bitOf j.val ≤ y.val - VP.mark (j.val + 1) ∧ y.val - VP.mark (j.val + 1) - bitOf j.val = y.val - VP.mark (j.val + 1 + 1) ∧ bitOf j.val / 2 = bitOf (j.val + 1) := by decide +kernel
theorem bit_off : ∀ y : Fin 256, bitOf (VP.lead y.val - 1) = 0 ∨ (0 < bitOf (VP.lead y.val - 1) ∧ y.val - VP.mark (VP.lead y.val) < bitOf (VP.lead y.val - 1)) := by decide +kernel

theorem m_small : ∀ y : Fin 256, (VP.lead y.val - 1 < 8 → y.val - VP.mark (VP.lead y.val) < 2 ^ (7 - (VP.lead y.val - 1))) ∧ (VP.lead y.val - 1 = 8 → y.val - VP.mark (VP.lead y.val) = 0) := by decide +kernel

set_option maxRecDepth 100000 in
set_option maxHeartbeats 2000000 in
theorem look_some (w : World) (g base : Nat) (v : Value) (bs : List Int) (p : Nat) (hR : RefIs w g base v bs p) (hlt : p < bs.length) :
    Calls Try.prog 92 #[.pointer (some ⟨g, 0, none⟩)] w fun e w' => e = .returned (.tuple #[.int .u64 (look (rest bs p)).1, .int .i64 (look (rest bs p)).2.1, .int .i64 (look (rest bs p)).2.2]) ∧ Below w.heap.size w w' := by
  obtain ⟨hc0, hc1⟩ := hR.cells
  have hs := hR.small
  obtain ⟨A, c, rfl⟩ := own_slice hR.own
  have hcap := (row_C hR.own).2.1
  obtain ⟨ab, hA, hcb⟩ := Kd.at_int (row_C hR.own).2.2 (p : Int) (by omega) (by omega)
  have hci : ∀ i : Nat, i < bs.length → w.cell? (ab.add i) = some (.int .u8 (bs.getD i 0)) := by
    intro i hi
    obtain ⟨ad, e, h⟩ := Kd.at_int (row_C hR.own).2.2 (i : Int) (by omega) (by omega)
    rw [hA] at e
    cases e
    simpa [rd] using h
  have hby := hR.bytes (bs.getD p 0) (by rw [List.getD_eq_getElem?_getD, List.getElem?_eq_getElem hlt]; exact List.getElem_mem hlt)
  have hrd : rd bs (p : Int) = bs.getD p 0 := by simp [rd]
  rw [hrd] at hcb
  obtain ⟨y, hy⟩ := Int.eq_ofNat_of_zero_le hby.1
  have hrest : rest bs p = y :: rest bs (p + 1) := by
    rw [rest, List.drop_eq_getElem_cons hlt, List.map_cons]
    congr 1
    have : bs.getD p 0 = bs[p] := by rw [List.getD_eq_getElem?_getD, List.getElem?_eq_getElem hlt]; rfl
    rw [← this, hy]; rfl
  rw [hy] at hcb hby
  have hy256 : y < 256 := by have := hby.2; omega
  simp only [Int.toNat_natCast] at hcb
  clear hrd hby hy
  have hon := fun j (hj : j < 9) => bit_on ⟨y, hy256⟩ ⟨j, hj⟩
  have hoff := bit_off ⟨y, hy256⟩
  have hms := m_small ⟨y, hy256⟩
  have hml := VP.mark_lead y hy256
  simp only at hon hoff hms
  have h' : decide ((bs.length : Int) ≤ (p : Int)) = false := decide_eq_false (by omega)
  have hw1 : IntKind.i64.wrap (y : Int) = (y : Int) := by rw [IntKind.wrap_i64]; omega
  subst hA
  obtain ⟨R, hRR⟩ : ∃ R, R = look (rest bs p) := ⟨_, rfl⟩
  rw [← hRR]
  have HLK := Lib.hid hRR
  rw [hrest, look_cons] at hRR
  have HR := Lib.hid hR
  have HCB := Lib.hid (fun W (h : Below w.heap.size w W) => pw_cell_below h hcb)
  have HON := Lib.hid hon
  have HOFF := Lib.hid hoff
  have HMS := Lib.hid hms
  have HCI := Lib.hid hci
  have HML := Lib.hid hml
  have HREST := Lib.hid hrest
  clear hR hon hoff hml hrest hms hci
  generalize hL : VP.lead y = L at *
  have HLL := Lib.hid hL
  have HRR := Lib.hid hRR
  clear hL hRR
  go_enter Try.func92, Try.ntmps92
  go_wp2
  go_quiet (fail)
  have hB1 := Lib.hid (pw_below_drewN (Below.refl w.heap.size w) nq)
  generalize w.drewN nq = w1 at *
  clear hc0 hc1 hcb
  obtain ⟨hc0, hc1⟩ := (HR.out.below hB1.out).cells
  have hcb1 := HCB.out _ hB1.out
  go_wp2
  go_quiet (fail)
  have hB2 := Lib.hid (pw_below_drewN hB1.out nq)
  clear hc0 hc1 hcb1 hB1
  generalize w1.drewN nq = w2 at *
  clear w1
  go_wp2
  go_loop [5, 6, 7] (fun a b d => ∃ j M T : Nat, j + 1 ≤ L ∧ a = .int .i64 ((j : Int) + 1) ∧ b = .int .i64 M ∧ d = .int .i64 T ∧ Aside0 (M = y - VP.mark (j + 1)) ∧ Aside0 (T = bitOf j)) (fun a _ _ => 9 - (intOf a).toNat)
  case atStart => exact ⟨0, y, 128, (HML.out).2.2.1, rfl, rfl, rfl, Aside0.mk rfl, Aside0.mk (by decide)⟩
  case round =>
    obtain ⟨j, M, T, hj, rfl, rfl, rfl, HM, HT⟩ := hrel
    have hL9 : L ≤ 9 := (HML.out).2.2.2
    have hMl : M ≤ y := by have := HM.out; omega
    by_cases hjl : j + 1 < L
    · obtain ⟨h8, hp, hle, hsub, hhalf⟩ := HON.out j (by omega) hjl
      rw [← HT.out] at hp hle hsub hhalf
      rw [← HM.out] at hle hsub
      have HSUB := Lib.hid hsub
      have HHALF := Lib.hid hhalf
      clear hsub hhalf
      have hp' : (0 : Int) < (T : Int) := by omega
      have hle' : (T : Int) ≤ (M : Int) := by omega
      have hT256 : T ≤ 256 := by omega
      go_wp2
      go_round
      case rel => exact ⟨j + 1, M - T, T / 2, by omega, by go_num, by go_num, by go_num, Aside0.mk HSUB.out, Aside0.mk HHALF.out⟩
      case measure => simp [intOf]; omega
    · obtain rfl : L = j + 1 := by omega
      have hoff := HOFF.out
      rw [Nat.add_sub_cancel, ← HT.out, ← HM.out] at hoff
      have hoff' : T = 0 ∨ ((0 : Int) < (T : Int) ∧ ¬ (T : Int) ≤ (M : Int)) := by omega
      clear hoff
      have hrl : (rest bs (p + 1)).length = bs.length - (p + 1) := by simp [rest]
      have HRL := Lib.hid hrl
      have hM64 : (M : Int) ≤ 255 := by omega
      clear hrl hj hjl hMl
      rcases hoff' with h0 | ⟨h0, h1⟩
      all_goals
        try subst h0
        go_wp2
        obtain ⟨hc0, hc1⟩ := (HR.out.below hB2.out).cells
        obtain ⟨q, hq⟩ : ∃ q, q = p + (j + 1) := ⟨_, rfl⟩
        have hqs : IntKind.i64.wrap ((p : Int) + ((j : Int) + 1)) = (q : Int) := by rw [IntKind.wrap_i64]; omega
        have HQ := Lib.hid hq
        by_cases hsh : bs.length < q
        · have hd : decide ((bs.length : Int) < (q : Int)) = true := decide_eq_true (by omega)
          obtain rfl : R = (0, 0, 10) := by rw [HRR.out, if_pos (by have := HRL.out; omega)]
          clear hq
          go_quiet (fail)
          go_wp2
          go_ret3
          exact ⟨rfl, pw_below_drewN hB2.out _⟩
        · have hd : decide ((bs.length : Int) < (q : Int)) = false := decide_eq_false (by omega)
          have hR2 := HRR.out
          rw [if_neg (by have := HRL.out; omega), Nat.add_sub_cancel, ← HM.out] at hR2
          have HR2 := Lib.hid hR2
          clear hR2 HRR
          clear hq
          go_quiet (fail)
          clear hc0 hc1
          have hB3 := Lib.hid (pw_below_drewN hB2.out nq)
          generalize w2.drewN nq = w3 at *
          have hms := HMS.out
          rw [Nat.add_sub_cancel, ← HM.out] at hms
          have HSS := Lib.hid (fun (m : Nat) (hm : m ≤ j) => fold_small M j m ((rest bs (p + 1)).take m) (fun b h => rest_lt bs HR.out.bytes (p + 1) b (List.mem_of_mem_take h)) (by rw [List.length_take]; have := HRL.out; have := HQ.out; omega) hm (by omega) hms.1 hms.2)
          clear hms
          go_wp2
          go_loopw [8, 9] (fun n i W => ∃ m F : Nat, m ≤ j ∧ i = .int .i64 ((m : Int) + 1) ∧ n = .int .u64 F ∧ Aside0 (F = VP.fold M ((rest bs (p + 1)).take m)) ∧ Aside0 (Below w.heap.size w W)) (fun _ i _ => j + 1 - (intOf i).toNat)
          case atStart => exact ⟨0, M, Nat.zero_le _, rfl, rfl, Aside0.mk rfl, Aside0.mk hB3.out⟩
          case round =>
            obtain ⟨m, F, hm, rfl, rfl, HF, HBm⟩ := hrel
            by_cases hmj : m < j
            · have hq2 : p + (m + 1) < bs.length := by have := HQ.out; omega
              obtain ⟨q2, hq2e⟩ : ∃ q2, q2 = p + (m + 1) := ⟨_, rfl⟩
              rw [← hq2e] at hq2
              have hF56 := (HSS.out m hm).2 hmj
              rw [← HF.out] at hF56
              have hcz := pw_cell_below HBm.out (HCI.out q2 hq2)
              have hbz := HR.out.bytes (bs.getD q2 0) (by rw [List.getD_eq_getElem?_getD, List.getElem?_eq_getElem hq2]; exact List.getElem_mem hq2)
              obtain ⟨z, hz⟩ := Int.eq_ofNat_of_zero_le hbz.1
              have hnx : (rest bs (p + 1)).take (m + 1) = (rest bs (p + 1)).take m ++ [z] := by
                refine (take_next _ _ _ ?_).symm
                simp only [rest, List.getElem?_map, List.getElem?_drop]
                rw [show p + 1 + m = q2 by omega, List.getElem?_eq_getElem hq2]
                rw [List.getD_eq_getElem?_getD, List.getElem?_eq_getElem hq2] at hz
                simp only [Option.getD_some] at hz
                simp [hz]
              have hfx : 256 * F + z = VP.fold M ((rest bs (p + 1)).take (m + 1)) := by rw [hnx, fold_snoc, ← HF.out]
              rw [hz] at hcz hbz
              have HFX := Lib.hid hfx
              obtain ⟨hc0, hc1⟩ := (HR.out.below HBm.out).cells
              have f1 : IntKind.u64.wrap (256 * (F : Int)) = 256 * (F : Int) := by rw [IntKind.wrap_u64]; omega
              have f2 : IntKind.i64.wrap ((p : Int) + ((m : Int) + 1)) = (q2 : Int) := by rw [IntKind.wrap_i64]; omega
              have f3 : IntKind.u64.wrap (z : Int) = (z : Int) := by rw [IntKind.wrap_u64]; omega
              have f4 : IntKind.u64.wrap (256 * (F : Int) + (z : Int)) = ((256 * F + z : Nat) : Int) := by rw [IntKind.wrap_u64]; omega
              have hq2i : (q2 : Int) < (bs.length : Int) := by omega
              clear hz hnx hfx hq2e
              go_wp2
              go_quiet (fail)
              go_wp2
              refine ⟨⟨m + 1, 256 * F + z, by omega, by go_num, by go_num, Aside0.mk HFX.out, Aside0.mk (pw_below_drewN HBm.out nq)⟩, ?_⟩
              show j + 1 - ((m : Int) + 1 + 1).toNat < j + 1 - ((m : Int) + 1).toNat
              omega
            · obtain rfl : j = m := by omega
              go_wp2
              have hF64 := (HSS.out j (Nat.le_refl _)).1
              rw [← HF.out] at hF64
              have HF64 := Lib.hid hF64
              have hpq : p + j + 1 = q := by have := HQ.out; omega
              obtain ⟨A', hcut, hcc⟩ := cut_read (some ab) c p q bs (by omega) (by omega) hcap
              have hqs : IntKind.i64.wrap ((p : Int) + ((j : Int) + 1)) = (q : Int) := by rw [IntKind.wrap_i64]; omega
              have HRm := Lib.hid (HR.out.below (below_drew HBm.out))
              have HB4 := Lib.hid (below_drew HBm.out)
              obtain ⟨e0, e1⟩ := HRm.out.cells
              have hcs := string_read (c := c - p) (hcc _ (row_C HRm.out.own).2.2)
              have hcs5 := fun W (h : Below wr.drew.heap.size wr.drew W) => string_read (c := c - p) (hcc W (Kd.C_below (row_C HRm.out.own).2.2 h))
              clear hF64 hpq hcc
              -- region 17: 20 operations: 0:move 1:call 2:convert 3:move 4:nilCheck 5:fieldAddr 6:load 7:move 8:nilCheck 9:fieldAddr 10:load 11:move 12:nilCheck 13:fieldAddr 14:load 15:move 16:binOp 17:slice 18:convert 19:binOp
              refine start_ (S := fun W' => W'.cell? ⟨g, 0, none⟩ = some (.slice (some ab) bs.length c) ∧ W'.cell? ⟨g, 1, none⟩ = some (.int .i64 p) ∧ (convert 23 9 (.slice A' (q - p) (c - p))).run Try.prog W' = .ok (.string (strOfNums ((bs.take q).drop p))) W') (ds := []) #[false, false, false, false, false, false, false, false, false, false, false, false, false, false, false, false, false, false, false, false] (by kernel_rfl) rfl rfl ⟨e0, e1, hcs⟩ (fun hHeld => ?_)
              refine pure_ (i := 0) (N := some 80) (v := ?_) (a' := ?_) #[true, false, false, false, false, false, false, false, false, false, false, false, false, false, false, false, false, false, false, false] rfl rfl (by kernel_rfl) (fun _ _ _ h => h) (Or.inl ⟨by rfl, ?_⟩) ?_ ?_
              rotate_left
              · intro w'
                go_simp
                with_reducible rfl
              rotate_left
              · simp only [Act.put, List.setIfInBounds_toArray, List.set_cons_zero, List.set_cons_succ]
                rfl
              refine pure_ (i := 3) (N := some 83) (v := ?_) (a' := ?_) #[true, false, false, true, false, false, false, false, false, false, false, false, false, false, false, false, false, false, false, false] rfl rfl (by kernel_rfl) (fun _ _ _ h => h) (Or.inl ⟨by rfl, ?_⟩) ?_ ?_
              rotate_left
              · intro w'
                go_simp
                with_reducible rfl
              rotate_left
              · simp only [Act.put, List.setIfInBounds_toArray, List.set_cons_zero, List.set_cons_succ]
                rfl
              refine pure_ (i := 4) (N := some 84) (v := ?_) (a' := ?_) #[true, false, false, true, true, false, false, false, false, false, false, false, false, false, false, false, false, false, false, false] rfl rfl (by kernel_rfl) (fun _ _ _ h => h) (Or.inl ⟨by rfl, ?_⟩) ?_ ?_
              rotate_left
              · intro w'
                go_simp
                with_reducible rfl
              rotate_left
              · simp only [Act.put, List.setIfInBounds_toArray, List.set_cons_zero, List.set_cons_succ]
                rfl
              refine pure_ (i := 5) (N := some 85) (v := ?_) (a' := ?_) #[true, false, false, true, true, true, false, false, false, false, false, false, false, false, false, false, false, false, false, false] rfl rfl (by kernel_rfl) (fun _ _ _ h => h) (Or.inl ⟨by rfl, ?_⟩) ?_ ?_
              rotate_left
              · intro w'
                go_simp
                with_reducible rfl
              rotate_left
              · simp only [Act.put, List.setIfInBounds_toArray, List.set_cons_zero, List.set_cons_succ]
                rfl
              refine pure_ (i := 7) (N := some 87) (v := ?_) (a' := ?_) #[true, false, false, true, true, true, false, true, false, false, false, false, false, false, false, false, false, false, false, false] rfl rfl (by kernel_rfl) (fun _ _ _ h => h) (Or.inl ⟨by rfl, ?_⟩) ?_ ?_
              rotate_left
              · intro w'
                go_simp
                with_reducible rfl
              rotate_left
              · simp only [Act.put, List.setIfInBounds_toArray, List.set_cons_zero, List.set_cons_succ]
                rfl
              refine pure_ (i := 8) (N := some 88) (v := ?_) (a' := ?_) #[true, false, false, true, true, true, false, true, true, false, false, false, false, false, false, false, false, false, false, false] rfl rfl (by kernel_rfl) (fun _ _ _ h => h) (Or.inl ⟨by rfl, ?_⟩) ?_ ?_
              rotate_left
              · intro w'
                go_simp
                with_reducible rfl
              rotate_left
              · simp only [Act.put, List.setIfInBounds_toArray, List.set_cons_zero, List.set_cons_succ]
                rfl
              refine pure_ (i := 9) (N := some 89) (v := ?_) (a' := ?_) #[true, false, false, true, true, true, false, true, true, true, false, false, false, false, false, false, false, false, false, false] rfl rfl (by kernel_rfl) (fun _ _ _ h => h) (Or.inl ⟨by rfl, ?_⟩) ?_ ?_
              rotate_left
              · intro w'
                go_simp
                with_reducible rfl
              rotate_left
              · simp only [Act.put, List.setIfInBounds_toArray, List.set_cons_zero, List.set_cons_succ]
                rfl
              refine pure_ (i := 11) (N := some 91) (v := ?_) (a' := ?_) #[true, false, false, true, true, true, false, true, true, true, false, true, false, false, false, false, false, false, false, false] rfl rfl (by kernel_rfl) (fun _ _ _ h => h) (Or.inl ⟨by rfl, ?_⟩) ?_ ?_
              rotate_left
              · intro w'
                go_simp
                with_reducible rfl
              rotate_left
              · simp only [Act.put, List.setIfInBounds_toArray, List.set_cons_zero, List.set_cons_succ]
                rfl
              refine pure_ (i := 12) (N := some 92) (v := ?_) (a' := ?_) #[true, false, false, true, true, true, false, true, true, true, false, true, true, false, false, false, false, false, false, false] rfl rfl (by kernel_rfl) (fun _ _ _ h => h) (Or.inl ⟨by rfl, ?_⟩) ?_ ?_
              rotate_left
              · intro w'
                go_simp
                with_reducible rfl
              rotate_left
              · simp only [Act.put, List.setIfInBounds_toArray, List.set_cons_zero, List.set_cons_succ]
                rfl
              refine pure_ (i := 13) (N := some 93) (v := ?_) (a' := ?_) #[true, false, false, true, true, true, false, true, true, true, false, true, true, true, false, false, false, false, false, false] rfl rfl (by kernel_rfl) (fun _ _ _ h => h) (Or.inl ⟨by rfl, ?_⟩) ?_ ?_
              rotate_left
              · intro w'
                go_simp
                with_reducible rfl
              rotate_left
              · simp only [Act.put, List.setIfInBounds_toArray, List.set_cons_zero, List.set_cons_succ]
                rfl
              refine pure_ (i := 15) (N := some 95) (v := ?_) (a' := ?_) #[true, false, false, true, true, true, false, true, true, true, false, true, true, true, false, true, false, false, false, false] rfl rfl (by kernel_rfl) (fun _ _ _ h => h) (Or.inl ⟨by rfl, ?_⟩) ?_ ?_
              rotate_left
              · intro w'
                go_simp
                with_reducible rfl
              rotate_left
              · simp only [Act.put, List.setIfInBounds_toArray, List.set_cons_zero, List.set_cons_succ]
                rfl
              refine take_ (i := 6) (N := some 86) (v := ?_) (a' := ?_) #[true, false, false, true, true, true, true, true, true, true, false, true, true, true, false, true, false, false, false, false] rfl rfl (by kernel_rfl) (fun _ _ _ h => h) (Or.inl ⟨by rfl, ?_⟩) hHeld ?_ ?_
              rotate_left
              · rintro w' ⟨h1, h2, h3⟩
                go_simp
                with_reducible rfl
              rotate_left
              · simp only [Act.put, List.setIfInBounds_toArray, List.set_cons_zero, List.set_cons_succ]
                rfl
              refine take_ (i := 10) (N := some 90) (v := ?_) (a' := ?_) #[true, false, false, true, true, true, true, true, true, true, true, true, true, true, false, true, false, false, false, false] rfl rfl (by kernel_rfl) (fun _ _ _ h => h) (Or.inl ⟨by rfl, ?_⟩) hHeld ?_ ?_
              rotate_left
              · rintro w' ⟨h1, h2, h3⟩
                go_simp
                with_reducible rfl
              rotate_left
              · simp only [Act.put, List.setIfInBounds_toArray, List.set_cons_zero, List.set_cons_succ]
                rfl
              refine take_ (i := 14) (N := some 94) (v := ?_) (a' := ?_) #[true, false, false, true, true, true, true, true, true, true, true, true, true, true, true, true, false, false, false, false] rfl rfl (by kernel_rfl) (fun _ _ _ h => h) (Or.inl ⟨by rfl, ?_⟩) hHeld ?_ ?_
              rotate_left
              · rintro w' ⟨h1, h2, h3⟩
                go_simp
                with_reducible rfl
              rotate_left
              · simp only [Act.put, List.setIfInBounds_toArray, List.set_cons_zero, List.set_cons_succ]
                rfl
              refine pure_ (i := 16) (N := some 96) (v := ?_) (a' := ?_) #[true, false, false, true, true, true, true, true, true, true, true, true, true, true, true, true, true, false, false, false] rfl rfl (by kernel_rfl) (fun _ _ _ h => h) (Or.inl ⟨by rfl, ?_⟩) ?_ ?_
              rotate_left
              · intro w'
                go_simp
                with_reducible rfl
              rotate_left
              · simp only [Act.put, List.setIfInBounds_toArray, List.set_cons_zero, List.set_cons_succ]
                rfl
              refine pure_ (i := 17) (N := some 97) (v := ?_) (a' := ?_) #[true, false, false, true, true, true, true, true, true, true, true, true, true, true, true, true, true, true, false, false] rfl rfl (by kernel_rfl) (fun _ _ _ h => h) (Or.inl ⟨by rfl, ?_⟩) ?_ ?_
              rotate_left
              · intro w'
                go_simp
                with_reducible rfl
              rotate_left
              · simp only [Act.put, List.setIfInBounds_toArray, List.set_cons_zero, List.set_cons_succ]
                rfl
              refine take_ (i := 18) (N := some 98) (v := ?_) (a' := ?_) #[true, false, false, true, true, true, true, true, true, true, true, true, true, true, true, true, true, true, true, false] rfl rfl (by kernel_rfl) (fun _ _ _ h => h) (Or.inl ⟨by rfl, ?_⟩) hHeld ?_ ?_
              rotate_left
              · rintro w' ⟨h1, h2, h3⟩
                go_simp
                with_reducible rfl
              rotate_left
              · simp only [Act.put, List.setIfInBounds_toArray, List.set_cons_zero, List.set_cons_succ]
                rfl
              refine one_ (i := 1) (N := some 81) #[true, true, false, true, true, true, true, true, true, true, true, true, true, true, true, true, true, true, true, false] rfl rfl (by kernel_rfl) (by decide) (fun K hK => ?_)
              refine goes_ Try.func67 (by kernel_rfl) rfl #[.int .u64 F] (by rfl) rfl rfl (by simp only [List.map_toArray, List.map_cons, List.map_nil]; rfl) ?_
              refine (RefNumber_any F HF64.out _).mono ?_
              rintro e w5 ⟨v7, rfl, ho7, hb7⟩
              obtain ⟨A7, c7, rfl⟩ := own_slice ho7
              have hcv7 := string_read (c := c7) (row_C ho7).2.2
              refine ⟨_, rfl, ?_⟩
              have HB5 := Lib.hid (below_then HB4.out (by have := HB4.out.size; omega) hb7)
              have z0 := pw_cell_below hb7 e0
              have z1 := pw_cell_below hb7 e1
              have z2 := hcs5 _ hb7
              clear ho7
              refine hK.out _ _ ⟨z0, z1, z2⟩ (fun hHeld => ?_)
              clear hK K
              refine norm_ (a' := ?_) ?_ ?_
              rotate_left
              · show Act.put _ (some 81) _ = _
                simp only [Act.put, List.setIfInBounds_toArray, List.set_cons_zero, List.set_cons_succ]
                rfl
              refine one_ (i := 2) (N := some 82) #[true, true, true, true, true, true, true, true, true, true, true, true, true, true, true, true, true, true, true, false] rfl rfl (by kernel_rfl) (by decide) (fun K hK => ?_)
              refine value_ (by rfl) rfl (v := .string (strOfNums (encI F))) (w1 := w5) (by go_simp) ?_
              refine hK.out _ _ ⟨z0, z1, z2⟩ (fun hHeld => ?_)
              clear hK K
              refine norm_ (a' := ?_) ?_ ?_
              rotate_left
              · show Act.put _ (some 82) _ = _
                simp only [Act.put, List.setIfInBounds_toArray, List.set_cons_zero, List.set_cons_succ]
                rfl
              refine pure_ (i := 19) (N := some 99) (v := ?_) (a' := ?_) #[true, true, true, true, true, true, true, true, true, true, true, true, true, true, true, true, true, true, true, true] rfl rfl (by kernel_rfl) (fun _ _ _ h => h) (Or.inl ⟨by rfl, ?_⟩) ?_ ?_
              rotate_left
              · intro w'
                go_simp
                with_reducible rfl
              rotate_left
              · simp only [Act.put, List.setIfInBounds_toArray, List.set_cons_zero, List.set_cons_succ]
                rfl
              refine done_ (by kernel_rfl) ?_
              have hR2 := HR2.out
              rw [← HF.out] at hR2
              have hql : ((bs.take q).drop p).length = j + 1 := by have := HQ.out; rw [List.length_drop, List.length_take]; omega
              clear z0 z1 z2 e0 e1 hcs hcs5 hcv7 hcut hHeld hqs
              by_cases hwid : VP.wid F = j + 1
              · rw [if_pos hwid] at hR2
                have hlk := HLK.out
                rw [hR2] at hlk
                have hb := (look_bytes bs p HR.out.bytes (by rw [← hlk])).1
                rw [← hlk, ← HQ.out] at hb
                subst hR2
                have hse : (!((strOfNums (encI F)).toList == (strOfNums ((bs.take q).drop p)).toList)) = false := by rw [hb]; simp
                clear hb hlk
                go_wp2
                all_goals first | (exfalso; rename_i hh; exact absurd (hse.symm.trans hh) Bool.false_ne_true) | (go_ret3; refine ⟨?_, HB5.out⟩; simp; done)
              · rw [if_neg hwid] at hR2
                subst hR2
                have hse0 : ((strOfNums (encI F)).toList == (strOfNums ((bs.take q).drop p)).toList) = false := by
                  rw [beq_eq_false_iff_ne]
                  intro h
                  have h2 := congrArg List.length h
                  rw [Lib.strOfNums_toList, Lib.strOfNums_toList, Lib.bytesOf_length, Lib.bytesOf_length, encI_length, hql] at h2
                  exact hwid h2
                have hse : (!((strOfNums (encI F)).toList == (strOfNums ((bs.take q).drop p)).toList)) = true := by rw [hse0]; rfl
                clear hse0
                go_wp2
                all_goals first | (exfalso; rename_i hh; exact absurd (hh.symm.trans hse) Bool.false_ne_true) | (go_ret3; refine ⟨rfl, HB5.out⟩)

/-- The document's look answers as look does. -/
theorem RefLook_any (w : World) (g base : Nat) (v : Value) (bs : List Int) (p : Nat) (hR : RefIs w g base v bs p) :
    Calls Try.prog 92 #[.pointer (some ⟨g, 0, none⟩)] w fun e w' => e = .returned (.tuple #[.int .u64 (look (rest bs p)).1, .int .i64 (look (rest bs p)).2.1, .int .i64 (look (rest bs p)).2.2]) ∧ Below w.heap.size w w' := by
  by_cases hlt : p < bs.length
  · exact look_some w g base v bs p hR hlt
  · obtain rfl : p = bs.length := by have := hR.le; omega
    have e : look (rest bs bs.length) = (0, 0, 10) := by rw [rest, List.drop_length]; rfl
    rw [e]
    exact look_end w g base v bs hR
end Go.Proofs.Ytacmajlbaenjfaa

/- Contracts of the document's Reel: Number, Signed, Raw, Bytes, End. -/
namespace Go.Proofs.Ytacmajlbaenjfaa
open Go.RowKit Go.Shelf Go.Proofs.YtacmajlbaenjfaaW.PrintWords Go.Proofs.YtacmajlbaenjfaaW.PrintLast Go.Proofs.YtacmajlbaenjfaaW.PrintMore

theorem RefRNumber_any (w : World) (g base : Nat) (v : Value) (bs : List Int) (p : Nat) (most : Int) (hR : RefIs w g base v bs p) :
    Calls Try.prog 71 #[.pointer (some ⟨g, 0, none⟩), .int .u64 most] w fun e w' => e = .returned (.tuple #[.int .u64 (readN (rest bs p) most).1, .int .i64 (readN (rest bs p) most).2.1]) ∧
      RefIs w' g base v bs (p + (readN (rest bs p) most).2.2) ∧ Fr (fun i => i = g) w w' := by
  have hs := hR.small
  by_cases he : (look (rest bs p)).2.2 = 0
  · obtain ⟨hw1, hw2⟩ := look_wide bs p hR.le hR.bytes he
    have hf := RefLook_any w g base v bs p hR
    rw [he] at hf
    by_cases hm : most < (look (rest bs p)).1
    · have e : readN (rest bs p) most = (0, 12, 0) := by unfold readN; rw [if_pos he, if_pos hm]
      rw [e]
      generalize (look (rest bs p)).1 = n at *
      generalize (look (rest bs p)).2.1 = k at *
      have HF := Lib.hid hf
      clear hf he e
      go_enter Try.func71, Try.ntmps71
      go_wp2_with (go_at_call 92; refine HF.out.mono ?_; rintro e w1 ⟨rfl, hb⟩)
      go_ret2
      exact ⟨rfl, hR.below hb, Fr.of_below hb⟩
    · have e : readN (rest bs p) most = ((look (rest bs p)).1, 0, (look (rest bs p)).2.1) := by unfold readN; rw [if_pos he, if_neg hm]
      rw [e]
      generalize (look (rest bs p)).1 = n at *
      generalize (look (rest bs p)).2.1 = k at *
      have HF := Lib.hid hf
      have HR := Lib.hid hR
      have hm' : ¬ most < (n : Int) := hm
      clear hf he e hR hm
      go_enter Try.func71, Try.ntmps71
      go_wp2_with (go_at_call 92; refine HF.out.mono ?_; rintro e w1 ⟨rfl, hb⟩; have HR1 := Lib.hid (HR.out.below hb); have HB := Lib.hid hb; clear hb; have z1 := HR1.out.cells.2; have y1 := blk_frozen HR1.out.blk 1)
      go_ret2
      have h := HR1.out.move (q := p + k) (by omega)
      rw [show ((p + k : Nat) : Int) = (p : Int) + (k : Int) by omega] at h
      exact ⟨rfl, h, (Fr.of_below HB.out).set _ _ (fun _ => rfl)⟩
  · have e : readN (rest bs p) most = (0, (look (rest bs p)).2.2, 0) := by unfold readN; rw [if_neg he]
    rw [e]
    have hf := RefLook_any w g base v bs p hR
    generalize (look (rest bs p)).1 = n at *
    generalize (look (rest bs p)).2.1 = m at *
    generalize (look (rest bs p)).2.2 = k at *
    have hk : ((k : Int) != 0) = true := by simp; omega
    have HF := Lib.hid hf
    clear hf he e
    go_enter Try.func71, Try.ntmps71
    go_wp2_with (go_at_call 92; refine HF.out.mono ?_; rintro e w1 ⟨rfl, hb⟩)
    go_ret2
    exact ⟨rfl, hR.below hb, Fr.of_below hb⟩
set_option maxRecDepth 100000 in
set_option maxHeartbeats 2000000 in
theorem RefRaw_any (w : World) (g base : Nat) (v : Value) (bs : List Int) (p : Nat) (n : Int) (hR : RefIs w g base v bs p) (hsm : bs.length < 140737488355328) (h0 : -9223372036854775808 ≤ n) (h1 : n ≤ 9223372036854775807) :
    Calls Try.prog 72 #[.pointer (some ⟨g, 0, none⟩), .int .i64 n] w fun e w' => ∃ u, e = .returned (.tuple #[u, .int .i64 (readR bs p n).2.1]) ∧
      w'.ownsRow w.heap.size 5 1 u (readR bs p n).1.length (nums .u8 (readR bs p n).1) ∧ RefIs w' g base v bs (p + (readR bs p n).2.2) ∧ Fr (fun i => i = g) w w' := by
  have hc0 : w.cell? ⟨g, 0, none⟩ = some v := blk_cell hR.blk 0
  have hc1 : w.cell? ⟨g, 1, none⟩ = some (.int .i64 p) := blk_cell hR.blk 1
  have hs := hR.small
  have hp := hR.le
  obtain ⟨A, c, rfl⟩ := own_slice hR.own
  have hcap := (row_C hR.own).2.1
  by_cases hn : n < 0
  · have e : readR bs p n = ([], 2, 0) := by unfold readR; rw [if_pos hn]
    rw [e]
    have HR := Lib.hid hR
    clear hR e
    go_enter Try.func72, Try.ntmps72
    go_wp2
    go_ret2
    exact ⟨_, rfl, World.ownsRow_nil _ _ _ _, HR.out, Fr.refl _ _⟩
  · obtain ⟨k, rfl⟩ := Int.eq_ofNat_of_zero_le (show 0 ≤ n by omega)
    by_cases hlt : (bs.length : Int) - p < (k : Int)
    · have e : readR bs p k = ([], 10, 0) := by unfold readR; rw [if_neg hn, if_pos hlt]
      rw [e]
      have h' : decide ((bs.length : Int) - p < (k : Int)) = true := decide_eq_true hlt
      have HR := Lib.hid hR
      clear hR e
      go_enter Try.func72, Try.ntmps72
      go_wp2
      go_quiet (fail)
      go_wp2
      go_ret2
      exact ⟨_, rfl, World.ownsRow_nil _ _ _ _, HR.out.below (pw_below_drewN (Below.refl _ _) _), Fr.of_below (pw_below_drewN (Below.refl _ _) _)⟩
    · have e : readR bs p k = ((bs.take (p + k)).drop p, 0, k) := by unfold readR; rw [if_neg hn, if_neg hlt, Int.toNat_natCast]
      rw [e]
      have h' : decide ((bs.length : Int) - p < (k : Int)) = false := decide_eq_false hlt
      obtain ⟨q, hq⟩ : ∃ q, q = p + k := ⟨_, rfl⟩
      simp only [← hq]
      have hqs : IntKind.i64.wrap ((p : Int) + (k : Int)) = (q : Int) := by rw [IntKind.wrap_i64]; omega
      obtain ⟨A', hcut, hcc⟩ := cut_read A c p q bs (by omega) (by omega) hcap
      have HR := Lib.hid hR
      have HCC := Lib.hid hcc
      have HQ := Lib.hid hq
      clear hR e hcc hq
      go_enter Try.func72, Try.ntmps72
      go_wp2
      go_quiet (fail)
      go_wp2
      have HR1 := Lib.hid (HR.out.below (pw_below_drewN (Below.refl _ _) nq))
      have HF1 := Lib.hid (pw_below_drewN (Below.refl w.heap.size w) nq)
      have hsz : (w.drewN nq).heap.size = w.heap.size := by simp
      generalize w.drewN nq = w1 at *
      clear hc0 hc1
      have HSZ := Lib.hid hsz
      clear hsz
      have hc0 : w1.cell? ⟨g, 0, none⟩ = some (.slice A bs.length c) := blk_cell HR1.out.blk 0
      have hc1 : w1.cell? ⟨g, 1, none⟩ = some (.int .i64 p) := blk_cell HR1.out.blk 1
      have hCd := HCC.out w1.drew (Kd.C_below (row_C HR1.out.own).2.2 (below_drew (Below.refl _ _)))
      have hln : ((bs.take q).drop p).length = q - p := by have := HQ.out; rw [List.length_drop, List.length_take]; omega
      have hcl := Twin_any A' (c - p) ((bs.take q).drop p) w1.drew (hln ▸ hCd) (by rw [hln]; have := HQ.out; omega) (by rw [hln]; have := HQ.out; omega)
      rw [hln] at hcl
      have HCL := Lib.hid hcl
      have HLN := Lib.hid hln
      clear hcl hln hCd
      -- region 7: 17 operations: 0:move 1:nilCheck 2:fieldAddr 3:load 4:move 5:nilCheck 6:fieldAddr 7:load 8:move 9:nilCheck 10:fieldAddr 11:load 12:move 13:binOp 14:slice 15:call 16:assign
      -- region 5: 17 operations: 0:move 1:nilCheck 2:fieldAddr 3:load 4:move 5:nilCheck 6:fieldAddr 7:load 8:move 9:nilCheck 10:fieldAddr 11:load 12:move 13:binOp 14:slice 15:call 16:assign
      refine start_ (S := fun W' => W'.cell? ⟨g, 0, none⟩ = some (.slice A bs.length c) ∧ W'.cell? ⟨g, 1, none⟩ = some (.int .i64 p)) (ds := []) #[false, false, false, false, false, false, false, false, false, false, false, false, false, false, false, false, false] (by kernel_rfl) rfl rfl ⟨by go_simp, by go_simp⟩ (fun hHeld => ?_)
      refine pure_ (i := 0) (N := some 21) (v := ?_) (a' := ?_) #[true, false, false, false, false, false, false, false, false, false, false, false, false, false, false, false, false] rfl rfl (by kernel_rfl) (fun _ _ _ h => h) (Or.inl ⟨by rfl, ?_⟩) ?_ ?_
      rotate_left
      · intro w'
        go_simp
        with_reducible rfl
      rotate_left
      · simp only [Act.put, List.setIfInBounds_toArray, List.set_cons_zero, List.set_cons_succ]
        rfl
      refine pure_ (i := 1) (N := some 22) (v := ?_) (a' := ?_) #[true, true, false, false, false, false, false, false, false, false, false, false, false, false, false, false, false] rfl rfl (by kernel_rfl) (fun _ _ _ h => h) (Or.inl ⟨by rfl, ?_⟩) ?_ ?_
      rotate_left
      · intro w'
        go_simp
        with_reducible rfl
      rotate_left
      · simp only [Act.put, List.setIfInBounds_toArray, List.set_cons_zero, List.set_cons_succ]
        rfl
      refine pure_ (i := 2) (N := some 23) (v := ?_) (a' := ?_) #[true, true, true, false, false, false, false, false, false, false, false, false, false, false, false, false, false] rfl rfl (by kernel_rfl) (fun _ _ _ h => h) (Or.inl ⟨by rfl, ?_⟩) ?_ ?_
      rotate_left
      · intro w'
        go_simp
        with_reducible rfl
      rotate_left
      · simp only [Act.put, List.setIfInBounds_toArray, List.set_cons_zero, List.set_cons_succ]
        rfl
      refine pure_ (i := 4) (N := some 25) (v := ?_) (a' := ?_) #[true, true, true, false, true, false, false, false, false, false, false, false, false, false, false, false, false] rfl rfl (by kernel_rfl) (fun _ _ _ h => h) (Or.inl ⟨by rfl, ?_⟩) ?_ ?_
      rotate_left
      · intro w'
        go_simp
        with_reducible rfl
      rotate_left
      · simp only [Act.put, List.setIfInBounds_toArray, List.set_cons_zero, List.set_cons_succ]
        rfl
      refine pure_ (i := 5) (N := some 26) (v := ?_) (a' := ?_) #[true, true, true, false, true, true, false, false, false, false, false, false, false, false, false, false, false] rfl rfl (by kernel_rfl) (fun _ _ _ h => h) (Or.inl ⟨by rfl, ?_⟩) ?_ ?_
      rotate_left
      · intro w'
        go_simp
        with_reducible rfl
      rotate_left
      · simp only [Act.put, List.setIfInBounds_toArray, List.set_cons_zero, List.set_cons_succ]
        rfl
      refine pure_ (i := 6) (N := some 27) (v := ?_) (a' := ?_) #[true, true, true, false, true, true, true, false, false, false, false, false, false, false, false, false, false] rfl rfl (by kernel_rfl) (fun _ _ _ h => h) (Or.inl ⟨by rfl, ?_⟩) ?_ ?_
      rotate_left
      · intro w'
        go_simp
        with_reducible rfl
      rotate_left
      · simp only [Act.put, List.setIfInBounds_toArray, List.set_cons_zero, List.set_cons_succ]
        rfl
      refine pure_ (i := 8) (N := some 29) (v := ?_) (a' := ?_) #[true, true, true, false, true, true, true, false, true, false, false, false, false, false, false, false, false] rfl rfl (by kernel_rfl) (fun _ _ _ h => h) (Or.inl ⟨by rfl, ?_⟩) ?_ ?_
      rotate_left
      · intro w'
        go_simp
        with_reducible rfl
      rotate_left
      · simp only [Act.put, List.setIfInBounds_toArray, List.set_cons_zero, List.set_cons_succ]
        rfl
      refine pure_ (i := 9) (N := some 30) (v := ?_) (a' := ?_) #[true, true, true, false, true, true, true, false, true, true, false, false, false, false, false, false, false] rfl rfl (by kernel_rfl) (fun _ _ _ h => h) (Or.inl ⟨by rfl, ?_⟩) ?_ ?_
      rotate_left
      · intro w'
        go_simp
        with_reducible rfl
      rotate_left
      · simp only [Act.put, List.setIfInBounds_toArray, List.set_cons_zero, List.set_cons_succ]
        rfl
      refine pure_ (i := 10) (N := some 31) (v := ?_) (a' := ?_) #[true, true, true, false, true, true, true, false, true, true, true, false, false, false, false, false, false] rfl rfl (by kernel_rfl) (fun _ _ _ h => h) (Or.inl ⟨by rfl, ?_⟩) ?_ ?_
      rotate_left
      · intro w'
        go_simp
        with_reducible rfl
      rotate_left
      · simp only [Act.put, List.setIfInBounds_toArray, List.set_cons_zero, List.set_cons_succ]
        rfl
      refine pure_ (i := 12) (N := some 33) (v := ?_) (a' := ?_) #[true, true, true, false, true, true, true, false, true, true, true, false, true, false, false, false, false] rfl rfl (by kernel_rfl) (fun _ _ _ h => h) (Or.inl ⟨by rfl, ?_⟩) ?_ ?_
      rotate_left
      · intro w'
        go_simp
        with_reducible rfl
      rotate_left
      · simp only [Act.put, List.setIfInBounds_toArray, List.set_cons_zero, List.set_cons_succ]
        rfl
      refine take_ (i := 3) (N := some 24) (v := ?_) (a' := ?_) #[true, true, true, true, true, true, true, false, true, true, true, false, true, false, false, false, false] rfl rfl (by kernel_rfl) (fun _ _ _ h => h) (Or.inl ⟨by rfl, ?_⟩) hHeld ?_ ?_
      rotate_left
      · rintro w' ⟨h1, h2⟩
        go_simp
        with_reducible rfl
      rotate_left
      · simp only [Act.put, List.setIfInBounds_toArray, List.set_cons_zero, List.set_cons_succ]
        rfl
      refine take_ (i := 7) (N := some 28) (v := ?_) (a' := ?_) #[true, true, true, true, true, true, true, true, true, true, true, false, true, false, false, false, false] rfl rfl (by kernel_rfl) (fun _ _ _ h => h) (Or.inl ⟨by rfl, ?_⟩) hHeld ?_ ?_
      rotate_left
      · rintro w' ⟨h1, h2⟩
        go_simp
        with_reducible rfl
      rotate_left
      · simp only [Act.put, List.setIfInBounds_toArray, List.set_cons_zero, List.set_cons_succ]
        rfl
      refine take_ (i := 11) (N := some 32) (v := ?_) (a' := ?_) #[true, true, true, true, true, true, true, true, true, true, true, true, true, false, false, false, false] rfl rfl (by kernel_rfl) (fun _ _ _ h => h) (Or.inl ⟨by rfl, ?_⟩) hHeld ?_ ?_
      rotate_left
      · rintro w' ⟨h1, h2⟩
        go_simp
        with_reducible rfl
      rotate_left
      · simp only [Act.put, List.setIfInBounds_toArray, List.set_cons_zero, List.set_cons_succ]
        rfl
      refine pure_ (i := 13) (N := some 34) (v := ?_) (a' := ?_) #[true, true, true, true, true, true, true, true, true, true, true, true, true, true, false, false, false] rfl rfl (by kernel_rfl) (fun _ _ _ h => h) (Or.inl ⟨by rfl, ?_⟩) ?_ ?_
      rotate_left
      · intro w'
        go_simp
        with_reducible rfl
      rotate_left
      · simp only [Act.put, List.setIfInBounds_toArray, List.set_cons_zero, List.set_cons_succ]
        rfl
      refine pure_ (i := 14) (N := some 35) (v := ?_) (a' := ?_) #[true, true, true, true, true, true, true, true, true, true, true, true, true, true, true, false, false] rfl rfl (by kernel_rfl) (fun _ _ _ h => h) (Or.inl ⟨by rfl, ?_⟩) ?_ ?_
      rotate_left
      · intro w'
        go_simp
        with_reducible rfl
      rotate_left
      · simp only [Act.put, List.setIfInBounds_toArray, List.set_cons_zero, List.set_cons_succ]
        rfl
      refine one_ (i := 15) (N := some 36) #[true, true, true, true, true, true, true, true, true, true, true, true, true, true, true, true, false] rfl rfl (by kernel_rfl) (by decide) (fun K hK => ?_)
      refine goes_ Try.func10 (by kernel_rfl) rfl #[.slice A' (q - p) (c - p)] (by rfl) rfl rfl (by simp only [List.map_toArray, List.map_cons, List.map_nil]; rfl) ?_
      refine HCL.out.mono ?_
      rintro e w3 ⟨u, rfl, ho3, hb3⟩
      refine ⟨_, rfl, ?_⟩
      have HO3 := Lib.hid ho3
      have HB3 := Lib.hid hb3
      have z0 := pw_cell_below hb3 (by go_simp : w1.drew.cell? ⟨g, 0, none⟩ = some (.slice A bs.length c))
      have z1 := pw_cell_below hb3 (by go_simp : w1.drew.cell? ⟨g, 1, none⟩ = some (.int .i64 p))
      clear ho3 hb3
      refine hK.out _ _ ⟨z0, z1⟩ (fun hHeld => ?_)
      clear hK K
      refine norm_ (a' := ?_) ?_ ?_
      rotate_left
      · show Act.put _ (some 36) _ = _
        simp only [Act.put, List.setIfInBounds_toArray, List.set_cons_zero, List.set_cons_succ]
        rfl
      refine pure_ (i := 16) (N := some 6) (v := ?_) (a' := ?_) #[true, true, true, true, true, true, true, true, true, true, true, true, true, true, true, true, true] rfl rfl (by kernel_rfl) (fun _ _ _ h => h) (Or.inl ⟨by rfl, ?_⟩) ?_ ?_
      rotate_left
      · intro w'
        go_simp
        with_reducible rfl
      rotate_left
      · simp only [Act.put, List.setIfInBounds_toArray, List.set_cons_zero, List.set_cons_succ]
        rfl
      refine done_ (by kernel_rfl) ?_
      have hR3 := (HR1.out.below (below_drew (Below.refl _ _))).below HB3.out
      have hF3 : Fr (fun i => i = g) w w3 := Fr.of_below (HF1.out.trans (HSZ.out ▸ ((below_drew (Below.refl _ w1)).trans HB3.out)))
      have HF3 := Lib.hid hF3
      have HR3 := Lib.hid hR3
      have hgl : g < w.heap.size := blk_lt HR.out.blk
      have HGL := Lib.hid hgl
      clear hR3 hF3 z0 z1 hHeld hcut hgl
      have HGL2 := HGL.out
      obtain ⟨_, z1⟩ := HR3.out.cells
      have y1 := blk_frozen HR3.out.blk 1
      go_wp2
      go_ret2
      have hmv := HR3.out.move (q := q) (by have := HQ.out; omega)
      have ho := HO3.out
      rw [show w1.drew.heap.size = w.heap.size from HSZ.out] at ho
      have hF4 : Fr (fun i => i = g) w3 (w3.setCell ⟨g, 1, none⟩ (.int .i64 (q : Int))) := (Fr.refl _ _).set _ _ (fun _ => rfl)
      refine ⟨u, rfl, ?_, hmv, HF3.out.trans hF4 (fun _ _ h => h)⟩
      rw [HLN.out]
      refine own_fr ho hF4 (fun b hb e => ?_)
      have := (World.ownsRow.lt ho b hb).1
      omega

end Go.Proofs.Ytacmajlbaenjfaa
