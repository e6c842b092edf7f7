/- Contracts of the Reel: find. -/
import Derived.Test.YtamagdnlicnefaaDoorVd
import Derived.Deep.QuietTactic
import Derived.BigQuiet
import Derived.StillTailTactics
import Derived.Laws.EntriesVeiled
namespace Go.Proofs.YtamagdnlicnefaaDoor
open Go.RowKit Go.Shelf Go.Proofs.YtamagdnlicnefaaDoorW.PrintWords Go.Proofs.YtamagdnlicnefaaDoorW.PrintLast Go.Proofs.YtamagdnlicnefaaDoorW.PrintMore

/-- The Reel at block g: its bytes bs, in the slice v, and its place. -/
structure ReelIs (W : World) (g base : Nat) (v : Value) (bs : List Int) (at_ : Nat) : Prop where
  blk : W.heap[g]? = some (.cells #[v, .int .i64 at_] 77 (0, 0))
  own : W.ownsRow base 5 1 v bs.length (nums .u8 bs)
  le : at_ ≤ bs.length
  small : bs.length ≤ 140737488355328
  bytes : ∀ b ∈ bs, 0 ≤ b ∧ b ≤ 255

/-- The number that stands at the begin of bytes: it, its width, the error. -/
def look : List Nat → Nat × Nat × Nat
  | [] => (0, 0, 10)
  | b :: t =>
    if t.length + 1 < VP.lead b then (0, 0, 10)
    else if VP.wid (VP.fold (b - VP.mark (VP.lead b)) (t.take (VP.lead b - 1))) = VP.lead b then (VP.fold (b - VP.mark (VP.lead b)) (t.take (VP.lead b - 1)), VP.lead b, 0)
    else (0, 0, 11)

theorem look_cons (b : Nat) (t : List Nat) : look (b :: t) = if t.length + 1 < VP.lead b then (0, 0, 10) else if VP.wid (VP.fold (b - VP.mark (VP.lead b)) (t.take (VP.lead b - 1))) = VP.lead b then (VP.fold (b - VP.mark (VP.lead b)) (t.take (VP.lead b - 1)), VP.lead b, 0) else (0, 0, 11) := rfl

def rest (bs : List Int) (at_ : Nat) : List Nat := (bs.drop at_).map Int.toNat

/-- What find answers. -/
def foundV (g : Nat) (r : Nat × Nat × Nat) : Value :=
  if r.2.2 = 0 then .agg #[.int .u64 r.1, .int .i64 r.2.1, .func (.func 72) #[.pointer (some ⟨g, 0, none⟩)] #[]] else .agg #[.int .u64 0, .int .i64 0, .nilFunc]

theorem sizeOf107 : Tryd.prog.cellsOf 107 = 3 := by kernel_rfl

set_option maxHeartbeats 1000000 in
theorem find_end (w : World) (g base : Nat) (v : Value) (bs : List Int) (hR : ReelIs w g base v bs bs.length) :
    Calls Tryd.prog 52 #[.pointer (some ⟨g, 0, none⟩)] w fun e w' => e = .returned (.tuple #[.agg #[.int .u64 0, .int .i64 0, .nilFunc], .int .i64 10]) ∧ Below w.heap.size w w' := by
  have hB1 : Below w.heap.size w (w.alloc (.cells #[.int .u64 0, .int .i64 0, .nilFunc] 107)) := (Below.refl _ w).alloc (Nat.le_refl _) _
  have hc0 := pw_cell_below hB1 (a := ⟨g, 0, none⟩) (v := v) (blk_cell hR.blk 0)
  have hc1 := pw_cell_below hB1 (a := ⟨g, 1, none⟩) (v := .int .i64 bs.length) (blk_cell hR.blk 1)
  have hF := World.alloc_heap_new w (.cells #[.int .u64 0, .int .i64 0, .nilFunc] 107)
  have q0 := blk_cell hF 0
  have q1 := blk_cell hF 1
  have q2 := blk_cell hF 2
  have z0 := blk_frozen hF 0
  have z1 := blk_frozen hF 1
  have z2 := blk_frozen hF 2
  simp only [List.getElem?_toArray, List.getElem?_cons_zero, List.getElem?_cons_succ] at q0 q1 q2
  clear hF
  have hs := hR.small
  rcases hR.own.2 with ⟨rfl, h0⟩ | ⟨b, cap, cur, rfl, hb, hgb, hlc, hcm, _⟩
  · have h0' : ((bs.length : Nat) : Int) = 0 := by omega
    rw [h0'] at hc1
    clear h0 h0' hs
    go_enter Tryd.func52, Tryd.ntmps52
    go_wp2
    generalize w.alloc (.cells #[.int .u64 0, .int .i64 0, .nilFunc] 107) = w1 at *
    go_quiet (fail)
    go_wp2
    all_goals exact bodyPost_ret (v := .tuple #[.agg #[.int .u64 0, .int .i64 0, .nilFunc], .int .i64 10]) (by simp [results, Tryd.results52, go_sem, q0, q1, q2]) rfl ⟨rfl, (((pw_below_drewN hB1 nq).setCell (by simp) _).setCell (by simp) _).setCell (by simp) _⟩
  · unfold maxLen at hcm
    clear hgb
    go_enter Tryd.func52, Tryd.ntmps52
    go_wp2
    generalize w.alloc (.cells #[.int .u64 0, .int .i64 0, .nilFunc] 107) = w1 at *
    go_quiet (fail)
    go_wp2
    all_goals exact bodyPost_ret (v := .tuple #[.agg #[.int .u64 0, .int .i64 0, .nilFunc], .int .i64 10]) (by simp [results, Tryd.results52, go_sem, q0, q1, q2]) rfl ⟨rfl, (((pw_below_drewN hB1 nq).setCell (by simp) _).setCell (by simp) _).setCell (by simp) _⟩

theorem xor_byte : ∀ b : Fin 256, Go.bits .xor .u8 IntKind.u8.max (b.val : Int) = 255 - (b.val : Int) := by decide +kernel
theorem lz_lead : ∀ b : Fin 256, (8 - (Lib.bitLen (255 - (b.val : Int)).toNat : Int)) = (VP.lead b.val : Int) - 1 := by decide +kernel

theorem LZ_any (x : Int) (h0 : 0 ≤ x) (h1 : x ≤ 255) (w : World) :
    Calls Tryd.prog 71 #[.int .u8 (Go.bits .xor .u8 IntKind.u8.max x)] w fun e w' => e = .returned (.int .i64 ((VP.lead x.toNat : Int) - 1)) ∧ w = w' := by
  obtain ⟨n, rfl⟩ := Int.eq_ofNat_of_zero_le h0
  have e := lz_lead ⟨n, by omega⟩
  rw [xor_byte ⟨n, by omega⟩]
  refine (Tryd.bits_LeadingZeros8 _ w (by simp; omega) (by simp; omega)).mono ?_
  rintro e' w' ⟨rfl, rfl⟩
  exact ⟨ret_int e, rfl⟩

theorem or_u64 (m c : Nat) (hm : m < 72057594037927936) (hc : c < 256) : Go.bits .or .u64 ((m : Int) * 256) (c : Int) = ((256 * m + c : Nat) : Int) := by
  have e1 : (m : Int) * 256 = ((m * 256 : Nat) : Int) := by omega
  rw [e1]
  have hx : (m * 256) ||| c = 256 * m + c := by
    have := Nat.shiftLeft_add_eq_or_of_lt (show c < 2 ^ 8 by omega) m
    rw [Nat.shiftLeft_eq, show (2 : Nat) ^ 8 = 256 from rfl] at this
    omega
  have h1 : (BitVec.ofInt 64 ((m * 256 : Nat) : Int)).toNat = m * 256 := by
    rw [BitVec.ofInt_natCast, BitVec.toNat_ofNat]; exact Nat.mod_eq_of_lt (by omega)
  have h2 : (BitVec.ofInt 64 (c : Int)).toNat = c := by
    rw [BitVec.ofInt_natCast, BitVec.toNat_ofNat]; exact Nat.mod_eq_of_lt (by omega)
  show IntKind.u64.wrap ((BitVec.ofInt 64 ((m * 256 : Nat) : Int) ||| BitVec.ofInt 64 (c : Int)).toNat : Int) = _
  rw [BitVec.toNat_or, h1, h2, hx, IntKind.wrap_u64]
  omega

theorem fold_lt : ∀ (l : List Nat) (a : Nat), (∀ b ∈ l, b < 256) → VP.fold a l < (a + 1) * 256 ^ l.length
  | [], a, _ => by simp [VP.fold]
  | c :: l, a, h => by
    have hc := h c (by simp)
    have ih := fold_lt l (256 * a + c) (fun b hb => h b (by simp [hb]))
    have e : VP.fold a (c :: l) = VP.fold (256 * a + c) l := rfl
    rw [e, List.length_cons, Nat.pow_succ, ← Nat.mul_assoc]
    have h1 : 256 * a + c + 1 ≤ (a + 1) * 256 := by omega
    have h2 := Nat.mul_le_mul_right (256 ^ l.length) h1
    have h3 : (a + 1) * 256 * 256 ^ l.length = (a + 1) * 256 ^ l.length * 256 := by rw [Nat.mul_assoc, Nat.mul_comm 256, ← Nat.mul_assoc]
    omega

theorem fold_snoc (a c : Nat) (l : List Nat) : VP.fold a (l ++ [c]) = 256 * VP.fold a l + c := by simp [VP.fold]

theorem fold_small (m0 L j : Nat) (l : List Nat) (hl : ∀ b ∈ l, b < 256) (hj : l.length = j) (hjL : j ≤ L) (hL : L ≤ 8) (h7 : L < 8 → m0 < 2 ^ (7 - L)) (h8 : L = 8 → m0 = 0) :
    VP.fold m0 l < 18446744073709551616 ∧ (j < L → VP.fold m0 l < 72057594037927936) := by
  have h := fold_lt l m0 hl
  rw [hj] at h
  have hcase : L = 0 ∨ L = 1 ∨ L = 2 ∨ L = 3 ∨ L = 4 ∨ L = 5 ∨ L = 6 ∨ L = 7 ∨ L = 8 := by omega
  have hp : (256 : Nat) ^ j ≤ 256 ^ L := Nat.pow_le_pow_right (by omega) hjL
  have hm : m0 + 1 ≤ 2 ^ (8 - L) := by
    rcases hcase with rfl | rfl | rfl | rfl | rfl | rfl | rfl | rfl | rfl <;> simp at h7 h8 ⊢ <;> omega
  constructor
  · have h1 : (m0 + 1) * 256 ^ j ≤ 2 ^ (8 - L) * 256 ^ L := Nat.mul_le_mul hm hp
    rcases hcase with rfl | rfl | rfl | rfl | rfl | rfl | rfl | rfl | rfl <;> simp at h1 <;> omega
  · intro hlt
    have hp : (256 : Nat) ^ j ≤ 256 ^ (L - 1) := Nat.pow_le_pow_right (by omega) (by omega)
    have h1 : (m0 + 1) * 256 ^ j ≤ 2 ^ (8 - L) * 256 ^ (L - 1) := Nat.mul_le_mul hm hp
    rcases hcase with rfl | rfl | rfl | rfl | rfl | rfl | rfl | rfl | rfl <;> simp at h1 <;> omega

theorem rest_lt (bs : List Int) (hb : ∀ b ∈ bs, 0 ≤ b ∧ b ≤ 255) (p : Nat) : ∀ b ∈ rest bs p, b < 256 := by
  intro b h
  obtain ⟨y, hy, rfl⟩ := List.mem_map.1 h
  have := hb y (List.mem_of_mem_drop hy)
  omega

/-- What find's walk knows of memory. -/
structure FAt (w W : World) (g b cap n p : Nat) (x : Int) : Prop where
  below : Below w.heap.size w W
  c0 : W.cell? ⟨g, 0, none⟩ = some (.slice (some ⟨b, 0, none⟩) n cap)
  c1 : W.cell? ⟨g, 1, none⟩ = some (.int .i64 p)
  c2 : W.cell? ⟨b, p, none⟩ = some (.int .u8 x)
  box : W.heap[w.heap.size]? = some (.cells #[.int .u64 0, .int .i64 0, .nilFunc] 107 (0, 0))

theorem FAt.drewN {w W : World} {g b cap n p : Nat} {x : Int} (h : FAt w W g b cap n p x) (m : Nat) : FAt w (W.drewN m) g b cap n p x := ⟨pw_below_drewN h.below m, h.c0, h.c1, h.c2, h.box⟩
theorem FAt.drew {w W : World} {g b cap n p : Nat} {x : Int} (h : FAt w W g b cap n p x) : FAt w W.drew g b cap n p x := ⟨below_drew h.below, h.c0, h.c1, h.c2, h.box⟩
theorem FAt.later {w W W' : World} {g b cap n p : Nat} {x : Int} (h : FAt w W g b cap n p x) (hb : Below W.heap.size W W') : FAt w W' g b cap n p x :=
  ⟨below_then h.below h.below.size hb, pw_cell_below hb h.c0, pw_cell_below hb h.c1, pw_cell_below hb h.c2, (hb.block _ (blk_lt h.box)).trans h.box⟩
theorem FAt.cells {w W : World} {g b cap n p : Nat} {x : Int} (h : FAt w W g b cap n p x) :
    (W.cell? ⟨w.heap.size, 0, none⟩ = some (.int .u64 0) ∧ W.cell? ⟨w.heap.size, 1, none⟩ = some (.int .i64 0) ∧ W.cell? ⟨w.heap.size, 2, none⟩ = some .nilFunc) ∧
    (W.frozen? ⟨w.heap.size, 0, none⟩ = false ∧ W.frozen? ⟨w.heap.size, 1, none⟩ = false ∧ W.frozen? ⟨w.heap.size, 2, none⟩ = false) :=
  ⟨⟨blk_cell h.box 0, blk_cell h.box 1, blk_cell h.box 2⟩, blk_frozen h.box 0, blk_frozen h.box 1, blk_frozen h.box 2⟩

theorem andnot_lead : ∀ b : Fin 256, Go.bits .andNot .u8 (b.val : Int) (VP.mark (VP.lead b.val) : Int) = ((b.val - VP.mark (VP.lead b.val) : Nat) : Int) := by decide +kernel

set_option maxRecDepth 100000 in
set_option maxHeartbeats 2000000 in
theorem find_some (w : World) (g base b cap : Nat) (bs : List Int) (p : Nat) (hR : ReelIs w g base (.slice (some ⟨b, 0, none⟩) bs.length cap) bs p) (hlt : p < bs.length) :
    Calls Tryd.prog 52 #[.pointer (some ⟨g, 0, none⟩)] w fun e w' => e = .returned (.tuple #[foundV g (look (rest bs p)), .int .i64 (look (rest bs p)).2.2]) ∧ Below w.heap.size w w' := by
  have hs := hR.small
  have hcap : bs.length ≤ cap ∧ cap ≤ 9223372036854775807 := by
    rcases hR.own.2 with ⟨h, _⟩ | ⟨_, _, _, h, _, _, h1, h2, _⟩
    · cases h
    · cases h; exact ⟨h1, h2⟩
  obtain ⟨hl1, hl2⟩ := hcap
  have hcp : ¬ cap = p := by omega
  have hcells : ∀ i, i < bs.length → w.cell? ⟨b, i, none⟩ = some (.int .u8 (bs.getD i 0)) := fun i hi => by
    have h := hR.own.cells (g := b) rfl i (.int .u8 (bs.getD i 0)) (by simp [nums, List.getElem?_eq_getElem hi, List.getD_eq_getElem?_getD])
    rwa [add_plain] at h
  have hb := hR.bytes (bs.getD p 0) (by rw [List.getD_eq_getElem?_getD, List.getElem?_eq_getElem hlt]; exact List.getElem_mem hlt)
  obtain ⟨x, hx⟩ : ∃ x : Int, bs.getD p 0 = x := ⟨_, rfl⟩
  have hrest : rest bs p = x.toNat :: rest bs (p + 1) := by
    unfold rest
    rw [List.drop_eq_getElem_cons hlt, List.map_cons, ← hx, List.getD_eq_getElem?_getD, List.getElem?_eq_getElem hlt]
    rfl
  have hrl : (rest bs (p + 1)).length + 1 = bs.length - p := by simp [rest]; omega
  have hB1 : Below w.heap.size w (w.alloc (.cells #[.int .u64 0, .int .i64 0, .nilFunc] 107)) := (Below.refl _ w).alloc (Nat.le_refl _) _
  have F1 : FAt w (w.alloc (.cells #[.int .u64 0, .int .i64 0, .nilFunc] 107)) g b cap bs.length p x :=
    ⟨hB1, pw_cell_below hB1 (blk_cell hR.blk 0), pw_cell_below hB1 (blk_cell hR.blk 1), pw_cell_below hB1 ((hcells p hlt).trans (by rw [hx])), World.alloc_heap_new w _⟩
  rw [hx] at hb
  have hL := VP.mark_lead x.toNat (by omega)
  obtain ⟨L, hLd⟩ : ∃ L, VP.lead x.toNat = L + 1 := ⟨VP.lead x.toNat - 1, by omega⟩
  have HC := Lib.hid hcells
  have HX := Lib.hid hx
  have HR := Lib.hid hR
  have HRE := Lib.hid hrest
  have HRL := Lib.hid hrl
  have HLL := Lib.hid hL
  have HLD := Lib.hid hLd
  have hL9 : L ≤ 8 := by omega
  have LZ : ∀ w', Calls Tryd.prog 71 #[.int .u8 (Go.bits .xor .u8 IntKind.u8.max x)] w' fun e w'' => e = .returned (.int .i64 L) ∧ w' = w'' := fun w' => by
    have h := LZ_any x hb.1 hb.2 w'
    rw [hLd] at h
    simpa using h
  have HZ := Lib.hid LZ
  obtain ⟨D, hD⟩ : ∃ D, bs.length - p = D := ⟨_, rfl⟩
  have HD := Lib.hid hD
  have hD0 : 0 < D := by omega
  have hDc : D ≤ 140737488355328 := by omega
  clear hcells hx hR hrest hrl hL hLd LZ hB1
  go_enter Tryd.func52, Tryd.ntmps52
  go_wp2
  generalize w.alloc (.cells #[.int .u64 0, .int .i64 0, .nilFunc] 107) = w1 at *
  have hc0 := F1.c0
  have hc1 := F1.c1
  go_quiet (fail)
  have F2 := F1.drewN nq
  clear hc0 hc1 F1
  generalize w1.drewN nq = w2 at *
  have hc2 := F2.c2
  clear w1
  have F3 : FAt w (w2.alloc (.cells #[.int .u64 0, .int .i64 ((L : Int) + 1), .func (.func 72) #[.pointer (some ⟨g, 0, none⟩)] #[]] 107)) g b cap bs.length p x := F2.later ((Below.refl _ _).alloc (Nat.le_refl _) _)
  have hX3 := World.alloc_heap_new w2 (.cells #[.int .u64 0, .int .i64 ((L : Int) + 1), .func (.func 72) #[.pointer (some ⟨g, 0, none⟩)] #[]] 107)
  by_cases hsh : D < L + 1
  · obtain ⟨⟨q0, q1, q2⟩, z0, z1, z2⟩ := F3.cells
    have hbel := F3.below
    have e : look (rest bs p) = (0, 0, 10) := by rw [HRE.out, look_cons, HLD.out, HRL.out, HD.out, if_pos hsh]
    have HE := Lib.hid e
    clear e
    go_wp2_with (go_at_call 71; refine (HZ.out _).mono ?_; rintro e w' ⟨rfl, rfl⟩)
    rw [HE.out]
    exact bodyPost_ret (v := .tuple #[.agg #[.int .u64 0, .int .i64 0, .nilFunc], .int .i64 10]) (by simp [results, Tryd.results52, go_sem, q0, q1, q2]) rfl ⟨rfl, ((hbel.setCell (by simp) _).setCell (by simp) _).setCell (by simp) _⟩
  · go_wp2_with (go_at_call 71; refine (HZ.out _).mono ?_; rintro e w' ⟨rfl, rfl⟩)
    have hB23 : Below w2.heap.size w2 (w2.alloc (.cells #[.int .u64 0, .int .i64 ((L : Int) + 1), .func (.func 72) #[.pointer (some ⟨g, 0, none⟩)] #[]] 107)) := (Below.refl _ _).alloc (Nat.le_refl _) _
    generalize w2.alloc (.cells #[.int .u64 0, .int .i64 ((L : Int) + 1), .func (.func 72) #[.pointer (some ⟨g, 0, none⟩)] #[]] 107) = w3 at *
    have hc3 := F3.c2
    have x0 := blk_cell hX3 0
    have x1 := blk_cell hX3 1
    have y0 := blk_frozen hX3 0
    simp only [List.getElem?_toArray, List.getElem?_cons_zero, List.getElem?_cons_succ] at x0 x1
    clear hc2
    have hmk : VP.mark (L + 1) ≤ x.toNat ∧ (L < 8 → x.toNat < VP.mark (L + 1 + 1)) := by have h := HLL.out; rw [HLD.out] at h; exact ⟨h.1, fun h8 => h.2.1 (by omega)⟩
    obtain ⟨m0, hm0⟩ : ∃ m, x.toNat - VP.mark (L + 1) = m := ⟨_, rfl⟩
    have han : Go.bits .andNot .u8 x (VP.mark (L + 1) : Int) = (m0 : Int) := by
      have h := andnot_lead ⟨x.toNat, by omega⟩
      simp only [HLD.out, hm0] at h
      rwa [Int.toNat_of_nonneg hb.1] at h
    have hw1 : IntKind.i64.wrap (L : Int) = L := by rw [IntKind.wrap_i64]; omega
    have hm255 : m0 ≤ 255 := by omega
    have hw2 : IntKind.u64.wrap (m0 : Int) = m0 := by rw [IntKind.wrap_u64]; omega
    have HMK := Lib.hid hmk
    have HM0 := Lib.hid hm0
    clear hmk hm0
    have FF2 := Aside0.mk F2
    clear F2
    generalize hX : w2.heap.size = X at *
    -- region 9: 11 operations: 0:move 1:indexAddr 2:load 3:fieldAddr 4:load 5:binOp 6:call 7:binOp 8:convert 9:fieldAddr 10:store
    refine start_ (S := fun W' => W'.cell? ⟨b, p, none⟩ = some (.int .u8 x) ∧ W'.cell? ⟨X, 1, none⟩ = some (.int .i64 ((L : Int) + 1))) (ds := [10]) #[false, false, false, false, false, false, false, false, false, false, false] (by kernel_rfl) rfl rfl ⟨hc3, x1⟩ (fun hHeld => ?_)
    refine pure_ (i := 0) (N := some 39) (v := ?_) (a' := ?_) #[true, false, false, false, false, false, false, false, false, false, false] rfl rfl (by kernel_rfl) (fun _ _ _ h => h) (Or.inl ⟨by rfl, ?_⟩) ?_ ?_
    rotate_left
    · intro w'
      go_simp
      with_reducible rfl
    rotate_left
    · simp only [Act.put, List.setIfInBounds_toArray, List.set_cons_zero, List.set_cons_succ]
      rfl
    refine pure_ (i := 1) (N := some 40) (v := ?_) (a' := ?_) #[true, true, false, false, false, false, false, false, false, false, false] rfl rfl (by kernel_rfl) (fun _ _ _ h => h) (Or.inl ⟨by rfl, ?_⟩) ?_ ?_
    rotate_left
    · intro w'
      go_simp
      with_reducible rfl
    rotate_left
    · simp only [Act.put, List.setIfInBounds_toArray, List.set_cons_zero, List.set_cons_succ]
      rfl
    refine pure_ (i := 3) (N := some 42) (v := ?_) (a' := ?_) #[true, true, false, true, false, false, false, false, false, false, false] rfl rfl (by kernel_rfl) (fun _ _ _ h => h) (Or.inl ⟨by rfl, ?_⟩) ?_ ?_
    rotate_left
    · intro w'
      go_simp
      with_reducible rfl
    rotate_left
    · simp only [Act.put, List.setIfInBounds_toArray, List.set_cons_zero, List.set_cons_succ]
      rfl
    refine take_ (i := 2) (N := some 41) (v := ?_) (a' := ?_) #[true, true, true, true, false, false, false, false, false, false, false] rfl rfl (by kernel_rfl) (fun _ _ _ h => h) (Or.inl ⟨by rfl, ?_⟩) hHeld ?_ ?_
    rotate_left
    · rintro w' ⟨h1, h2⟩
      go_simp
      with_reducible rfl
    rotate_left
    · simp only [Act.put, List.setIfInBounds_toArray, List.set_cons_zero, List.set_cons_succ]
      rfl
    refine take_ (i := 4) (N := some 43) (v := ?_) (a' := ?_) #[true, true, true, true, true, false, false, false, false, false, false] rfl rfl (by kernel_rfl) (fun _ _ _ h => h) (Or.inl ⟨by rfl, ?_⟩) hHeld ?_ ?_
    rotate_left
    · rintro w' ⟨h1, h2⟩
      go_simp
      with_reducible rfl
    rotate_left
    · simp only [Act.put, List.setIfInBounds_toArray, List.set_cons_zero, List.set_cons_succ]
      rfl
    refine pure_ (i := 5) (N := some 44) (v := ?_) (a' := ?_) #[true, true, true, true, true, true, false, false, false, false, false] rfl rfl (by kernel_rfl) (fun _ _ _ h => h) (Or.inl ⟨by rfl, ?_⟩) ?_ ?_
    rotate_left
    · intro w'
      go_simp
      with_reducible rfl
    rotate_left
    · simp only [Act.put, List.setIfInBounds_toArray, List.set_cons_zero, List.set_cons_succ]
      rfl
    refine one_ (i := 6) (N := some 45) #[true, true, true, true, true, true, true, false, false, false, false] rfl rfl (by kernel_rfl) (by decide) (fun K hK => ?_)
    refine goes_ Tryd.func69 (by kernel_rfl) rfl #[.int .i64 L] (by rfl) rfl rfl (by simp only [List.map_toArray, List.map_cons, List.map_nil]; rfl) ?_
    refine (ones_any L hL9 _).mono ?_
    rintro e w' ⟨rfl, rfl⟩
    refine ⟨_, rfl, ?_⟩
    refine hK.out _ _ ⟨hc3, x1⟩ (fun hHeld => ?_)
    clear hK K
    refine norm_ (a' := ?_) ?_ ?_
    rotate_left
    · show Act.put _ (some 45) _ = _
      simp only [Act.put, List.setIfInBounds_toArray, List.set_cons_zero, List.set_cons_succ]
      rfl
    refine pure_ (i := 7) (N := some 46) (v := ?_) (a' := ?_) #[true, true, true, true, true, true, true, true, false, false, false] rfl rfl (by kernel_rfl) (fun _ _ _ h => h) (Or.inl ⟨by rfl, ?_⟩) ?_ ?_
    rotate_left
    · intro w'
      go_simp
      with_reducible rfl
    rotate_left
    · simp only [Act.put, List.setIfInBounds_toArray, List.set_cons_zero, List.set_cons_succ]
      rfl
    refine pure_ (i := 8) (N := some 47) (v := ?_) (a' := ?_) #[true, true, true, true, true, true, true, true, true, false, false] rfl rfl (by kernel_rfl) (fun _ _ _ h => h) (Or.inl ⟨by rfl, ?_⟩) ?_ ?_
    rotate_left
    · intro w'
      go_simp
      with_reducible rfl
    rotate_left
    · simp only [Act.put, List.setIfInBounds_toArray, List.set_cons_zero, List.set_cons_succ]
      rfl
    refine pure_ (i := 9) (N := some 48) (v := ?_) (a' := ?_) #[true, true, true, true, true, true, true, true, true, true, false] rfl rfl (by kernel_rfl) (fun _ _ _ h => h) (Or.inl ⟨by rfl, ?_⟩) ?_ ?_
    rotate_left
    · intro w'
      go_simp
      with_reducible rfl
    rotate_left
    · simp only [Act.put, List.setIfInBounds_toArray, List.set_cons_zero, List.set_cons_succ]
      rfl
    refine last_ (i := 10) (N := none) #[true, true, true, true, true, true, true, true, true, true, true] rfl rfl (by kernel_rfl) (by decide) (fun K hK => ?_)
    refine skip_ (w1 := ?_) (by rfl) rfl ?_ ?_
    rotate_left 1
    · go_simp
      rfl
    refine hK.out _ _ ?_
    clear hK K
    refine done_ (by kernel_rfl) ?_
    clear hw1 hw2 han
    have HB4 : Below X w2 (w3.setCell ⟨X, 0, none⟩ (.int .u64 m0)).drew := below_drew (hB23.setCell (Nat.le_refl _) _)
    have hX4 : (w3.setCell ⟨X, 0, none⟩ (.int .u64 m0)).drew.heap[X]? = some (.cells #[.int .u64 m0, .int .i64 ((L : Int) + 1), .func (.func 72) #[.pointer (some ⟨g, 0, none⟩)] #[]] 107 (0, 0)) := by
      have h := blk_set hX3 0 (.int .u64 m0)
      simp at h
      exact h
    clear hX3 x0 x1 y0 hc3 F3 hHeld
    generalize (w3.setCell ⟨X, 0, none⟩ (.int .u64 m0)).drew = w4 at *
    clear hB23
    have x1 := blk_cell hX4 1
    simp only [List.getElem?_toArray, List.getElem?_cons_zero, List.getElem?_cons_succ] at x1
    have HX2 := Lib.hid hX
    have HHD := Lib.hid hD
    have hcl : (L : Int) + 1 ≤ ((cap - p : Nat) : Int) := by omega
    have hcl2 : L + 1 ≤ cap - p := by omega
    clear hX hD x1
    have HB := Aside0.mk HB4
    clear HB4
    have hm7 : L < 8 → m0 < 2 ^ (7 - L) := by
      intro h8
      have hmk := HMK.out
      have hm0 := HM0.out
      have h2 := hmk.2 h8
      have hc : L = 0 ∨ L = 1 ∨ L = 2 ∨ L = 3 ∨ L = 4 ∨ L = 5 ∨ L = 6 ∨ L = 7 := by omega
      rcases hc with rfl | rfl | rfl | rfl | rfl | rfl | rfl | rfl <;> (simp only [VP.mark, Nat.reduceSub, Nat.reducePow, Nat.reduceAdd] at *; omega)
    have hm8 : L = 8 → m0 = 0 := by
      rintro rfl
      have hmk := HMK.out
      have hm0 := HM0.out
      simp only [VP.mark, Nat.reduceSub, Nat.reducePow, Nat.reduceAdd] at *; omega
    have HS : ∀ j, j ≤ L → VP.fold m0 ((rest bs (p + 1)).take j) < 18446744073709551616 ∧ (j < L → VP.fold m0 ((rest bs (p + 1)).take j) < 72057594037927936) := fun j hj =>
      fold_small m0 L j _ (fun b h => rest_lt bs HR.out.bytes (p + 1) b (List.mem_of_mem_take h)) (by rw [List.length_take]; have := HRL.out; have := HHD.out; omega) hj hL9 hm7 hm8
    have HSS := Lib.hid HS
    clear HS hm7 hm8
    have x1 := blk_cell hX4 1
    simp only [List.getElem?_toArray, List.getElem?_cons_zero, List.getElem?_cons_succ] at x1
    go_wp2
    all_goals
      go_loopw [7, 54] (fun c i wr => ∃ j : Nat, j ≤ L ∧ i = .int .i64 j ∧ Aside0 (Below X w2 wr) ∧ wr.heap[X]? = some (.cells #[.int .u64 (VP.fold m0 ((rest bs (p + 1)).take j) : Nat), .int .i64 ((L : Int) + 1), .func (.func 72) #[.pointer (some ⟨g, 0, none⟩)] #[]] 107 (0, 0)))
        (fun _ i _ => L - (intOf i).toNat)
      case atStart => exact ⟨0, Nat.zero_le _, rfl, HB, hX4⟩
      case round =>
        clear x1 hX4
        obtain ⟨j, hj, rfl, HBj, hXj⟩ := hrel
        have x0 := blk_cell hXj 0
        have x1 := blk_cell hXj 1
        have y0 := blk_frozen hXj 0
        simp only [List.getElem?_toArray, List.getElem?_cons_zero, List.getElem?_cons_succ] at x0 x1
        by_cases hlt2 : j < L
        · by_cases hz : cap - p = 1
          · exfalso; omega
          · have hpj : p + 1 + j < bs.length := by have := HHD.out; omega
            have hBw : Below w.heap.size w wr := below_then FF2.out.below FF2.out.below.size (by rw [HX2.out]; exact HBj.out)
            have hcj := pw_cell_below hBw (HC.out (p + 1 + j) hpj)
            have hyb := HR.out.bytes (bs.getD (p + 1 + j) 0) (by rw [List.getD_eq_getElem?_getD, List.getElem?_eq_getElem hpj]; exact List.getElem_mem hpj)
            have hnx : (rest bs (p + 1)).take (j + 1) = (rest bs (p + 1)).take j ++ [(bs.getD (p + 1 + j) 0).toNat] := by
              refine (take_next _ _ _ ?_).symm
              simp only [rest, List.getElem?_map, List.getElem?_drop]
              rw [List.getElem?_eq_getElem hpj, List.getD_eq_getElem?_getD, List.getElem?_eq_getElem hpj]
              rfl
            have hsm := (HSS.out j hj).2 hlt2
            have hor := or_u64 _ (bs.getD (p + 1 + j) 0).toNat hsm (by omega)
            rw [← fold_snoc, ← hnx, Int.toNat_of_nonneg hyb.1] at hor
            have HOR := Lib.hid hor
            clear hor hnx
            generalize bs.getD (p + 1 + j) 0 = y at *
            go_wp2
            all_goals
              go_roundw
              case rel =>
                refine ⟨j + 1, by omega, by go_num, Aside0.mk (HBj.out.setCell (Nat.le_refl _) _), ?_⟩
                rw [← HOR.out]
                have h := blk_set hXj 0 (.int .u64 (Go.bits .or .u64 (((VP.fold m0 ((rest bs (p + 1)).take j) : Nat) : Int) * 256) y))
                simp at h
                exact h
              case measure =>
                simp [intOf]
                omega
        · obtain rfl : j = L := by omega
          go_wp2
          have HN := Lib.hid (HSS.out j hj).1
          -- region 15: 6 operations: 0:fieldAddr 1:load 2:call 3:fieldAddr 4:load 5:binOp
          refine start_ (S := fun W' => W'.cell? ⟨X, 0, none⟩ = some (.int .u64 (VP.fold m0 ((rest bs (p + 1)).take j) : Nat)) ∧ W'.cell? ⟨X, 1, none⟩ = some (.int .i64 ((j : Int) + 1))) (ds := []) #[false, false, false, false, false, false] (by kernel_rfl) rfl rfl ⟨x0, x1⟩ (fun hHeld => ?_)
          refine pure_ (i := 0) (N := some 66) (v := ?_) (a' := ?_) #[true, false, false, false, false, false] rfl rfl (by kernel_rfl) (fun _ _ _ h => h) (Or.inl ⟨by rfl, ?_⟩) ?_ ?_
          rotate_left
          · intro w'
            go_simp
            with_reducible rfl
          rotate_left
          · simp only [Act.put, List.setIfInBounds_toArray, List.set_cons_zero, List.set_cons_succ]
            rfl
          refine pure_ (i := 3) (N := some 69) (v := ?_) (a' := ?_) #[true, false, false, true, false, false] rfl rfl (by kernel_rfl) (fun _ _ _ h => h) (Or.inl ⟨by rfl, ?_⟩) ?_ ?_
          rotate_left
          · intro w'
            go_simp
            with_reducible rfl
          rotate_left
          · simp only [Act.put, List.setIfInBounds_toArray, List.set_cons_zero, List.set_cons_succ]
            rfl
          refine take_ (i := 1) (N := some 67) (v := ?_) (a' := ?_) #[true, true, false, true, false, false] rfl rfl (by kernel_rfl) (fun _ _ _ h => h) (Or.inl ⟨by rfl, ?_⟩) hHeld ?_ ?_
          rotate_left
          · rintro w' ⟨h1, h2⟩
            go_simp
            with_reducible rfl
          rotate_left
          · simp only [Act.put, List.setIfInBounds_toArray, List.set_cons_zero, List.set_cons_succ]
            rfl
          refine take_ (i := 4) (N := some 70) (v := ?_) (a' := ?_) #[true, true, false, true, true, false] rfl rfl (by kernel_rfl) (fun _ _ _ h => h) (Or.inl ⟨by rfl, ?_⟩) hHeld ?_ ?_
          rotate_left
          · rintro w' ⟨h1, h2⟩
            go_simp
            with_reducible rfl
          rotate_left
          · simp only [Act.put, List.setIfInBounds_toArray, List.set_cons_zero, List.set_cons_succ]
            rfl
          refine one_ (i := 2) (N := some 68) #[true, true, true, true, true, false] rfl rfl (by kernel_rfl) (by decide) (fun K hK => ?_)
          refine goes_ Tryd.func67 (by kernel_rfl) rfl #[.int .u64 (VP.fold m0 ((rest bs (p + 1)).take j) : Nat)] (by rfl) rfl rfl (by simp only [List.map_toArray, List.map_cons, List.map_nil]; rfl) ?_
          refine (Width_any _ HN.out _).mono ?_
          rintro e w' ⟨rfl, rfl⟩
          refine ⟨_, rfl, ?_⟩
          refine hK.out _ _ ⟨x0, x1⟩ (fun hHeld => ?_)
          clear hK K
          refine norm_ (a' := ?_) ?_ ?_
          rotate_left
          · show Act.put _ (some 68) _ = _
            simp only [Act.put, List.setIfInBounds_toArray, List.set_cons_zero, List.set_cons_succ]
            rfl
          refine pure_ (i := 5) (N := some 71) (v := ?_) (a' := ?_) #[true, true, true, true, true, true] rfl rfl (by kernel_rfl) (fun _ _ _ h => h) (Or.inl ⟨by rfl, ?_⟩) ?_ ?_
          rotate_left
          · intro w'
            go_simp
            with_reducible rfl
          rotate_left
          · simp only [Act.put, List.setIfInBounds_toArray, List.set_cons_zero, List.set_cons_succ]
            rfl
          refine done_ (by kernel_rfl) ?_
          have hBw : Below w.heap.size w wr.drew := below_drew (below_then FF2.out.below FF2.out.below.size (by rw [HX2.out]; exact HBj.out))
          have F5 : FAt w wr.drew g b cap bs.length p x := FF2.out.later (by rw [HX2.out]; exact below_drew HBj.out)
          have hX5 : wr.drew.heap[X]? = some (.cells #[.int .u64 (VP.fold m0 ((rest bs (p + 1)).take j) : Nat), .int .i64 ((j : Int) + 1), .func (.func 72) #[.pointer (some ⟨g, 0, none⟩)] #[]] 107 (0, 0)) := hXj
          clear x0 x1 y0 hXj HBj hHeld
          generalize wr.drew = w5 at *
          have x0 := blk_cell hX5 0
          have x1 := blk_cell hX5 1
          have x2 := blk_cell hX5 2
          simp only [List.getElem?_toArray, List.getElem?_cons_zero, List.getElem?_cons_succ] at x0 x1 x2
          obtain ⟨⟨q0, q1, q2⟩, z0, z1, z2⟩ := F5.cells
          have e0 : look (rest bs p) = if VP.wid (VP.fold m0 ((rest bs (p + 1)).take j)) = j + 1 then (VP.fold m0 ((rest bs (p + 1)).take j), j + 1, 0) else (0, 0, 11) := by
            rw [HRE.out, look_cons, HLD.out, HRL.out, HHD.out, if_neg hsh, Nat.add_sub_cancel, HM0.out]
          have HE := Lib.hid e0
          clear e0
          by_cases hw : VP.wid (VP.fold m0 ((rest bs (p + 1)).take j)) = j + 1
          · have hb1 : ((VP.wid (VP.fold m0 ((rest bs (p + 1)).take j)) : Int) != (j : Int) + 1) = false := by rw [hw]; simp
            have hb2 : ((VP.wid (VP.fold m0 ((rest bs (p + 1)).take j)) : Int) == (j : Int) + 1) = true := by rw [hw]; simp
            have HW := Lib.hid hw
            clear hw
            go_wp2
            rw [HE.out, if_pos HW.out]
            exact bodyPost_ret (v := .tuple #[.agg #[.int .u64 (VP.fold m0 ((rest bs (p + 1)).take j) : Nat), .int .i64 ((j : Int) + 1), .func (.func 72) #[.pointer (some ⟨g, 0, none⟩)] #[]], .int .i64 0]) (by simp [results, Tryd.results52, go_sem, q0, q1, q2]) rfl ⟨by simp [foundV], ((hBw.setCell (by simp) _).setCell (by simp) _).setCell (by simp) _⟩
          · have hb1 : ((VP.wid (VP.fold m0 ((rest bs (p + 1)).take j)) : Int) != (j : Int) + 1) = true := by simp; omega
            have hb2 : ((VP.wid (VP.fold m0 ((rest bs (p + 1)).take j)) : Int) == (j : Int) + 1) = false := by simp; omega
            have HW := Lib.hid hw
            clear hw
            go_wp2
            rw [HE.out, if_neg HW.out]
            exact bodyPost_ret (v := .tuple #[.agg #[.int .u64 0, .int .i64 0, .nilFunc], .int .i64 11]) (by simp [results, Tryd.results52, go_sem, q0, q1, q2]) rfl ⟨by simp [foundV], ((hBw.setCell (by simp) _).setCell (by simp) _).setCell (by simp) _⟩

theorem find_any (w : World) (g base : Nat) (v : Value) (bs : List Int) (p : Nat) (hR : ReelIs w g base v bs p) :
    Calls Tryd.prog 52 #[.pointer (some ⟨g, 0, none⟩)] w fun e w' => e = .returned (.tuple #[foundV g (look (rest bs p)), .int .i64 (look (rest bs p)).2.2]) ∧ Below w.heap.size w w' := by
  by_cases hlt : p < bs.length
  · rcases hR.own.2 with ⟨rfl, h0⟩ | ⟨b, cap, cur, rfl, _⟩
    · omega
    · exact find_some w g base b cap bs p hR hlt
  · have hle := hR.le
    obtain rfl : p = bs.length := by omega
    have e : look (rest bs bs.length) = (0, 0, 10) := by simp [rest, look]
    rw [e]
    exact find_end w g base v bs hR
end Go.Proofs.YtamagdnlicnefaaDoor
