/- Opcode: Read. -/
import Derived.Test.YtamagdnlicnefaaGreatDoorKnOi
import Derived.Test.YtamagdnlicnefaaGreatDoorKnSc
namespace Go.Proofs.YtamagdnlicnefaaGreatDoor
open Go.RowKit Go.Shelf Go.Proofs.YtamagdnlicnefaaGreatDoorW.PrintWords Go.Proofs.YtamagdnlicnefaaGreatDoorW.PrintLast Go.Proofs.YtamagdnlicnefaaGreatDoorW.PrintMore
attribute [local go_sem] Oper.semAt_some wide_fn2 wide_depth2

structure RVars (W : World) : Prop where
  tabs : Tabs W
  errs : Errs W
  len : ∃ m, W.cell? ⟨0, 0, none⟩ = some (.int .i64 m)
theorem RVars.below {w w' : World} (h : RVars w) (hb : Below w.heap.size w w') : RVars w' := ⟨h.tabs.below hb, h.errs.below hb, by obtain ⟨m, hm⟩ := h.len; exact ⟨m, pw_cell_below hb hm⟩⟩
structure Pcs (W : World) (sp N : Nat) (s : ByteArray) : Prop where
  blk : W.heap[sp]? = some (.cells ((Lib.splitB ⟨#[32]⟩ 0 (Lib.countB s ⟨#[32]⟩) s).map Value.string).toArray 9 (0, 0))
  len : N = (Lib.split s.data.toList [32]).length
  le : N ≤ 1000001
  pos : 1 ≤ N
  small : s.size ≤ 1000000
theorem splitK_le (sep : List UInt8) : ∀ (k : Nat) (s : List UInt8), ∀ p ∈ Lib.splitK sep 0 k s, p.length ≤ s.length := by
  intro k
  induction k with
  | zero => intro s p hp; rw [List.mem_singleton.1 hp]; exact Nat.le_refl _
  | succ k ih =>
    intro s p hp
    unfold Lib.splitK at hp
    split at hp
    · rw [List.mem_singleton.1 hp]; exact Nat.le_refl _
    · rcases List.mem_cons.1 hp with rfl | hp
      · exact List.length_take_le' _ _
      · have := ih _ p hp
        rw [List.length_drop] at this
        omega
theorem Pcs.cell {W : World} {sp N i : Nat} {s : ByteArray} (h : Pcs W sp N s) (hi : i < N) : ∃ sk : ByteArray, W.cell? ⟨sp, i, none⟩ = some (.string sk) ∧ (Lib.split s.data.toList [32])[i]? = some sk.data.toList ∧ sk.size ≤ 1000000 := by
  have hd : (Lib.splitB ⟨#[32]⟩ 0 (Lib.countB s ⟨#[32]⟩) s).map (·.data.toList) = Lib.split s.data.toList [32] := Lib.splitB_data ⟨#[32]⟩ 0 _ s
  have hl : i < (Lib.splitB ⟨#[32]⟩ 0 (Lib.countB s ⟨#[32]⟩) s).length := by
    have := congrArg List.length hd
    rw [List.length_map] at this
    have := h.len
    omega
  obtain ⟨sk, hsk⟩ : ∃ sk, (Lib.splitB ⟨#[32]⟩ 0 (Lib.countB s ⟨#[32]⟩) s)[i]? = some sk := ⟨_, List.getElem?_eq_getElem hl⟩
  have hs2 : (Lib.split s.data.toList [32])[i]? = some sk.data.toList := by rw [← hd, List.getElem?_map, hsk]; rfl
  refine ⟨sk, ?_, hs2, ?_⟩
  · have := blk_cell h.blk i
    rw [this, List.getElem?_toArray, List.getElem?_map, hsk]; rfl
  · have h1 := splitK_le [32] _ _ _ (List.mem_of_getElem? hs2)
    have h2 := h.small
    have e1 : sk.data.toList.length = sk.size := Array.length_toList
    have e2 : s.data.toList.length = s.size := Array.length_toList
    omega
theorem Pcs.fr {X Y : World} {S : Nat → Prop} {sp N : Nat} {s : ByteArray} (h : Pcs X sp N s) (hf : Fr S X Y) (hs : ¬ S sp) : Pcs Y sp N s := ⟨hf.at h.blk hs, h.len, h.le, h.pos, h.small⟩
theorem Split39_any (s : ByteArray) (w : World) (hs : s.size ≤ 1000000) (hV : RVars w) : Calls Tryz.prog 43 #[.string s, .string ⟨#[32]⟩] w fun e w' => ∃ N, e = .returned (.slice (some ⟨w.heap.size, 0, none⟩) N N) ∧ Pcs w' w.heap.size N s ∧ Below w.heap.size w w' := by
  obtain ⟨m, hm⟩ := hV.len
  refine (Tryz.strings_Split s ⟨#[32]⟩ m w (by omega) hm (by decide)).mono ?_
  rintro e w' ⟨rfl, rfl⟩
  refine ⟨_, rfl, ⟨World.alloc_heap_new w _, ?_, ?_, by omega, hs⟩, below_alloc (Below.refl _ _) _⟩
  · have hd : (Lib.splitB ⟨#[32]⟩ 0 (Lib.countB s ⟨#[32]⟩) s).map (·.data.toList) = Lib.split s.data.toList [32] := Lib.splitB_data ⟨#[32]⟩ 0 _ s
    rw [← hd, List.length_map, Lib.splitB_all ⟨#[32]⟩ (by decide) 0 _ _ rfl]
  · have := Lib.countB_le ⟨#[32]⟩ (by decide) s.size s (Nat.le_refl _)
    omega
theorem field57_3 (a b : Int) (f g : Fn) (x y c d : Array _) (w : World) : (Instr.field 68 (.agg #[.int .i64 a, .int .i64 b, .func f x c, .func g y d]) 3).run Tryz.prog w = .ok (.func g y d) w := by
  simp [Instr.field, run_underlying Tryz.underlying68, part, isAgg, asAgg, go_sem]
theorem FunsAt.named3 {W : World} {k : Nat} {sh rd : Value} (h : FunsAt W k sh rd) (hk : isNamed k = true) : ∃ b, sh = .func (.func 89) #[] #[.pointer (some ⟨b + 2, 0, none⟩)] ∧ rd = .func (.func 88) #[] #[.pointer (some ⟨b, 0, none⟩), .pointer (some ⟨b + 1, 0, none⟩), .pointer (some ⟨b + 2, 0, none⟩)] ∧
    Hid (W.heap[b]? = some (.cells #[.int .i64 (lo k)] 3 (0, 0)) ∧ W.heap[b + 1]? = some (.cells #[.int .i64 (hi k + 1)] 3 (0, 0)) ∧ W.heap[b + 2]? = some (.cells #[.func (.func (nameF k)) #[] #[]] 45 (0, 0))) := by
  unfold FunsAt at h
  rw [if_pos hk] at h
  obtain ⟨b, h1, h2, h3⟩ := h
  exact ⟨b, h1, h2, Lib.hid h3⟩
theorem readV_named (kk b : Nat) (s : ByteArray) (w : World) (hk : isNamed kk = true) (hV : RVars w) (h : Hid (w.heap[b]? = some (.cells #[.int .i64 (lo kk)] 3 (0, 0)) ∧ w.heap[b + 1]? = some (.cells #[.int .i64 (hi kk + 1)] 3 (0, 0)) ∧ w.heap[b + 2]? = some (.cells #[.func (.func (nameF kk)) #[] #[]] 45 (0, 0)))) :
    Calls Tryz.prog 88 #[.string s, .pointer (some ⟨b, 0, none⟩), .pointer (some ⟨b + 1, 0, none⟩), .pointer (some ⟨b + 2, 0, none⟩)] w fun e w' => ∃ n ok, e = .returned (.tuple #[.int .i64 n, .bool ok]) ∧ RdI kk s n ∧ Below w.heap.size w w' := by
  refine (read63_any kk b s w hk hV.tabs h.out.1 h.out.2.1 h.out.2.2).mono ?_
  rintro e w' ⟨n, ok, rfl, h1, h2⟩
  exact ⟨n, ok, rfl, rdI_named h1, h2⟩
theorem readV_num (kk : Nat) (s : ByteArray) (w : World) (hk : isNamed kk = false) (h10 : kk ≤ 10) (hs : s.size ≤ 1000000) (hV : RVars w) : Calls Tryz.prog 84 #[.string s] w fun e w' => ∃ n ok, e = .returned (.tuple #[.int .i64 n, .bool ok]) ∧ RdI kk s n ∧ Below w.heap.size w w' := by
  refine (read59_any s w hs hV.errs).mono ?_
  rintro e w' ⟨ok, rfl, h2⟩
  exact ⟨_, ok, rfl, rdI_num s hk h10, h2⟩
structure RdW (w : World) (s : ByteArray) (N b4 sp bx : Nat) (op : Int) (pre : List (Nat × Nat)) (W : World) : Prop where
  res : W.heap[w.heap.size]? = some (.cells #[.int .i64 0, .int .i64 0, .int .i64 0] 23 (0, 0))
  l : W.heap[b4]? = some (.cells #[.slice (some ⟨sp, 0, none⟩) N N] 48 (0, 0))
  pcs : Pcs W sp N s
  x : ∃ A B, XAt W bx op A B ∧ RdC s op A B pre
  cnt : W.heap[bx + 1]? = some (.cells #[.int .i64 pre.length] 3 (0, 0))
  below : Below w.heap.size w W
theorem RdW.fr {w : World} {s : ByteArray} {N b4 sp bx : Nat} {op : Int} {pre : List (Nat × Nat)} {X Y : World} {S : Nat → Prop} (h : RdW w s N b4 sp bx op pre X) (hf : Fr S X Y) (h1 : w.heap.size < bx) (h2 : b4 < bx) (h3 : sp < bx) (hS : ∀ i, S i → bx + 2 ≤ i) : RdW w s N b4 sp bx op pre Y := by
  obtain ⟨A, B, hx, hc⟩ := h.x
  exact ⟨hf.at h.res (fun h' => by have := hS _ h'; omega), hf.at h.l (fun h' => by have := hS _ h'; omega), h.pcs.fr hf (fun h' => by have := hS _ h'; omega), ⟨A, B, hf.at hx (fun h' => by have := hS _ h'; omega), hc⟩, hf.at h.cnt (fun h' => by have := hS _ h'; omega),
    h.below.trans (hf.below h.below.size (fun i hi h' => by have := hS _ h'; omega))⟩
def ReadPost (w : World) (s : ByteArray) (e : Ending) (w' : World) : Prop := ∃ op a b c : Int, e = .returned (.tuple #[.agg #[.int .i64 op, .int .i64 a, .int .i64 b], .int .i64 c]) ∧ ReadIs s op a b c ∧ Below w.heap.size w w'
theorem set3f {w W : World} {x y z u0 u1 u2 : Value} (h : W.heap[w.heap.size]? = some (.cells #[x, y, z] 23 (0, 0))) (hb : Below w.heap.size w W) :
    (((W.setCell ⟨w.heap.size, 0, none⟩ u0).setCell ⟨w.heap.size, 1, none⟩ u1).setCell ⟨w.heap.size, 2, none⟩ u2).heap[w.heap.size]? = some (.cells #[u0, u1, u2] 23 (0, 0)) ∧ Below w.heap.size w (((W.setCell ⟨w.heap.size, 0, none⟩ u0).setCell ⟨w.heap.size, 1, none⟩ u1).setCell ⟨w.heap.size, 2, none⟩ u2) ∧ Fr (fun i => i = w.heap.size) W (((W.setCell ⟨w.heap.size, 0, none⟩ u0).setCell ⟨w.heap.size, 1, none⟩ u1).setCell ⟨w.heap.size, 2, none⟩ u2) := by
  obtain ⟨h1, h2⟩ := set3 (u0 := u0) (u1 := u1) (u2 := u2) h
  exact ⟨h1, hb.trans (h2.below hb.size (fun i hi e => by omega)), h2⟩
set_option maxRecDepth 100000 in
set_option maxHeartbeats 8000000 in
theorem Read19_any (s : ByteArray) (w : World) (hs : s.size ≤ 1000000) (hV : RVars w) : Calls Tryz.prog 19 #[.string s] w (ReadPost w s) := by
  have HV := Lib.hid hV
  have HSP : Hid (∀ W, Below w.heap.size w W → Calls Tryz.prog 43 #[.string s, .string ⟨#[32]⟩] W fun e w' => ∃ N, e = .returned (.slice (some ⟨W.heap.size, 0, none⟩) N N) ∧ Pcs w' W.heap.size N s ∧ Below W.heap.size W w') := Lib.hid (fun W hW => Split39_any s W hs (hV.below hW))
  clear hV hs
  refine (callsIn_wide (n := 9)).1 ?_
  refine callsIn_of_wp_marks Tryz.func19 rfl trivial ?_ rfl
  simp only [Tryz.ntmps19, List.size_toArray, List.length_cons, List.length_nil, Nat.reduceAdd, Nat.reduceSub, Array.replicate_succ, Array.replicate_zero, List.push_toArray, List.append_toArray, List.nil_append, List.cons_append]
  have hB0 := below_alloc (Below.refl w.heap.size w) (.cells #[.int .i64 0, .int .i64 0, .int .i64 0] 23)
  have hx0 := World.alloc_heap_new w (.cells #[.int .i64 0, .int .i64 0, .int .i64 0] 23)
  have hs0 : (w.alloc (.cells #[.int .i64 0, .int .i64 0, .int .i64 0] 23)).heap.size = w.heap.size + 1 := by simp
  have HB0 := Lib.hid hB0
  have HX0 := Lib.hid hx0
  have HS0 := Lib.hid hs0
  clear hB0 hx0 hs0
  gi_wp2_with (gi_at_call 43; fail)
  refine (callsIn_wide.2 (HSP.out _ HB0.out)).mono ?_
  rw [HS0.out]
  rintro e w1 ⟨N, rfl, hp1, hb1⟩
  have hs1 : w.heap.size + 1 < w1.heap.size := blk_lt hp1.blk
  have hx1 := (hb1.block w.heap.size (by omega)).trans HX0.out
  have HB1 := Lib.hid (HB0.out.trans (hb1.mono (by omega)))
  obtain ⟨sk0, hc0, hk0, hz0⟩ := hp1.cell hp1.pos
  have hN := hp1.pos
  have hN2 := hp1.le
  have HX1 := Lib.hid hx1
  have HP1 := Lib.hid hp1
  have HK0 := Lib.hid hk0
  clear hx1 hp1 hb1 HX0 HB0 HS0 HSP hk0 hz0
  have hb2 : Below w1.heap.size w1 (w1.alloc (.cells #[.slice (some ⟨w.heap.size + 1, 0, none⟩) N N] 48)) := below_alloc (Below.refl _ _) _
  have hl2 := World.alloc_heap_new w1 (.cells #[.slice (some ⟨w.heap.size + 1, 0, none⟩) N N] 48)
  have HB2 := Lib.hid hb2
  have HL2 := Lib.hid hl2
  have HOF := Lib.hid (Of40_any sk0)
  clear hb2 hl2
  gi_wp2_with (gi_at_call 14; fail)
  refine (callsIn_wide.2 (HOF.out _)).mono ?_
  rintro e w2 ⟨r, c, rfl, hof, hb2⟩
  have hx2 := ((HB2.out.trans (hb2.mono HB2.out.size)).block _ (blk_lt HX1.out)).trans HX1.out
  have hl2 := (hb2.block _ (blk_lt HL2.out)).trans HL2.out
  have hp2 : Pcs w2 (w.heap.size + 1) N s := (HP1.out.fr (S := fun _ => False) (Fr.of_below HB2.out) id).fr (S := fun _ => False) (Fr.of_below hb2) id
  have HB3 := Lib.hid (HB1.out.trans (((HB2.out.trans (hb2.mono HB2.out.size))).mono HB1.out.size))
  have hs2 : w1.heap.size < w2.heap.size := blk_lt hl2
  have HX2 := Lib.hid hx2
  have HL2' := Lib.hid hl2
  have HP2 := Lib.hid hp2
  clear hx2 hl2 hp2 hb2 HB2 HL2 HOF HX1 HP1 HB1 hc0
  have hof' := hof
  rcases hof with ⟨k, hk, rfl, rfl, hsk⟩ | ⟨rfl, rfl, hno⟩
  rotate_left
  · have HR : Hid (ReadIs s 0 0 0 40) := Lib.hid (readIs_of HK0.out hof')
    have y0 := blk_cell HX2.out 0
    have y1 := blk_cell HX2.out 1
    have y2 := blk_cell HX2.out 2
    have f0 := blk_frozen HX2.out 0
    have f1 := blk_frozen HX2.out 1
    have f2 := blk_frozen HX2.out 2
    simp only [List.getElem?_toArray, List.getElem?_cons_zero, List.getElem?_cons_succ] at y0 y1 y2
    obtain ⟨z1, z2, _⟩ := set3f (u0 := .int .i64 0) (u1 := .int .i64 0) (u2 := .int .i64 0) HX2.out HB3.out
    have Z1 := Lib.hid z1
    have Z2 := Lib.hid z2
    clear z1 z2 hof' hno
    gi_wp2
    refine ⟨_, results_ct rfl _ _ _ w.heap.size _ rfl (run_loadVar_row _ _ 23 23 _ (0, 0) _ Z1.out Tryz.underlying23 rfl (by kernel_rfl)), ?_⟩
    exact ⟨_, _, _, _, rfl, HR.out, Z2.out⟩
  clear hof'
  have HSK := Lib.hid hsk
  clear hsk
  have hw3 := below_alloc (below_alloc (Below.refl w2.heap.size w2) (.cells #[.int .i64 k, .int .i64 0, .int .i64 0] 23)) (.cells #[.int .i64 0] 3)
  have hx3 : XAt ((w2.alloc (.cells #[.int .i64 k, .int .i64 0, .int .i64 0] 23)).alloc (.cells #[.int .i64 0] 3)) w2.heap.size k 0 0 := (Below.heap_alloc _ _ _ (by simp)).trans (World.alloc_heap_new w2 _)
  have hc3 : ((w2.alloc (.cells #[.int .i64 k, .int .i64 0, .int .i64 0] 23)).alloc (.cells #[.int .i64 0] 3)).heap[w2.heap.size + 1]? = some (.cells #[.int .i64 0] 3 (0, 0)) := by
    have := World.alloc_heap_new (w2.alloc (.cells #[.int .i64 k, .int .i64 0, .int .i64 0] 23)) (.cells #[.int .i64 0] 3)
    rw [World.size_alloc] at this
    exact this
  have hs3 : ((w2.alloc (.cells #[.int .i64 k, .int .i64 0, .int .i64 0] 23)).alloc (.cells #[.int .i64 0] 3)).heap.size = w2.heap.size + 2 := by simp
  have HW3 := Lib.hid hw3
  have HX3 := Lib.hid hx3
  have HC3 := Lib.hid hc3
  have HS3 := Lib.hid hs3
  clear hw3 hx3 hc3 hs3
  gi_wp2_with (gi_at_call 44; fail)
  generalize (w2.alloc (.cells #[.int .i64 k, .int .i64 0, .int .i64 0] 23)).alloc (.cells #[.int .i64 0] 3) = w3 at *
  refine (callsIn_wide.2 (operands26_any w2.heap.size k 0 0 w3 HX3.out)).mono ?_
  rintro e w4 ⟨bb, bs, rfl, hbo4, hbb, hbs, hb4⟩
  have h34 := hb4.size
  rw [HS3.out] at hbb hbs h34
  have hF4 : Fr (fun _ => False) w2 w4 := Fr.of_below (HW3.out.trans (hb4.mono HW3.out.size))
  have hin : RdW w s N w1.heap.size (w.heap.size + 1) w2.heap.size k [] w4 :=
    ⟨hF4.at HX2.out id, hF4.at HL2'.out id, HP2.out.fr hF4 id, ⟨0, 0, (Fr.of_below hb4).at HX3.out (S := fun _ => False) id, RdC.nil s k⟩, (Fr.of_below hb4).at HC3.out (S := fun _ => False) id, HB3.out.trans (hF4.below HB3.out.size (fun i hi h => h.elim))⟩
  have hbb4 := blk_lt hbo4.1
  have hbs4 := blk_lt hbo4.2
  have HIN := Lib.hid hin
  have HBO := Lib.hid hbo4
  clear hin hbo4 hb4 hF4 HW3 HX3 HC3 HS3 HX2 HL2' HP2 HB3
  gi_wp2
  refine range_ga rfl (by omega) (gf := 64) (lb := #[.pointer (some ⟨bb, 0, none⟩)]) rfl trivial (enters_of Tryz.func64 (by kernel_rfl) rfl)
    (operands47_seq (9 - 1) bb bs w2.heap.size (ka k) (kb k) (w4.heap.size + 2) w4 HBO.out) (by omega) (by omega) (fun _ => rfl)
    (RdW w s N w1.heap.size (w.heap.size + 1) w2.heap.size k) (fun _ _ _ => False) ?hI (fun _ _ _ _ h _ => h) HIN.out (fun _ _ _ _ h _ => h)
    (fun x a' W => ∃ bo, w4.heap.size + 2 ≤ bo ∧ W.heap[bo]? = some (.cells #[.int .i64 x.1, .pointer (some ⟨w2.heap.size, x.2, none⟩)] 81 (0, 0)) ∧
      a' = { tmps := #[.string s, undef, .pointer (some ⟨w.heap.size, 0, none⟩), .int .i64 0, .pointer (some ⟨w1.heap.size, 0, none⟩), .int .i64 k, .int .i64 0, .pointer (some ⟨w2.heap.size, 0, none⟩), .pointer (some ⟨w2.heap.size + 1, 0, none⟩), .pointer (some ⟨bo, 0, none⟩), .string s, .slice (some ⟨w.heap.size + 1, 0, none⟩) N N, .tuple #[.int .i64 k, .int .i64 0], .slice (some ⟨w.heap.size + 1, 0, none⟩) N N, .pointer (some ⟨w.heap.size + 1, 0, none⟩), .string sk0, .tuple #[.int .i64 k, .int .i64 0], .int .i64 k, .int .i64 0, .int .i64 0, .bool false, undef, undef, .int .i64 k, .agg #[.int .i64 k, .int .i64 0, .int .i64 0], .func (.func 64) #[] #[.pointer (some ⟨bb, 0, none⟩)], .agg #[.int .i64 x.1, .pointer (some ⟨w2.heap.size, x.2, none⟩)], undef, undef, undef, undef, undef, undef, undef, undef, undef, undef, undef, undef, undef, undef, undef, undef, undef, undef, undef, undef, undef, undef, undef, undef, undef, undef, undef], defers := [] }) ?hAx ?hassign ?hbody ?hdone ?hstop
  case hI =>
    rintro pre X Y h hf
    exact h.fr hf (by omega) (by omega) (by omega) (fun i hi => by rcases hi with (h | h) | h | h <;> omega)
  case hAx =>
    rintro x a' X Y ⟨bo, h1, h2, h3⟩ hf
    exact ⟨bo, h1, hf.at h2 (fun h => by omega), h3⟩
  case hassign =>
    rintro l pre ⟨kk, o⟩ W K hW _ hK
    unfold opEnc
    gi_wp2
    exact hK _ _ (below_alloc (Below.refl _ _) _) ⟨_, hW, World.alloc_heap_new W _, rfl⟩
  case hstop => intro _ _ _ _ h _; exact h.elim
  case hbody =>
    rintro l pre ⟨kk, o⟩ a' W hW hR hadm ⟨bo, hbo, hco, rfl⟩
    simp only at hco hadm ⊢
    obtain ⟨A, B, hX, hC⟩ := hR.x
    have hcnt := hR.cnt
    have hl := hR.l
    have hpl := hadm.length_le
    have hj2 : pre.length ≤ 1 := by
      have : (opsL (ka k) (kb k)).length ≤ 2 := by
        unfold opsL
        split <;> split <;> simp
      rw [List.length_append, List.length_singleton] at hpl
      omega
    obtain ⟨hq1, ho⟩ := ops_pre hadm
    simp only at hq1 ho
    have hkk : kk ≤ 10 := by
      rcases opsL_mem (hadm.subset (List.mem_append_right _ (List.mem_singleton.2 rfl))) with ⟨h, _⟩ | ⟨h, _⟩ <;> injection h with h1 h2 <;> subst h1
      · exact ka_le _
      · exact kb_le _
    have c0 := blk_cell hcnt 0
    have f0 := blk_frozen hcnt 0
    have c1 := blk_cell hl 0
    simp only [List.getElem?_toArray, List.getElem?_cons_zero] at c0 c1
    have hb1x : (⟨w1.heap.size, 0, none⟩ : Addr) ≠ ⟨w2.heap.size + 1, 0, none⟩ := by intro e; injection e with e _ _; omega
    have hlen : (pre ++ [(kk, o)]).length = pre.length + 1 := by simp
    have hF1 : ∀ v, Fr (fun i => i = w2.heap.size + 1) W (W.setCell ⟨w2.heap.size + 1, 0, none⟩ v) := fun v => Fr.set (Fr.refl _ _) _ _ (fun _ => rfl)
    have hc2 : (W.setCell ⟨w2.heap.size + 1, 0, none⟩ (.int .i64 (pre.length + 1))).heap[w2.heap.size + 1]? = some (.cells #[.int .i64 ((pre.length + 1 : Nat) : Int)] 3 (0, 0)) := by
      have := blk_set hcnt 0 (.int .i64 (pre.length + 1))
      simpa using this
    by_cases hlt : pre.length + 1 < N
    · obtain ⟨sk, hsc, hsp, hsz⟩ := hR.pcs.cell hlt
      have HEND : Hid (∀ W2 n, Below W.heap.size (W.setCell ⟨w2.heap.size + 1, 0, none⟩ (.int .i64 (pre.length + 1))) W2 → RdI kk sk n → Kept2 w4.heap.size W (W2.setCell ⟨w2.heap.size, o, none⟩ (.int .i64 n)) ∧ KpO (fun i => i = bb ∨ i = bs) W (W2.setCell ⟨w2.heap.size, o, none⟩ (.int .i64 n)) ∧ RdW w s N w1.heap.size (w.heap.size + 1) w2.heap.size k (pre ++ [(kk, o)]) (W2.setCell ⟨w2.heap.size, o, none⟩ (.int .i64 n))) := Lib.hid (fun W2 n hW2 hn => by
        have hS1 := hF1 (.int .i64 (pre.length + 1))
        have hf2 : Fr (fun i => i = w2.heap.size) (W.setCell ⟨w2.heap.size + 1, 0, none⟩ (.int .i64 (pre.length + 1))) (W2.setCell ⟨w2.heap.size, o, none⟩ (.int .i64 n)) := (Fr.of_below (by simpa using hW2)).set _ _ (fun _ => rfl)
        have hf3 : Fr (fun i => i = w2.heap.size ∨ i = w2.heap.size + 1) W (W2.setCell ⟨w2.heap.size, o, none⟩ (.int .i64 n)) := (hS1.mono (fun _ _ h => .inr h)).trans hf2 (fun _ _ h => .inl h)
        have hX2 : W2.heap[w2.heap.size]? = some (.cells #[.int .i64 k, .int .i64 A, .int .i64 B] 23 (0, 0)) := (Fr.of_below (S := fun _ => False) (by simpa using hW2)).at (hS1.at hX (by omega)) id
        have hX3 : XAt (W2.setCell ⟨w2.heap.size, o, none⟩ (.int .i64 n)) w2.heap.size k (setO A B o n).1 (setO A B o n).2 := by
          have := blk_set hX2 o (.int .i64 n)
          unfold XAt
          rcases ho with rfl | rfl
          · simpa [setO] using this
          · simpa [setO] using this
        refine ⟨⟨hf3.block _ (by omega) (by omega), hf3.block _ (by omega) (by omega)⟩, KpO.of_fr hf3 (fun i hi h => by rcases hi with hi | hi <;> omega), ⟨hf3.at hR.res (by omega), hf3.at hl (by omega), hR.pcs.fr hf3 (by omega), ⟨_, _, hX3, hC.hit hadm hsp hn⟩, ?_, hR.below.trans (hf3.below hR.below.size (fun i hi h => by omega))⟩⟩
        rw [hlen]
        exact hf2.at hc2 (by omega))
      have HQ : Hid (∀ W2, Below W.heap.size (W.setCell ⟨w2.heap.size + 1, 0, none⟩ (.int .i64 (pre.length + 1))) W2 → W2.cell? ⟨bo, 1, none⟩ = some (.pointer (some ⟨w2.heap.size, o, none⟩)) ∧ W2.cell? ⟨bo, 0, none⟩ = some (.int .i64 kk) ∧ W2.cell? ⟨w1.heap.size, 0, none⟩ = some (.slice (some ⟨w.heap.size + 1, 0, none⟩) N N) ∧ W2.cell? ⟨w2.heap.size + 1, 0, none⟩ = some (.int .i64 (pre.length + 1)) ∧ W2.cell? ⟨w.heap.size + 1, pre.length + 1, none⟩ = some (.string sk)) := Lib.hid (fun W2 hW2 => by
        have hf2 : Fr (fun _ => False) (W.setCell ⟨w2.heap.size + 1, 0, none⟩ (.int .i64 (pre.length + 1))) W2 := Fr.of_below (by simpa using hW2)
        have hS1 := hF1 (.int .i64 (pre.length + 1))
        have g1 := hf2.at (hS1.at hco (by omega)) id
        have g2 := hf2.at (hS1.at hl (by omega)) id
        have g3 := hf2.at hc2 id
        have g4 := (hR.pcs.fr hS1 (by omega)).fr hf2 id
        obtain ⟨sk', hs1', hs2', _⟩ := g4.cell hlt
        rw [hsp] at hs2'
        have : sk' = sk := by
          injection hs2' with hs2'
          obtain ⟨⟨a⟩⟩ := sk
          obtain ⟨⟨b⟩⟩ := sk'
          simp only at hs2'
          rw [hs2']
        rw [this] at hs1'
        have g3' := blk_cell g3 0
        simp only [List.getElem?_toArray, List.getElem?_cons_zero] at g3'
        refine ⟨blk_cell g1 1, blk_cell g1 0, blk_cell g2 0, ?_, hs1'⟩
        rw [g3']
        simp)
      have HFZ : Hid (∀ W2, Below W.heap.size (W.setCell ⟨w2.heap.size + 1, 0, none⟩ (.int .i64 (pre.length + 1))) W2 → W2.frozen? ⟨w2.heap.size, o, none⟩ = false ∧ (W2.cell? ⟨w2.heap.size, o, none⟩).isSome = true) := Lib.hid (fun W2 hW2 => by
        have hX2 : W2.heap[w2.heap.size]? = some (.cells #[.int .i64 k, .int .i64 A, .int .i64 B] 23 (0, 0)) := (Fr.of_below (S := fun _ => False) (by simpa using hW2)).at ((hF1 _).at hX (by omega)) id
        refine ⟨blk_frozen hX2 o, ?_⟩
        have := blk_cell hX2 o
        rw [this]
        rcases ho with rfl | rfl <;> rfl)
      have HOF := Lib.hid (of23_at kk hkk)
      have HVV : Hid (∀ W2, Below W.heap.size (W.setCell ⟨w2.heap.size + 1, 0, none⟩ (.int .i64 (pre.length + 1))) W2 → RVars W2) := Lib.hid (fun W2 hW2 => by
        have hb := hR.below
        have hS1 := hF1 (.int .i64 (pre.length + 1))
        have h1 : Below w.heap.size w (W.setCell ⟨w2.heap.size + 1, 0, none⟩ (.int .i64 (pre.length + 1))) := hb.trans (hS1.below hb.size (fun i hi h => by omega))
        exact HV.out.below (h1.trans (hW2.mono hb.size)))
      have hzW : (W.setCell ⟨w2.heap.size + 1, 0, none⟩ (.int .i64 (pre.length + 1))).heap.size = W.heap.size := by simp
      have HW : Hid (Below W.heap.size (W.setCell ⟨w2.heap.size + 1, 0, none⟩ (.int .i64 (pre.length + 1))) (W.setCell ⟨w2.heap.size + 1, 0, none⟩ (.int .i64 (pre.length + 1))).drew) := Lib.hid (by have := below_drew (Below.refl (W.setCell ⟨w2.heap.size + 1, 0, none⟩ (.int .i64 (pre.length + 1))).heap.size (W.setCell ⟨w2.heap.size + 1, 0, none⟩ (.int .i64 (pre.length + 1)))); rw [hzW] at this; exact this)
      have HZW := Lib.hid hzW
      have HSZ := Lib.hid hsz
      obtain ⟨j, hj⟩ : ∃ j, pre.length = j := ⟨_, rfl⟩
      rw [hj] at HEND HQ HFZ HVV HW c0 hj2 hlt HZW
      have hji : (j : Int) + 1 < N := by omega
      clear hR hX hC hcnt hl hpl hq1 ho hco hF1 hc2 hlen hsc hsp hsz hzW hadm HIN HBO hj
      have hf57 := field57_3
      have hji0 : 0 ≤ (j : Int) + 1 := by omega
      refine wpIn_block ?_
      refine wpIn_seq ?_
      repeat gi_step
      rename_i QQ
      subst QQ
      generalize W.setCell ⟨w2.heap.size + 1, 0, none⟩ (.int .i64 ((j : Int) + 1)) = W1 at *
      by_cases hnm : isNamed kk = true
      · have HN := Lib.hid hnm
        clear hnm
        -- region 10: 16 operations: 0:fieldAddr 1:load 2:fieldAddr 3:load 4:call 5:field 6:load 7:load 8:indexAddr 9:load 10:call 11:move 12:extract 13:extract 14:nilCheck 15:store
        refine start_round (S := fun W' => W'.cell? ⟨bo, 1, none⟩ = some (.pointer (some ⟨w2.heap.size, o, none⟩)) ∧ W'.cell? ⟨bo, 0, none⟩ = some (.int .i64 kk) ∧ W'.cell? ⟨w1.heap.size, 0, none⟩ = some (.slice (some ⟨w.heap.size + 1, 0, none⟩) N N) ∧ W'.cell? ⟨w2.heap.size + 1, 0, none⟩ = some (.int .i64 (j + 1)) ∧ W'.cell? ⟨w.heap.size + 1, j + 1, none⟩ = some (.string sk)) (ds := [15]) #[false, false, false, false, false, false, false, false, false, false, false, false, false, false, false, false] (by kernel_rfl) (by kernel_rfl) (fun ⟨_, _, h⟩ => h) rfl rfl (HQ.out _ HW.out) (fun hHeld => ?_)
        refine pure_ (i := 0) (N := some 34) (v := ?_) (a' := ?_) #[true, false, false, false, false, false, false, false, false, false, false, false, false, false, false, false] rfl rfl (by kernel_rfl) (fun _ _ _ h => h) (Or.inl ⟨by rfl, ?_⟩) ?_ ?_
        rotate_left
        · intro w'
          go_simp
          with_reducible rfl
        rotate_left
        · simp only [Act.put, List.setIfInBounds_toArray, List.set_cons_zero, List.set_cons_succ]
          rfl
        refine pure_ (i := 2) (N := some 36) (v := ?_) (a' := ?_) #[true, false, true, false, false, false, false, false, false, false, false, false, false, false, false, false] rfl rfl (by kernel_rfl) (fun _ _ _ h => h) (Or.inl ⟨by rfl, ?_⟩) ?_ ?_
        rotate_left
        · intro w'
          go_simp
          with_reducible rfl
        rotate_left
        · simp only [Act.put, List.setIfInBounds_toArray, List.set_cons_zero, List.set_cons_succ]
          rfl
        refine take_ (i := 1) (N := some 35) (v := ?_) (a' := ?_) #[true, true, true, false, false, false, false, false, false, false, false, false, false, false, false, false] rfl rfl (by kernel_rfl) (fun _ _ _ h => h) (Or.inl ⟨by rfl, ?_⟩) hHeld ?_ ?_
        rotate_left
        · rintro w' ⟨e0, e1, e2, e3, e4⟩
          go_simp
          with_reducible rfl
        rotate_left
        · simp only [Act.put, List.setIfInBounds_toArray, List.set_cons_zero, List.set_cons_succ]
          rfl
        refine take_ (i := 3) (N := some 37) (v := ?_) (a' := ?_) #[true, true, true, true, false, false, false, false, false, false, false, false, false, false, false, false] rfl rfl (by kernel_rfl) (fun _ _ _ h => h) (Or.inl ⟨by rfl, ?_⟩) hHeld ?_ ?_
        rotate_left
        · rintro w' ⟨e0, e1, e2, e3, e4⟩
          go_simp
          with_reducible rfl
        rotate_left
        · simp only [Act.put, List.setIfInBounds_toArray, List.set_cons_zero, List.set_cons_succ]
          rfl
        refine take_ (i := 6) (N := some 40) (v := ?_) (a' := ?_) #[true, true, true, true, false, false, true, false, false, false, false, false, false, false, false, false] rfl rfl (by kernel_rfl) (fun _ _ _ h => h) (Or.inl ⟨by rfl, ?_⟩) hHeld ?_ ?_
        rotate_left
        · rintro w' ⟨e0, e1, e2, e3, e4⟩
          go_simp
          with_reducible rfl
        rotate_left
        · simp only [Act.put, List.setIfInBounds_toArray, List.set_cons_zero, List.set_cons_succ]
          rfl
        refine take_ (i := 7) (N := some 41) (v := ?_) (a' := ?_) #[true, true, true, true, false, false, true, true, false, false, false, false, false, false, false, false] rfl rfl (by kernel_rfl) (fun _ _ _ h => h) (Or.inl ⟨by rfl, ?_⟩) hHeld ?_ ?_
        rotate_left
        · rintro w' ⟨e0, e1, e2, e3, e4⟩
          go_simp
          with_reducible rfl
        rotate_left
        · simp only [Act.put, List.setIfInBounds_toArray, List.set_cons_zero, List.set_cons_succ]
          rfl
        refine pure_ (i := 8) (N := some 42) (v := ?_) (a' := ?_) #[true, true, true, true, false, false, true, true, true, false, false, false, false, false, false, false] rfl rfl (by kernel_rfl) (fun _ _ _ h => h) (Or.inl ⟨by rfl, ?_⟩) ?_ ?_
        rotate_left
        · intro w'
          go_simp
          with_reducible rfl
        rotate_left
        · simp only [Act.put, List.setIfInBounds_toArray, List.set_cons_zero, List.set_cons_succ]
          rfl
        refine take_ (i := 9) (N := some 43) (v := ?_) (a' := ?_) #[true, true, true, true, false, false, true, true, true, true, false, false, false, false, false, false] rfl rfl (by kernel_rfl) (fun _ _ _ h => h) (Or.inl ⟨by rfl, ?_⟩) hHeld ?_ ?_
        rotate_left
        · rintro w' ⟨e0, e1, e2, e3, e4⟩
          go_simp
          with_reducible rfl
        rotate_left
        · simp only [Act.put, List.setIfInBounds_toArray, List.set_cons_zero, List.set_cons_succ]
          rfl
        refine one_ (i := 4) (N := some 38) #[true, true, true, true, true, false, true, true, true, true, false, false, false, false, false, false] rfl rfl (by kernel_rfl) (by decide) (fun K hK => ?_)
        refine goes_ Tryz.func38 (by kernel_rfl) rfl #[.int .i64 kk] (by rfl) rfl rfl (by simp only [List.map_toArray, List.map_cons, List.map_nil]; rfl) ?_
        with_reducible refine (HOF.out _).mono ?_
        rintro e w_ ⟨sh, rd, rfl, hfu, hb_⟩
        have HFU := Lib.hid hfu
        clear hfu
        refine ⟨_, rfl, ?_⟩
        have HW_ := Lib.hid (HW.out.trans (hb_.mono (by have := HW.out.size; have := HZW.out; omega)))
        clear HW
        have HW := HW_
        clear HW_ hb_
        obtain ⟨bk, rfl, rfl, HBK⟩ := FunsAt.named3 HFU.out HN.out
        clear HFU
        refine hK.out _ _ (HQ.out _ HW.out) (fun hHeld => ?_)
        clear hK K
        refine norm_ (a' := ?_) ?_ ?_
        rotate_left
        · show Act.put _ (some 38) _ = _
          simp only [Act.put, List.setIfInBounds_toArray, List.set_cons_zero, List.set_cons_succ]
          rfl
        refine pure_ (i := 5) (N := some 39) (v := ?_) (a' := ?_) #[true, true, true, true, true, true, true, true, true, true, false, false, false, false, false, false] rfl rfl (by kernel_rfl) (fun _ _ _ h => h) (Or.inl ⟨by rfl, ?_⟩) ?_ ?_
        rotate_left
        · intro w'
          go_simp
          with_reducible rfl
        rotate_left
        · simp only [Act.put, List.setIfInBounds_toArray, List.set_cons_zero, List.set_cons_succ]
          rfl
        refine one_ (i := 10) (N := some 44) #[true, true, true, true, true, true, true, true, true, true, true, false, false, false, false, false] rfl rfl (by kernel_rfl) (by decide) (fun K hK => ?_)
        refine goesv_ Tryz.func88 (by kernel_rfl) rfl #[.string sk] #[.pointer (some ⟨bk, 0, none⟩), .pointer (some ⟨bk + 1, 0, none⟩), .pointer (some ⟨bk + 2, 0, none⟩)] #[.string sk, .pointer (some ⟨bk, 0, none⟩), .pointer (some ⟨bk + 1, 0, none⟩), .pointer (some ⟨bk + 2, 0, none⟩)] rfl (by rfl) rfl rfl rfl (by simp only [List.map_toArray, List.map_cons, List.map_nil]; rfl) ?_
        with_reducible refine (readV_named kk bk sk _ HN.out (HVV.out _ HW.out) HBK).mono ?_
        rintro e w_ ⟨n, okk, rfl, hrd, hb_⟩
        have HRD := Lib.hid hrd
        clear hrd
        refine ⟨_, rfl, ?_⟩
        have HW_ := Lib.hid (HW.out.trans (hb_.mono (by have := HW.out.size; have := HZW.out; omega)))
        clear HW
        have HW := HW_
        clear HW_ hb_
        refine hK.out _ _ (HQ.out _ HW.out) (fun hHeld => ?_)
        clear hK K
        refine norm_ (a' := ?_) ?_ ?_
        rotate_left
        · show Act.put _ (some 44) _ = _
          simp only [Act.put, List.setIfInBounds_toArray, List.set_cons_zero, List.set_cons_succ]
          rfl
        refine pure_ (i := 11) (N := some 33) (v := ?_) (a' := ?_) #[true, true, true, true, true, true, true, true, true, true, true, true, false, false, false, false] rfl rfl (by kernel_rfl) (fun _ _ _ h => h) (Or.inl ⟨by rfl, ?_⟩) ?_ ?_
        rotate_left
        · intro w'
          go_simp
          with_reducible rfl
        rotate_left
        · simp only [Act.put, List.setIfInBounds_toArray, List.set_cons_zero, List.set_cons_succ]
          rfl
        refine pure_ (i := 12) (N := some 45) (v := ?_) (a' := ?_) #[true, true, true, true, true, true, true, true, true, true, true, true, true, false, false, false] rfl rfl (by kernel_rfl) (fun _ _ _ h => h) (Or.inl ⟨by rfl, ?_⟩) ?_ ?_
        rotate_left
        · intro w'
          go_simp
          with_reducible rfl
        rotate_left
        · simp only [Act.put, List.setIfInBounds_toArray, List.set_cons_zero, List.set_cons_succ]
          rfl
        refine pure_ (i := 13) (N := some 46) (v := ?_) (a' := ?_) #[true, true, true, true, true, true, true, true, true, true, true, true, true, true, false, false] rfl rfl (by kernel_rfl) (fun _ _ _ h => h) (Or.inl ⟨by rfl, ?_⟩) ?_ ?_
        rotate_left
        · intro w'
          go_simp
          with_reducible rfl
        rotate_left
        · simp only [Act.put, List.setIfInBounds_toArray, List.set_cons_zero, List.set_cons_succ]
          rfl
        refine pure_ (i := 14) (N := some 47) (v := ?_) (a' := ?_) #[true, true, true, true, true, true, true, true, true, true, true, true, true, true, true, false] rfl rfl (by kernel_rfl) (fun _ _ _ h => h) (Or.inl ⟨by rfl, ?_⟩) ?_ ?_
        rotate_left
        · intro w'
          go_simp
          with_reducible rfl
        rotate_left
        · simp only [Act.put, List.setIfInBounds_toArray, List.set_cons_zero, List.set_cons_succ]
          rfl
        refine last_ (i := 15) (N := none) #[true, true, true, true, true, true, true, true, true, true, true, true, true, true, true, true] rfl rfl (by kernel_rfl) (by decide) (fun K hK => ?_)
        refine skip_ (w1 := ?_) (by rfl) rfl ?_ ?_
        rotate_left 1
        · have hfz := (HFZ.out _ HW.out).1
          have hcs := (HFZ.out _ HW.out).2
          obtain ⟨cv, hcv⟩ := Option.isSome_iff_exists.1 hcs
          clear hcs
          go_simp
          rfl
        refine hK.out _ _ ?_
        clear hK K
        refine done_ (by kernel_rfl) ?_
        exact HEND.out _ _ HW.out HRD.out
      · have HN : Hid (isNamed kk = false) := Lib.hid (Bool.eq_false_iff.2 hnm)
        clear hnm
        -- region 10: 16 operations: 0:fieldAddr 1:load 2:fieldAddr 3:load 4:call 5:field 6:load 7:load 8:indexAddr 9:load 10:call 11:move 12:extract 13:extract 14:nilCheck 15:store
        refine start_round (S := fun W' => W'.cell? ⟨bo, 1, none⟩ = some (.pointer (some ⟨w2.heap.size, o, none⟩)) ∧ W'.cell? ⟨bo, 0, none⟩ = some (.int .i64 kk) ∧ W'.cell? ⟨w1.heap.size, 0, none⟩ = some (.slice (some ⟨w.heap.size + 1, 0, none⟩) N N) ∧ W'.cell? ⟨w2.heap.size + 1, 0, none⟩ = some (.int .i64 (j + 1)) ∧ W'.cell? ⟨w.heap.size + 1, j + 1, none⟩ = some (.string sk)) (ds := [15]) #[false, false, false, false, false, false, false, false, false, false, false, false, false, false, false, false] (by kernel_rfl) (by kernel_rfl) (fun ⟨_, _, h⟩ => h) rfl rfl (HQ.out _ HW.out) (fun hHeld => ?_)
        refine pure_ (i := 0) (N := some 34) (v := ?_) (a' := ?_) #[true, false, false, false, false, false, false, false, false, false, false, false, false, false, false, false] rfl rfl (by kernel_rfl) (fun _ _ _ h => h) (Or.inl ⟨by rfl, ?_⟩) ?_ ?_
        rotate_left
        · intro w'
          go_simp
          with_reducible rfl
        rotate_left
        · simp only [Act.put, List.setIfInBounds_toArray, List.set_cons_zero, List.set_cons_succ]
          rfl
        refine pure_ (i := 2) (N := some 36) (v := ?_) (a' := ?_) #[true, false, true, false, false, false, false, false, false, false, false, false, false, false, false, false] rfl rfl (by kernel_rfl) (fun _ _ _ h => h) (Or.inl ⟨by rfl, ?_⟩) ?_ ?_
        rotate_left
        · intro w'
          go_simp
          with_reducible rfl
        rotate_left
        · simp only [Act.put, List.setIfInBounds_toArray, List.set_cons_zero, List.set_cons_succ]
          rfl
        refine take_ (i := 1) (N := some 35) (v := ?_) (a' := ?_) #[true, true, true, false, false, false, false, false, false, false, false, false, false, false, false, false] rfl rfl (by kernel_rfl) (fun _ _ _ h => h) (Or.inl ⟨by rfl, ?_⟩) hHeld ?_ ?_
        rotate_left
        · rintro w' ⟨e0, e1, e2, e3, e4⟩
          go_simp
          with_reducible rfl
        rotate_left
        · simp only [Act.put, List.setIfInBounds_toArray, List.set_cons_zero, List.set_cons_succ]
          rfl
        refine take_ (i := 3) (N := some 37) (v := ?_) (a' := ?_) #[true, true, true, true, false, false, false, false, false, false, false, false, false, false, false, false] rfl rfl (by kernel_rfl) (fun _ _ _ h => h) (Or.inl ⟨by rfl, ?_⟩) hHeld ?_ ?_
        rotate_left
        · rintro w' ⟨e0, e1, e2, e3, e4⟩
          go_simp
          with_reducible rfl
        rotate_left
        · simp only [Act.put, List.setIfInBounds_toArray, List.set_cons_zero, List.set_cons_succ]
          rfl
        refine take_ (i := 6) (N := some 40) (v := ?_) (a' := ?_) #[true, true, true, true, false, false, true, false, false, false, false, false, false, false, false, false] rfl rfl (by kernel_rfl) (fun _ _ _ h => h) (Or.inl ⟨by rfl, ?_⟩) hHeld ?_ ?_
        rotate_left
        · rintro w' ⟨e0, e1, e2, e3, e4⟩
          go_simp
          with_reducible rfl
        rotate_left
        · simp only [Act.put, List.setIfInBounds_toArray, List.set_cons_zero, List.set_cons_succ]
          rfl
        refine take_ (i := 7) (N := some 41) (v := ?_) (a' := ?_) #[true, true, true, true, false, false, true, true, false, false, false, false, false, false, false, false] rfl rfl (by kernel_rfl) (fun _ _ _ h => h) (Or.inl ⟨by rfl, ?_⟩) hHeld ?_ ?_
        rotate_left
        · rintro w' ⟨e0, e1, e2, e3, e4⟩
          go_simp
          with_reducible rfl
        rotate_left
        · simp only [Act.put, List.setIfInBounds_toArray, List.set_cons_zero, List.set_cons_succ]
          rfl
        refine pure_ (i := 8) (N := some 42) (v := ?_) (a' := ?_) #[true, true, true, true, false, false, true, true, true, false, false, false, false, false, false, false] rfl rfl (by kernel_rfl) (fun _ _ _ h => h) (Or.inl ⟨by rfl, ?_⟩) ?_ ?_
        rotate_left
        · intro w'
          go_simp
          with_reducible rfl
        rotate_left
        · simp only [Act.put, List.setIfInBounds_toArray, List.set_cons_zero, List.set_cons_succ]
          rfl
        refine take_ (i := 9) (N := some 43) (v := ?_) (a' := ?_) #[true, true, true, true, false, false, true, true, true, true, false, false, false, false, false, false] rfl rfl (by kernel_rfl) (fun _ _ _ h => h) (Or.inl ⟨by rfl, ?_⟩) hHeld ?_ ?_
        rotate_left
        · rintro w' ⟨e0, e1, e2, e3, e4⟩
          go_simp
          with_reducible rfl
        rotate_left
        · simp only [Act.put, List.setIfInBounds_toArray, List.set_cons_zero, List.set_cons_succ]
          rfl
        refine one_ (i := 4) (N := some 38) #[true, true, true, true, true, false, true, true, true, true, false, false, false, false, false, false] rfl rfl (by kernel_rfl) (by decide) (fun K hK => ?_)
        refine goes_ Tryz.func38 (by kernel_rfl) rfl #[.int .i64 kk] (by rfl) rfl rfl (by simp only [List.map_toArray, List.map_cons, List.map_nil]; rfl) ?_
        with_reducible refine (HOF.out _).mono ?_
        rintro e w_ ⟨sh, rd, rfl, hfu, hb_⟩
        have HFU := Lib.hid hfu
        clear hfu
        refine ⟨_, rfl, ?_⟩
        have HW_ := Lib.hid (HW.out.trans (hb_.mono (by have := HW.out.size; have := HZW.out; omega)))
        clear HW
        have HW := HW_
        clear HW_ hb_
        obtain ⟨rfl, rfl⟩ := FunsAt.number HFU.out HN.out
        clear HFU
        refine hK.out _ _ (HQ.out _ HW.out) (fun hHeld => ?_)
        clear hK K
        refine norm_ (a' := ?_) ?_ ?_
        rotate_left
        · show Act.put _ (some 38) _ = _
          simp only [Act.put, List.setIfInBounds_toArray, List.set_cons_zero, List.set_cons_succ]
          rfl
        refine pure_ (i := 5) (N := some 39) (v := ?_) (a' := ?_) #[true, true, true, true, true, true, true, true, true, true, false, false, false, false, false, false] rfl rfl (by kernel_rfl) (fun _ _ _ h => h) (Or.inl ⟨by rfl, ?_⟩) ?_ ?_
        rotate_left
        · intro w'
          go_simp
          with_reducible rfl
        rotate_left
        · simp only [Act.put, List.setIfInBounds_toArray, List.set_cons_zero, List.set_cons_succ]
          rfl
        refine one_ (i := 10) (N := some 44) #[true, true, true, true, true, true, true, true, true, true, true, false, false, false, false, false] rfl rfl (by kernel_rfl) (by decide) (fun K hK => ?_)
        refine goesv_ Tryz.func84 (by kernel_rfl) rfl #[.string sk] #[] #[.string sk] rfl (by rfl) rfl rfl rfl (by simp only [List.map_toArray, List.map_cons, List.map_nil]; rfl) ?_
        with_reducible refine (readV_num kk sk _ HN.out hkk HSZ.out (HVV.out _ HW.out)).mono ?_
        rintro e w_ ⟨n, okk, rfl, hrd, hb_⟩
        have HRD := Lib.hid hrd
        clear hrd
        refine ⟨_, rfl, ?_⟩
        have HW_ := Lib.hid (HW.out.trans (hb_.mono (by have := HW.out.size; have := HZW.out; omega)))
        clear HW
        have HW := HW_
        clear HW_ hb_
        refine hK.out _ _ (HQ.out _ HW.out) (fun hHeld => ?_)
        clear hK K
        refine norm_ (a' := ?_) ?_ ?_
        rotate_left
        · show Act.put _ (some 44) _ = _
          simp only [Act.put, List.setIfInBounds_toArray, List.set_cons_zero, List.set_cons_succ]
          rfl
        refine pure_ (i := 11) (N := some 33) (v := ?_) (a' := ?_) #[true, true, true, true, true, true, true, true, true, true, true, true, false, false, false, false] rfl rfl (by kernel_rfl) (fun _ _ _ h => h) (Or.inl ⟨by rfl, ?_⟩) ?_ ?_
        rotate_left
        · intro w'
          go_simp
          with_reducible rfl
        rotate_left
        · simp only [Act.put, List.setIfInBounds_toArray, List.set_cons_zero, List.set_cons_succ]
          rfl
        refine pure_ (i := 12) (N := some 45) (v := ?_) (a' := ?_) #[true, true, true, true, true, true, true, true, true, true, true, true, true, false, false, false] rfl rfl (by kernel_rfl) (fun _ _ _ h => h) (Or.inl ⟨by rfl, ?_⟩) ?_ ?_
        rotate_left
        · intro w'
          go_simp
          with_reducible rfl
        rotate_left
        · simp only [Act.put, List.setIfInBounds_toArray, List.set_cons_zero, List.set_cons_succ]
          rfl
        refine pure_ (i := 13) (N := some 46) (v := ?_) (a' := ?_) #[true, true, true, true, true, true, true, true, true, true, true, true, true, true, false, false] rfl rfl (by kernel_rfl) (fun _ _ _ h => h) (Or.inl ⟨by rfl, ?_⟩) ?_ ?_
        rotate_left
        · intro w'
          go_simp
          with_reducible rfl
        rotate_left
        · simp only [Act.put, List.setIfInBounds_toArray, List.set_cons_zero, List.set_cons_succ]
          rfl
        refine pure_ (i := 14) (N := some 47) (v := ?_) (a' := ?_) #[true, true, true, true, true, true, true, true, true, true, true, true, true, true, true, false] rfl rfl (by kernel_rfl) (fun _ _ _ h => h) (Or.inl ⟨by rfl, ?_⟩) ?_ ?_
        rotate_left
        · intro w'
          go_simp
          with_reducible rfl
        rotate_left
        · simp only [Act.put, List.setIfInBounds_toArray, List.set_cons_zero, List.set_cons_succ]
          rfl
        refine last_ (i := 15) (N := none) #[true, true, true, true, true, true, true, true, true, true, true, true, true, true, true, true] rfl rfl (by kernel_rfl) (by decide) (fun K hK => ?_)
        refine skip_ (w1 := ?_) (by rfl) rfl ?_ ?_
        rotate_left 1
        · have hfz := (HFZ.out _ HW.out).1
          have hcs := (HFZ.out _ HW.out).2
          obtain ⟨cv, hcv⟩ := Option.isSome_iff_exists.1 hcs
          clear hcs
          go_simp
          rfl
        refine hK.out _ _ ?_
        clear hK K
        refine done_ (by kernel_rfl) ?_
        exact HEND.out _ _ HW.out HRD.out
    · have HEND : Hid (Kept2 w4.heap.size W (W.setCell ⟨w2.heap.size + 1, 0, none⟩ (.int .i64 (pre.length + 1))) ∧ KpO (fun i => i = bb ∨ i = bs) W (W.setCell ⟨w2.heap.size + 1, 0, none⟩ (.int .i64 (pre.length + 1))) ∧ RdW w s N w1.heap.size (w.heap.size + 1) w2.heap.size k (pre ++ [(kk, o)]) (W.setCell ⟨w2.heap.size + 1, 0, none⟩ (.int .i64 (pre.length + 1)))) := Lib.hid (by
        have hS1 := hF1 (.int .i64 (pre.length + 1))
        refine ⟨⟨hS1.block _ (by omega) (by omega), hS1.block _ (by omega) (by omega)⟩, KpO.of_fr hS1 (fun i hi h => by rcases hi with hi | hi <;> omega), ⟨hS1.at hR.res (by omega), hS1.at hl (by omega), hR.pcs.fr hS1 (by omega), ⟨_, _, hS1.at hX (by omega), RdC.miss hadm (by have := hR.pcs.len; omega)⟩, ?_, hR.below.trans (hS1.below hR.below.size (fun i hi h => by omega))⟩⟩
        rw [hlen]
        exact hc2)
      obtain ⟨j, hj⟩ : ∃ j, pre.length = j := ⟨_, rfl⟩
      rw [hj] at HEND c0 hj2 hlt
      have hji : decide ((j : Int) + 1 < N) = false := by simp; omega
      clear hR hX hC hcnt hl hpl hq1 ho hco hF1 hc2 hlen hadm HIN HBO hj
      gi_wp2
      exact HEND.out
  case hdone =>
    rintro xs W rfl hR hD
    obtain ⟨A, B, hX, hC⟩ := hR.x
    have x0 := blk_cell hX 0
    have x1 := blk_cell hX 1
    have x2 := blk_cell hX 2
    simp only [List.getElem?_toArray, List.getElem?_cons_zero, List.getElem?_cons_succ] at x0 x1 x2
    have HSH := Lib.hid (Show9_any k A B W (HV.out.tabs.below hR.below))
    have HR := Lib.hid hR
    have HX := Lib.hid hX
    have HD := Lib.hid hD
    have HY : Hid ((⟨(showW k A B).toArray⟩ : ByteArray) = s → ReadIs s k A B 0) := Lib.hid (fun he => readIs_ok rfl hk HSK.out HK0.out he)
    have HN : Hid ((⟨(showW k A B).toArray⟩ : ByteArray) ≠ s → ReadIs s 0 0 0 40) := Lib.hid (fun he => readIs_no rfl hk HSK.out HK0.out hC he)
    generalize (⟨(showW k A B).toArray⟩ : ByteArray) = nm at *
    clear hR hX hC hD HIN HBO HK0 HSK
    have key : ∀ W2 : World, Below W.heap.size W W2 → W2.heap[w.heap.size]? = some (.cells #[.int .i64 0, .int .i64 0, .int .i64 0] 23 (0, 0)) ∧ W2.heap[w2.heap.size]? = some (.cells #[.int .i64 k, .int .i64 A, .int .i64 B] 23 (0, 0)) ∧ W2.heap[w4.heap.size]? = some (.deferred (some [])) ∧ Below w.heap.size w W2 := fun W2 hb =>
      ⟨(hb.block _ (blk_lt HR.out.res)).trans HR.out.res, (hb.block _ (blk_lt HX.out)).trans HX.out, (hb.block _ (Array.getElem?_eq_some_iff.1 HD.out).1).trans HD.out, HR.out.below.trans (hb.mono HR.out.below.size)⟩
    have KEY := Lib.hid key
    clear key
    by_cases he : nm = s
    all_goals
      first
      | (have hq : (nm.toList == s.toList) = true := (same_str2 _ _).2 he
         have HF := Lib.hid (HY.out he))
      | (have hq : (nm.toList == s.toList) = false := by rw [Bool.eq_false_iff, Ne, same_str2]; exact he
         have HF := Lib.hid (HN.out he))
      clear he HY HN
      gi_wp2_with (gi_at_call 24; fail)
      refine (callsIn_wide.2 HSH.out).mono ?_
      rintro e W2 ⟨rfl, hb⟩
      obtain ⟨k1, k2, k3, k4⟩ := KEY.out W2 hb
      clear x0 x1 x2 hb KEY HSH HR HX HD
      have y0 := blk_cell k1 0
      have y1 := blk_cell k1 1
      have y2 := blk_cell k1 2
      have f0 := blk_frozen k1 0
      have f1 := blk_frozen k1 1
      have f2 := blk_frozen k1 2
      have x0 := blk_cell k2 0
      have x1 := blk_cell k2 1
      have x2 := blk_cell k2 2
      simp only [List.getElem?_toArray, List.getElem?_cons_zero, List.getElem?_cons_succ] at y0 y1 y2 x0 x1 x2
      have hne : w2.heap.size ≠ w.heap.size := by omega
      have hne2 : w4.heap.size ≠ w.heap.size := by omega
    · obtain ⟨z1, z2, z3⟩ := set3f (u0 := .int .i64 k) (u1 := .int .i64 A) (u2 := .int .i64 B) k1 k4
      have z5 := z3.at k3 (by omega)
      have Z1 := Lib.hid z1
      have Z2 := Lib.hid z2
      have Z5 := Lib.hid z5
      clear z1 z2 z3 z5 k1 k2 k3 k4
      gi_wp2
      refine ⟨by simp, .inl ⟨_, _, rfl, run_takeDeferred Z5.out, ?_⟩⟩
      refine ⟨_, results_ct rfl _ _ _ w.heap.size _ rfl (run_loadVar_row _ _ 23 23 _ (0, 0) _ ((World.putObj_heap_other (by omega)).trans Z1.out) Tryz.underlying23 rfl (by kernel_rfl)), ?_⟩
      exact ⟨_, _, _, _, rfl, HF.out, Z2.out.trans ((Fr.putObj _ _ _).below Z2.out.size (fun i hi e => by omega))⟩
    · obtain ⟨z1, z2, z3⟩ := set3f (u0 := .int .i64 0) (u1 := .int .i64 0) (u2 := .int .i64 0) k1 k4
      have z5 := z3.at k3 (by omega)
      have Z1 := Lib.hid z1
      have Z2 := Lib.hid z2
      have Z5 := Lib.hid z5
      clear z1 z2 z3 z5 k1 k2 k3 k4
      gi_wp2
      refine ⟨by simp, .inl ⟨_, _, rfl, run_takeDeferred Z5.out, ?_⟩⟩
      refine ⟨_, results_ct rfl _ _ _ w.heap.size _ rfl (run_loadVar_row _ _ 23 23 _ (0, 0) _ ((World.putObj_heap_other (by omega)).trans Z1.out) Tryz.underlying23 rfl (by kernel_rfl)), ?_⟩
      exact ⟨_, _, _, _, rfl, HF.out, Z2.out.trans ((Fr.putObj _ _ _).below Z2.out.size (fun i hi e => by omega))⟩
end Go.Proofs.YtamagdnlicnefaaGreatDoor
