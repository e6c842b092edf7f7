/- strings.Builder: what the shelf could not lay here: copyCheck, WriteString, WriteRune · strings.IndexRune of the letters, at what is no ASCII; value.Types · value.Types: a text's types · value.Text: types' letters · Encode, Decode, Cell, Read, Show. -/
import Derived.Test.YtacmajlbaenjfaaShelf
import Derived.Test.YtacmajlbaenjfaaS1
import Derived.Deep.QuietTactic
import Derived.BigQuiet
import Derived.Lib.OthersKept
import Derived.Laws.RangeAny
/- strings.Builder: what the shelf could not lay here: copyCheck, WriteString, WriteRune. -/
namespace Go.Proofs.Ytacmajlbaenjfaa
open Go.RowKit Go.Shelf Go.Proofs.YtacmajlbaenjfaaW.PrintWords Go.Proofs.YtacmajlbaenjfaaW.PrintLast Go.Proofs.YtacmajlbaenjfaaW.PrintMore

/-- A builder at block b that holds bytes bs in the row of v. -/
def BAt (W : World) (b base : Nat) (p v : Value) (bs : List Value) : Prop := W.heap[b]? = some (.cells #[p, v] 95 (0, 0)) ∧ W.ownsRowF base 5 1 v bs.length bs
def BIs (W : World) (b base : Nat) (v : Value) (bs : List Value) : Prop := BAt W b base (.pointer none) v bs ∨ BAt W b base (.pointer (some ⟨b, 0, none⟩)) v bs

theorem ownF_fr {S : Nat → Prop} {w W : World} {base n : Nat} {v : Value} {xs : List Value} (h : w.ownsRowF base 5 1 v n xs) (hF : Fr S w W) (hn : ∀ b, v.ownBlock = some b → ¬ S b) : W.ownsRowF base 5 1 v n xs := by
  refine ⟨h.1, ?_⟩
  rcases h.2 with hn' | ⟨g, cap, cur, fz, rfl, hb, hg, rest⟩
  · exact .inl hn'
  · exact .inr ⟨g, cap, cur, fz, rfl, hb, (hF.block g (blk_lt hg) (hn g rfl)).trans hg, rest⟩

set_option maxRecDepth 100000 in
set_option maxHeartbeats 1000000 in
theorem copyCheck81_any (w : World) (b base : Nat) (v : Value) (bs : List Value) (h : BIs w b base v bs) :
    Calls Try.prog 81 #[.pointer (some ⟨b, 0, none⟩)] w fun e w' => e = .returned (.tuple #[]) ∧ BAt w' b base (.pointer (some ⟨b, 0, none⟩)) v bs ∧ Fr (fun i => i = b) w w' := by
  rcases h with ⟨hb, ho⟩ | ⟨hb, ho⟩
  · have c0 := blk_cell hb 0
    have f0 := blk_frozen hb 0
    simp only [List.getElem?_toArray, List.getElem?_cons_zero] at c0
    have hne := Lib.ownBlock_neF ho hb (by decide)
    have HB := Lib.hid hb
    have hl := blk_lt hb
    obtain ⟨j, hj, hjs⟩ := Option.map_eq_some_iff.1 (show (Try.prog.info? 95).map (·.size) = some 2 by kernel_rfl)
    have hsh : w.shape? b = some (95, 2) := by simp [World.shape?, hb]
    clear hb
    go_enter Try.func81, Try.ntmps81
    go_wp2
    rw [Lib.run_to_unsafe w ⟨b, 0, none⟩ Try.underlying93 Try.underlying152 hj (by rw [hjs]; decide) hsh (Nat.zero_lt_succ 1)]
    simp only [Result.andThen]
    rw [Oper.upon_value]
    go_wp2
    rw [run_callFunc_extern Try.func99 (by kernel_rfl) (by kernel_rfl) (by kernel_rfl) (e := Extern.AbiNoEscape.same) (by kernel_rfl)]
    rw [Lib.run_noEscape]
    simp only [Result.andThen]
    rw [Oper.upon_value]
    go_wp2
    rw [Lib.run_from_unsafe w ⟨b, 0, none⟩ Try.underlying152 Try.underlying93 hj hsh (by kernel_rfl)]
    simp only [Result.andThen]
    rw [Oper.upon_value]
    go_wp2
    go_end0
    refine ⟨rfl, ⟨?_, ownF_fr ho ((Fr.refl (fun i => i = b) w).set ⟨b, 0, none⟩ _ (fun _ => rfl)) (fun k hk e => hne (by rw [hk, e]))⟩, (Fr.refl _ _).set _ _ (fun _ => rfl)⟩
    have := blk_set HB.out 0 (.pointer (some ⟨b, 0, none⟩))
    simpa using this
  · have c0 := blk_cell hb 0
    simp only [List.getElem?_toArray, List.getElem?_cons_zero] at c0
    have HB := Lib.hid hb
    obtain ⟨j, hj, _⟩ := Option.map_eq_some_iff.1 (show (Try.prog.info? 95).map (·.size) = some 2 by kernel_rfl)
    clear hb
    go_enter Try.func81, Try.ntmps81
    go_wp2
    rw [Lib.run_neq_ptr_same w _ Try.underlying93 hj]
    go_wp2
    go_end0
    exact ⟨rfl, ⟨HB.out, ho⟩, Fr.refl _ _⟩

theorem BAt.grow {w w1 w2 : World} {b base : Nat} {v v' p : Value} {bs xs : List Value} {W : World} (h1 : BAt w1 b base p v bs) (hf : Fr (fun i => i = b) w w1)
    (hA : Below w1.heap.size w1 W) (hown : w2.ownsRowF base 5 1 v' (bs.length + xs.length) (bs ++ xs)) (hg : W.grownBy w2 v.ownBlock) :
    BAt (w2.setCell ⟨b, 1, none⟩ v') b base p v' (bs ++ xs) ∧ Fr (fun i => i = b ∨ v.ownBlock = some i) w (w2.setCell ⟨b, 1, none⟩ v') := by
  have hlt := blk_lt h1.1
  have hne := Lib.ownBlock_neF h1.2 h1.1 (by decide)
  have hb2 : w2.heap[b]? = some (.cells #[p, v] 95 (0, 0)) := (hg.block b (Nat.lt_of_lt_of_le hlt hA.size) (fun e => hne e.symm)).trans ((hA.block b hlt).trans h1.1)
  have hne2 := Lib.ownBlock_neF hown hb2 (by decide)
  have hF : Fr (fun i => i = b ∨ v.ownBlock = some i) w w2 := by
    refine (Fr.trans (S := fun i => i = b ∨ v.ownBlock = some i) (T := fun i => i = b) ⟨hf.os, hf.tape, hf.output, hf.size, fun i hi hn => hf.block i hi (fun e => hn (.inl e))⟩ (Fr.of_below hA) (fun i _ e => .inl e)).trans (T := fun i => v.ownBlock = some i) (Fr.grown hg (fun i _ e => e)) (fun i _ e => .inr e)
  refine ⟨⟨?_, ?_⟩, hF.set _ _ (fun _ => .inl rfl)⟩
  · have := blk_set hb2 1 v'
    simpa using this
  · rw [List.length_append]
    exact ownF_fr hown ((Fr.refl (fun i => i = b) w2).set ⟨b, 1, none⟩ v' (fun _ => rfl)) (fun k hk e => hne2 (by rw [hk, e]))

set_option maxRecDepth 100000 in
set_option maxHeartbeats 1000000 in
theorem WriteString63_any (w : World) (b base : Nat) (v : Value) (bs : List Value) (s : ByteArray) (h : BIs w b base v bs) (hlen : bs.length + s.size ≤ 140737488355328) (hbase : base ≤ w.heap.size) :
    Calls Try.prog 63 #[.pointer (some ⟨b, 0, none⟩), .string s] w fun e w' => ∃ r v', e = .returned r ∧ BAt w' b base (.pointer (some ⟨b, 0, none⟩)) v' (bs ++ Lib.strCells s) ∧ Fr (fun i => i = b ∨ v.ownBlock = some i) w w' := by
  obtain ⟨i0, hi, hz0, hz1, hz2⟩ := info_parts info5
  go_enter Try.func63, Try.ntmps63
  go_wp2_with (go_at_call 81; refine (copyCheck81_any _ b base v bs h).mono ?_)
  rintro e w1 ⟨rfl, h1, hf1⟩
  have c1 : w1.cell? ⟨b, 1, none⟩ = some v := blk_cell h1.1 1
  have H1 := Lib.hid h1
  have hown := h1.2
  have hs1 := hf1.size
  clear h1
  go_wp2_with (at_builtin; refine Lib.wpList_append_own_stringF _ rfl _ _ 23 9 rfl base 5 i0 Try.underlying23 Try.underlying9 hi hz0 hz1 hz2 _ _ _ rfl hown s rfl ?c3 ?c4 ?c5 ?_)
  case c3 => unfold maxLen; omega
  case c4 => omega
  case c5 => omega
  intro v' w2 hown' hgrow _
  obtain ⟨ao, n', cap, rfl⟩ : ∃ ao n' cap, v' = .slice ao n' cap := by
    rcases hown'.2 with ⟨hv, _⟩ | ⟨g, cap, cur, fz, hv, _⟩
    · exact ⟨_, _, _, hv⟩
    · exact ⟨_, _, _, hv⟩
  obtain ⟨j1, j2⟩ := H1.out.grow hf1 (Below.refl _ _) (xs := Lib.strCells s) (by rw [Lib.strCells_length]; exact hown') hgrow
  have hne := Lib.ownBlock_neF H1.out.2 H1.out.1 (by decide)
  have hb2 : w2.heap[b]? = some (.cells #[.pointer (some ⟨b, 0, none⟩), v] 95 (0, 0)) := (hgrow.block b (blk_lt H1.out.1) (fun e => hne e.symm)).trans H1.out.1
  have d1 : w2.cell? ⟨b, 1, none⟩ = some v := blk_cell hb2 1
  have f1 := blk_frozen hb2 1
  have HJ := Lib.hid j1
  have HJ2 := Lib.hid j2
  clear j1 j2 hb2 hne
  go_wp2
  go_ret2
  exact ⟨_, _, rfl, HJ.out, HJ2.out⟩

set_option maxRecDepth 100000 in
set_option maxHeartbeats 1000000 in
theorem WriteRune58_any (w : World) (b base : Nat) (v : Value) (bs : List Value) (r : Int) (hr0 : -2147483648 ≤ r) (hr1 : r ≤ 2147483647) (h : BIs w b base v bs) (hlen : bs.length + 4 ≤ 140737488355328) (hbase : base ≤ w.heap.size) :
    Calls Try.prog 58 #[.pointer (some ⟨b, 0, none⟩), .int .i32 r] w fun e w' => ∃ r' v', e = .returned r' ∧ BAt w' b base (.pointer (some ⟨b, 0, none⟩)) v' (bs ++ Lib.runeCells r) ∧ Fr (fun i => i = b ∨ v.ownBlock = some i) w w' := by
  have hk4 := Lib.runeCells_le r
  go_enter Try.func58, Try.ntmps58
  go_wp2_with (go_at_call 81; refine (copyCheck81_any _ b base v bs h).mono ?_)
  rintro e w1 ⟨rfl, h1, hf1⟩
  obtain ⟨ao, cap, rfl⟩ : ∃ ao cap, v = .slice ao bs.length cap := by
    rcases h1.2.2 with ⟨hv, h0⟩ | ⟨g, cap, cur, fz, hv, _⟩
    · exact ⟨none, 0, by rw [hv, h0]⟩
    · exact ⟨_, _, hv⟩
  have c1 : w1.cell? ⟨b, 1, none⟩ = some (.slice ao bs.length cap) := blk_cell h1.1 1
  have H1 := Lib.hid h1
  have hown := h1.2
  have hs1 := hf1.size
  clear h1
  go_wp2_with (go_at_call 82; refine (Try.utf8_AppendRune_row base _ bs.length bs r hr0 hr1 _ hown hlen (by omega)).mono ?_)
  rintro e w2 ⟨v', rfl, hown', o, hgrow⟩
  obtain ⟨g, cap', rfl⟩ : ∃ g cap', v' = .slice (some ⟨g, 0, none⟩) (bs.length + (Lib.runeCells r).length) cap' := by
    rcases hown'.2 with ⟨_, h0⟩ | ⟨g, cap', cur, fz, hv, _⟩
    · omega
    · exact ⟨g, cap', hv⟩
  obtain ⟨j1, j2⟩ := H1.out.grow hf1 (below_alloc (Below.refl _ _) o) hown' hgrow
  have hne := Lib.ownBlock_neF H1.out.2 H1.out.1 (by decide)
  have hb2 : w2.heap[b]? = some (.cells #[.pointer (some ⟨b, 0, none⟩), .slice ao bs.length cap] 95 (0, 0)) := (hgrow.block b (by have := blk_lt H1.out.1; simp; omega) (fun e => hne e.symm)).trans ((World.alloc_heap_old' w1 o (blk_lt H1.out.1)).trans H1.out.1)
  have d1 : w2.cell? ⟨b, 1, none⟩ = some (.slice ao bs.length cap) := blk_cell hb2 1
  have f1 := blk_frozen hb2 1
  have HJ := Lib.hid j1
  have HJ2 := Lib.hid j2
  clear j1 j2 hb2 hne
  go_wp2
  go_ret2
  exact ⟨_, _, rfl, HJ.out, HJ2.out⟩
end Go.Proofs.Ytacmajlbaenjfaa

/- strings.IndexRune of the letters, at what is no ASCII; value.Types. -/
namespace Go.Proofs.Ytacmajlbaenjfaa
open Go.RowKit Go.Shelf Go.Proofs.YtacmajlbaenjfaaW.PrintWords Go.Proofs.YtacmajlbaenjfaaW.PrintLast Go.Proofs.YtacmajlbaenjfaaW.PrintMore
attribute [local go_sem] Oper.semAt_some
attribute [local go_sem] wide_fn wide_depth
def lettersB : ByteArray := ⟨#[32, 73, 82, 70, 80]⟩

theorem enc_last (r : Int) (h0 : 128 ≤ r) (h1 : r ≤ 2147483647) : ∃ n : Nat, (Utf8.encode r).size = n + 1 ∧ 1 ≤ n ∧ n ≤ 3 ∧ ∀ h, 128 ≤ ((Utf8.encode r)[n]'h).toNat := by
  have c128 : ∀ m : Nat, m < 64 → 128 ≤ (UInt8.ofNat (128 + m)).toNat := by intro m hm; simp; omega
  obtain ⟨c, hc⟩ : ∃ c, (if Utf8.valid r then r.toNat else Utf8.runeError) = c := ⟨_, rfl⟩
  have hc0 : 128 ≤ c := by rw [← hc]; unfold Utf8.runeError; split <;> omega
  by_cases h2 : c < 2048
  · have e : Utf8.encode r = ⟨#[UInt8.ofNat (192 + c / 64), UInt8.ofNat (128 + c % 64)]⟩ := by unfold Utf8.encode; simp only [hc]; rw [if_neg (by omega), if_pos h2]
    rw [e]
    exact ⟨1, rfl, by omega, by omega, fun _ => c128 (c % 64) (by omega)⟩
  · by_cases h3 : c < 65536
    · have e : Utf8.encode r = ⟨#[UInt8.ofNat (224 + c / 4096), UInt8.ofNat (128 + c / 64 % 64), UInt8.ofNat (128 + c % 64)]⟩ := by unfold Utf8.encode; simp only [hc]; rw [if_neg (by omega), if_neg h2, if_pos h3]
      rw [e]
      exact ⟨2, rfl, by omega, by omega, fun _ => c128 (c % 64) (by omega)⟩
    · have e : Utf8.encode r = ⟨#[UInt8.ofNat (240 + c / 262144), UInt8.ofNat (128 + c / 4096 % 64), UInt8.ofNat (128 + c / 64 % 64), UInt8.ofNat (128 + c % 64)]⟩ := by unfold Utf8.encode; simp only [hc]; rw [if_neg (by omega), if_neg h2, if_neg h3]
      rw [e]
      exact ⟨3, rfl, by omega, by omega, fun _ => c128 (c % 64) (by omega)⟩
/-- No letter is the byte M. -/
theorem idx_high (M : Nat) (h : 128 ≤ M) (h2 : M < 256) (l : List UInt8) (hl : ∀ x ∈ l, x.toNat < 128) : Lib.indexByte l (UInt8.ofNat M) = -1 := by
  induction l with
  | nil => rfl
  | cons b l ih =>
    have hb := hl b (by simp)
    have e : (b == UInt8.ofNat M) = false := by
      rw [beq_eq_false_iff_ne]
      intro e
      rw [e] at hb
      simp at hb
      omega
    have := ih (fun x hx => hl x (by simp [hx]))
    simp [Lib.indexByte, e, this]
set_option maxRecDepth 100000 in
set_option maxHeartbeats 2000000 in
theorem IndexRune_high (w : World) (r : Int) (h0 : 128 ≤ r) (h1 : r ≤ 2147483647) :
    Calls Try.prog 73 #[.string ⟨#[32, 73, 82, 70, 80]⟩, .int .i32 r] w fun e w' => e = .returned (.int .i64 (-1)) ∧ Below w.heap.size w w' := by
  have hd : decide (r < 128) = false := by simp; omega
  by_cases hF : r = 65533
  · subst hF
    refine (callsIn_wide (n := 9)).1 ?_
    refine callsIn_of_wp Try.func73 rfl trivial ?_ rfl
    simp only [Try.ntmps73, List.size_toArray, List.length_cons, List.length_nil, Nat.reduceAdd, Nat.reduceSub, Array.replicate_succ, Array.replicate_zero, List.push_toArray, List.append_toArray, List.nil_append, List.cons_append]
    gi_wp2
    gi_loopw [] (fun wr => ∃ pos : Nat, pos ≤ 5 ∧ wr.heap[w.heap.size]? = some (.stringIter ⟨#[32, 73, 82, 70, 80]⟩ pos) ∧ Below w.heap.size w wr) (fun wr => 5 - wr.iterPos w.heap.size)
    case atStart => exact ⟨0, by omega, World.iter_heap w _ 0, below_alloc (Below.refl _ _) _⟩
    case round =>
      obtain ⟨pos, hp5, hit, hbw⟩ := hrel
      by_cases hp : pos < (⟨#[32, 73, 82, 70, 80]⟩ : ByteArray).size
      · have ha : ((⟨#[32, 73, 82, 70, 80]⟩ : ByteArray)[pos]'hp).toNat < 128 := by
          have : pos = 0 ∨ pos = 1 ∨ pos = 2 ∨ pos = 3 ∨ pos = 4 := by have : pos < 5 := hp; omega
          rcases this with rfl | rfl | rfl | rfl | rfl <;> decide +revert
        have hnx : ∀ ty, (Instr.next (.pointer (some ⟨w.heap.size, 0, none⟩)) true ty).run Try.prog wr = _ := fun ty => Lib.run_next_ascii_at wr w.heap.size _ pos ty hit hp ha
        obtain ⟨x, hx⟩ : ∃ x, ((⟨#[32, 73, 82, 70, 80]⟩ : ByteArray)[pos]'hp).toNat = x := ⟨_, rfl⟩
        rw [hx] at hnx ha
        have hx2 : ¬ (x : Int) = 65533 := by omega
        have hit2 := Lib.iterAt_heap wr w.heap.size _ pos (pos + 1) hit
        have hbw2 := Lib.below_iterAt hbw (k := w.heap.size) (by omega) ⟨#[32, 73, 82, 70, 80]⟩ (pos + 1)
        have hp5' : pos < 5 := hp
        clear ha hx
        gi_wp2
        go_roundw
        case rel => exact ⟨pos + 1, by omega, hit2, hbw2⟩
        case measure => simp only [World.iterPos, hit2, hit]; omega
      · have hnx : ∀ ty, (Instr.next (.pointer (some ⟨w.heap.size, 0, none⟩)) true ty).run Try.prog wr = _ := fun ty => Lib.run_next_end_at wr w.heap.size _ pos ty hit hp
        gi_wp2
        go_ret
        exact ⟨rfl, hbw⟩
  · refine (callsIn_wide (n := 9)).1 ?_
    refine callsIn_of_wp Try.func73 rfl trivial ?_ rfl
    simp only [Try.ntmps73, List.size_toArray, List.length_cons, List.length_nil, Nat.reduceAdd, Nat.reduceSub, Array.replicate_succ, Array.replicate_zero, List.push_toArray, List.append_toArray, List.nil_append, List.cons_append]
    cases hv : Lib.validRune r
    · gi_wp2_with (gi_at_call 94; refine (callsIn_wide.2 (Try.utf8_ValidRune r _)).mono ?_; rintro e w1 ⟨rfl, rfl⟩; simp only [hv])
      go_ret
      exact ⟨rfl, Below.refl _ _⟩
    · gi_wp2_with (gi_at_call 94; refine (callsIn_wide.2 (Try.utf8_ValidRune r _)).mono ?_; rintro e w1 ⟨rfl, rfl⟩; simp only [hv])
      obtain ⟨n, hn, hn1, hn3, hb⟩ := enc_last r h0 h1
      have hN : wrap64 (((Utf8.encode r).size : Int) - 1) = n := by rw [hn]; unfold wrap64; omega
      obtain ⟨rs, hrs⟩ : ∃ rs, Utf8.encode r = rs := ⟨_, rfl⟩
      rw [hrs] at hN hn hb
      refine wpIn_scope_straight (wpIn_wide.2 ?_)
      go_wp2
      go_loopw [9] (fun p wr => p = .int .i64 n ∧ wr = w1) (fun _ _ => 0)
      case atStart => exact ⟨rfl, rfl⟩
      case round =>
        obtain ⟨rfl, rfl⟩ := hrel
        have hM := hb (by omega)
        have hM2 : (rs[n]'(by omega)).toNat < 256 := UInt8.toNat_lt _
        have hlt : n < rs.size := by omega
        obtain ⟨M, hMe⟩ : ∃ M, (rs[n]'hlt).toNat = M := ⟨_, rfl⟩
        rw [hMe] at hM hM2
        have hn123 : n = 1 ∨ n = 2 ∨ n = 3 := by omega
        rcases hn123 with rfl | rfl | rfl
        · have q0 : ((⟨#[32, 73, 82, 70, 80]⟩ : ByteArray)[1]'(by decide)).toNat = 73 := by decide
          have qw : IntKind.i64.wrap 2 = 2 := by decide
          have q1 : ((73 : Int) == (M : Int)) = false := by simp; omega
          go_wp2
          refine wp_scope_straight ?_
          go_wp2
          go_quiet ((fail))
          go_wp2
          generalize hX : wr.drewN nq = wX
          have hbX : Below wr.heap.size wr wX := by rw [← hX]; exact below_drewN (Below.refl _ _) _
          have hZ : Lib.indexByte ((⟨#[32, 73, 82, 70, 80]⟩ : ByteArray).extract 2 5).data.toList (M : Int).toNat.toUInt8 = -1 := idx_high M hM hM2 _ (by decide)
          clear hX
          go_quiet ((go_at_call 93; exact Calls.quiet_of_same (Try.strings_IndexByte _ _ _)))
          rw [hZ]
          go_wp2
          rw [Exit.noGoto_ret]
          repeat (refine (?_ : Exit.noGoto _ Exit.ret _ _); rw [Exit.noGoto_ret])
          go_ret
          exact ⟨rfl, below_drewN hbX _⟩
        · have q0 : ((⟨#[32, 73, 82, 70, 80]⟩ : ByteArray)[2]'(by decide)).toNat = 82 := by decide
          have qw : IntKind.i64.wrap 3 = 3 := by decide
          have q1 : ((82 : Int) == (M : Int)) = false := by simp; omega
          go_wp2
          refine wp_scope_straight ?_
          go_wp2
          go_quiet ((fail))
          go_wp2
          generalize hX : wr.drewN nq = wX
          have hbX : Below wr.heap.size wr wX := by rw [← hX]; exact below_drewN (Below.refl _ _) _
          have hZ : Lib.indexByte ((⟨#[32, 73, 82, 70, 80]⟩ : ByteArray).extract 3 5).data.toList (M : Int).toNat.toUInt8 = -1 := idx_high M hM hM2 _ (by decide)
          clear hX
          go_quiet ((go_at_call 93; exact Calls.quiet_of_same (Try.strings_IndexByte _ _ _)))
          rw [hZ]
          go_wp2
          rw [Exit.noGoto_ret]
          repeat (refine (?_ : Exit.noGoto _ Exit.ret _ _); rw [Exit.noGoto_ret])
          go_ret
          exact ⟨rfl, below_drewN hbX _⟩
        · have q0 : ((⟨#[32, 73, 82, 70, 80]⟩ : ByteArray)[3]'(by decide)).toNat = 70 := by decide
          have qw : IntKind.i64.wrap 4 = 4 := by decide
          have q1 : ((70 : Int) == (M : Int)) = false := by simp; omega
          go_wp2
          refine wp_scope_straight ?_
          go_wp2
          go_quiet ((fail))
          go_wp2
          generalize hX : wr.drewN nq = wX
          have hbX : Below wr.heap.size wr wX := by rw [← hX]; exact below_drewN (Below.refl _ _) _
          have hZ : Lib.indexByte ((⟨#[32, 73, 82, 70, 80]⟩ : ByteArray).extract 4 5).data.toList (M : Int).toNat.toUInt8 = -1 := idx_high M hM hM2 _ (by decide)
          clear hX
          go_quiet ((go_at_call 93; exact Calls.quiet_of_same (Try.strings_IndexByte _ _ _)))
          rw [hZ]
          go_wp2
          rw [Exit.noGoto_ret]
          repeat (refine (?_ : Exit.noGoto _ Exit.ret _ _); rw [Exit.noGoto_ret])
          go_ret
          exact ⟨rfl, below_drewN hbX _⟩
end Go.Proofs.Ytacmajlbaenjfaa

/- value.Types: a text's types. -/
namespace Go.Proofs.Ytacmajlbaenjfaa
open Go.RowKit Go.Shelf Go.Proofs.YtacmajlbaenjfaaW.PrintWords Go.Proofs.YtacmajlbaenjfaaW.PrintLast Go.Proofs.YtacmajlbaenjfaaW.PrintMore

/-- A letter's type; whether a byte is a letter. -/
def ltT (b : UInt8) : Int := Lib.indexByte [32, 73, 82, 70, 80] b
def ltB (b : UInt8) : Bool := knownT (ltT b)
def tyL (l : List UInt8) : List Int := l.map ltT
def typesT (l : List UInt8) : List Int × Int := if l.all ltB ∧ l.length ≤ 1024 then (tyL l, 0) else ([], 20)
theorem ltB_high (b : UInt8) (h : 128 ≤ b.toNat) : ltB b = false := by
  unfold ltB ltT
  have e : b = UInt8.ofNat b.toNat := by simp
  rw [e, idx_high b.toNat h b.toNat_lt _ (by decide)]
  rfl
theorem take_snoc (s : ByteArray) (k : Nat) (h : k < s.size) : s.data.toList.take (k + 1) = s.data.toList.take k ++ [s[k]] := by
  rw [List.take_succ_eq_append_getElem (by simpa using h)]; rfl
theorem all_not {s : ByteArray} {k : Nat} (h : k < s.size) (hb : ltB (s[k]) = false) : typesT s.data.toList = ([], 20) := by
  unfold typesT
  rw [if_neg]
  intro ⟨h1, _⟩
  have := List.all_eq_true.1 h1 (s[k]) (by rw [show s[k] = s.data.toList[k]'(by simpa using h) from rfl]; exact List.getElem_mem _)
  rw [hb] at this; cases this

theorem own_no_iter {w : World} {B : Nat} {e : TypeId} {size n : Nat} {v : Value} {xs : List Value} {k : Nat} {s : ByteArray} {pos : Nat} (h : w.ownsRow B e size v n xs) (hk : w.heap[k]? = some (.stringIter s pos)) : some k ≠ v.ownBlock := by
  intro e'
  rcases h.2 with ⟨rfl, _⟩ | ⟨g, cap, cur, rfl, _, hg, _⟩
  · simp [Value.ownBlock] at e'
  · obtain rfl : k = g := by simpa [Value.ownBlock] using e'
    rw [hk] at hg; cases hg
theorem own_iter {w : World} {B : Nat} {e : TypeId} {size n : Nat} {v : Value} {xs : List Value} {k : Nat} {s : ByteArray} {pos : Nat} (h : w.ownsRow B e size v n xs) (hk : w.heap[k]? = some (.stringIter s pos)) (p' : Nat) : (w.iterAt k s p').ownsRow B e size v n xs :=
  own_move h (fun j hj => Lib.iterAt_other w k j s p' (fun e' => own_no_iter h hk (by rw [← e', hj])))

set_option maxRecDepth 100000 in
set_option maxHeartbeats 2000000 in
theorem Types48_any (w : World) (s : ByteArray) (hs : s.size ≤ 1000000) :
    Calls Try.prog 48 #[.string s] w fun e w' => ∃ u, e = .returned (.tuple #[u, .int .i64 (typesT s.data.toList).2]) ∧
      w'.ownsRow w.heap.size 3 1 u (typesT s.data.toList).1.length (nums .i64 (typesT s.data.toList).1) ∧ Below w.heap.size w w' := by
  obtain ⟨i0, hi0, hz0, hz1, hz2⟩ := info_parts info3
  go_enter Try.func48, Try.ntmps48
  go_wp2
  go_loopw [4] (fun p wr => ∃ k : Nat, k ≤ s.size ∧ (s.data.toList.take k).all ltB = true ∧ wr.heap[w.heap.size]? = some (.stringIter s k) ∧ wr.ownsRow w.heap.size 3 1 p k (nums .i64 (tyL (s.data.toList.take k))) ∧ Below w.heap.size w wr) (fun _ wr => s.size - wr.iterPos w.heap.size)
  case atStart => exact ⟨0, by omega, rfl, World.iter_heap w s 0, World.ownsRow_nil _ _ _ _, below_alloc (Below.refl _ _) _⟩
  case round =>
    obtain ⟨k, hk, hall, hit, hown, hbw⟩ := hrel
    by_cases hp : k < s.size
    · by_cases ha : (s[k]'hp).toNat < 128
      · have hnx : ∀ ty, (Instr.next (.pointer (some ⟨w.heap.size, 0, none⟩)) true ty).run Try.prog wr = _ := fun ty => Lib.run_next_ascii_at wr w.heap.size s k ty hit hp ha
        have hit2 := Lib.iterAt_heap wr w.heap.size s k (k + 1) hit
        have hown2 := own_iter hown hit (k + 1)
        have hbw2 := Lib.below_iterAt hbw (k := w.heap.size) (by omega) s (k + 1)
        have hix : ∀ W, Calls Try.prog 73 #[.string ⟨#[32, 73, 82, 70, 80]⟩, .int .i32 (((s[k]'hp).toNat : Nat) : Int)] W fun e w' => e = .returned (.int .i64 (ltT (s[k]'hp))) ∧ w' = W := fun W => by
          have := Try.strings_IndexRune_ascii ⟨#[32, 73, 82, 70, 80]⟩ (((s[k]'hp).toNat : Nat) : Int) W (by omega) (by omega)
          simpa [ltT] using this
        have HIT2 := Lib.hid hit2
        have HOWN2 := Lib.hid hown2
        have HBW2 := Lib.hid hbw2
        have HIT := Lib.hid hit
        have HIX := Lib.hid hix
        generalize hW : wr.iterAt w.heap.size s (k + 1) = W2 at *
        cases hb : ltB (s[k]'hp)
        · have hT := all_not hp hb
          have HKn := Lib.hid (known_any (ltT (s[k]'hp)) false hb.symm)
          have HT := Lib.hid hT
          clear hit hit2 hown hown2 hbw hbw2 hW hix hb hT ha
          go_wp2_with (first | (go_at_call 73; refine (HIX.out _).mono ?_; rintro e w3 ⟨rfl, rfl⟩) | (go_at_call 74; refine (HKn.out _).mono ?_; rintro e w3 ⟨rfl, mk, rfl⟩))
          go_ret2
          rw [HT.out]
          exact ⟨_, rfl, World.ownsRow_nil _ _ _ _, pw_below_drewN HBW2.out _⟩
        · have HKn := Lib.hid (known_any (ltT (s[k]'hp)) true hb.symm)
          have HBt := Lib.hid hb
          have HAL := Lib.hid hall
          obtain ⟨A1, c1, rfl⟩ := own_slice HOWN2.out
          clear hit hit2 hown hown2 hbw hbw2 hW hix hb ha hall
          go_wp2_with (first | (go_at_call 73; refine (HIX.out _).mono ?_; rintro e w3 ⟨rfl, rfl⟩) | (go_at_call 74; refine (HKn.out _).mono ?_; rintro e w3 ⟨rfl, mk, hmk⟩; have HB3 := Lib.hid (hmk ▸ pw_below_drewN HBW2.out mk); have HO3 := Lib.hid (show w3.ownsRow w.heap.size 3 1 (.slice A1 k c1) k (nums .i64 (tyL (s.data.toList.take k))) by rw [hmk]; exact HOWN2.out); have HI3 := Lib.hid (show w3.heap[w.heap.size]? = some (.stringIter s (k + 1)) by rw [hmk]; exact HIT2.out); clear hmk) | (at_builtin; refine wpList_append_own _ rfl _ _ 22 rfl w.heap.size 3 i0 (.int .i64 0) 1 8 Try.underlying22 hi0 hz0 hz1 hz2 rfl (by decide) _ _ _ rfl (HO3.out.alloc _) ⟨w3.heap.size, 0, none⟩ 1 1 [.int .i64 (ltT (s[k]'hp))] rfl rfl (cell_one_at _ _ _ rfl) (by simp [Value.oneCell']) (by unfold maxLen; omega) (by omega) (by have := HB3.out.size; simp; omega) ?_; intro o2 w4 hown4 hg4 _; have HO4 := Lib.hid hown4; have HG4 := Lib.hid hg4; clear hown4 hg4))
          go_roundw
          case rel =>
            have hsz3 := blk_lt HI3.out
            have hit4 : w4.heap[w.heap.size]? = some (.stringIter s (k + 1)) := (HG4.out.block _ (by simp; omega) (own_no_iter HO3.out HI3.out)).trans ((World.alloc_heap_old' _ _ hsz3).trans HI3.out)
            refine ⟨k + 1, by omega, ?_, hit4, ?_, ?_⟩
            · rw [take_snoc s k hp, List.all_append, HAL.out]; simp [HBt.out]
            · rw [take_snoc s k hp]
              unfold tyL
              rw [List.map_append, nums_append]
              exact HO4.out
            · have hbA := below_then HB3.out (Nat.le_trans (by omega) HB3.out.size) (below_alloc (Below.refl _ w3) (.cells #[.int .i64 (ltT (s[k]'hp))] 3))
              exact hbA.grown HG4.out hbA.size (fun j hj => own_base HO3.out j hj)
          case measure =>
            have hsz3 := blk_lt HI3.out
            have hit4 : w4.heap[w.heap.size]? = some (.stringIter s (k + 1)) := (HG4.out.block _ (by simp; omega) (own_no_iter HO3.out HI3.out)).trans ((World.alloc_heap_old' _ _ hsz3).trans HI3.out)
            simp only [World.iterPos, hit4, HIT.out]; omega
      · have ha' : 128 ≤ (s[k]'hp).toNat := by omega
        have hnx : ∀ ty, (Instr.next (.pointer (some ⟨w.heap.size, 0, none⟩)) true ty).run Try.prog wr = _ := fun ty => Lib.run_next_any_at wr w.heap.size s k ty hit hp
        obtain ⟨hc1, hc2⟩ := decode_high s k hp ha'
        have hc3 := decode_le s k
        obtain ⟨c, hc⟩ : ∃ c, (Utf8.decode s k).1 = c := ⟨_, rfl⟩
        rw [hc] at hnx hc1 hc3
        have hbw2 := Lib.below_iterAt hbw (k := w.heap.size) (by omega) s (k + (Utf8.decode s k).2)
        have HBW2 := Lib.hid hbw2
        generalize hW : wr.iterAt w.heap.size s (k + (Utf8.decode s k).2) = W2 at *
        have HIX := Lib.hid (fun W => IndexRune_high W (c : Int) (by omega) (by omega))
        have HKn := Lib.hid (known_any (-1) false rfl)
        have HT := Lib.hid (all_not hp (ltB_high _ ha'))
        clear hit hown hbw hbw2 hW ha ha' hc hc1 hc2 hc3
        go_wp2_with (first | (go_at_call 73; refine (HIX.out _).mono ?_; rintro e w3 ⟨rfl, hb3⟩; have HB3 := Lib.hid (below_then HBW2.out HBW2.out.size hb3); clear hb3) | (go_at_call 74; refine (HKn.out _).mono ?_; rintro e w3 ⟨rfl, mk, rfl⟩))
        go_ret2
        rw [HT.out]
        exact ⟨_, rfl, World.ownsRow_nil _ _ _ _, pw_below_drewN HB3.out _⟩
    · obtain rfl : k = s.size := by omega
      have hnx : ∀ ty, (Instr.next (.pointer (some ⟨w.heap.size, 0, none⟩)) true ty).run Try.prog wr = _ := fun ty => Lib.run_next_end_at wr w.heap.size s _ ty hit hp
      obtain ⟨A2, c2, rfl⟩ := own_slice hown
      have e1 : s.data.toList.take s.size = s.data.toList := List.take_of_length_le (by simp)
      rw [e1] at hall hown
      by_cases hl : s.size ≤ 1024
      · have HT : Hid (typesT s.data.toList = (tyL s.data.toList, 0)) := Lib.hid (by unfold typesT; rw [if_pos ⟨hall, by simpa using hl⟩])
        have hl' : ¬ (1024 : Int) < (s.size : Int) := by omega
        have HOWN := Lib.hid hown
        clear hown hall hl
        go_wp2
        go_ret2
        rw [HT.out]
        refine ⟨_, rfl, ?_, hbw⟩
        have e2 : (tyL s.data.toList).length = s.size := by simp [tyL]
        show wr.ownsRow w.heap.size 3 1 _ (tyL s.data.toList).length (nums .i64 (tyL s.data.toList))
        rw [e2]
        exact HOWN.out
      · have HT : Hid (typesT s.data.toList = ([], 20)) := Lib.hid (by unfold typesT; rw [if_neg (fun h => hl (by simpa using h.2))])
        have hl' : (1024 : Int) < (s.size : Int) := by omega
        clear hown hall hl
        go_wp2
        go_ret2
        rw [HT.out]
        exact ⟨_, rfl, World.ownsRow_nil _ _ _ _, hbw⟩
end Go.Proofs.Ytacmajlbaenjfaa

/- value.Text: types' letters. -/
namespace Go.Proofs.Ytacmajlbaenjfaa
open Go.RowKit Go.Shelf Go.Proofs.YtacmajlbaenjfaaW.PrintWords Go.Proofs.YtacmajlbaenjfaaW.PrintLast Go.Proofs.YtacmajlbaenjfaaW.PrintMore
open Go.Proofs.Ytacmajlbaenjfaa.PRef

/-- A type's letter. -/
def ltr (t : Int) : UInt8 := if t = 1 then 73 else if t = 2 then 82 else if t = 3 then 70 else 80
def textL (xs : List Int) : List UInt8 := if xs.all knownT ∧ xs.length ≤ 1024 then xs.map ltr else []
theorem letter_any (t : Int) (ht : knownT t = true) (w : World) : Calls Try.prog 78 #[.int .i64 t] w fun e w' => e = .returned (.string ⟨#[ltr t]⟩) ∧ ∃ n, w' = w.drewN n := by
  have h4 : t = 1 ∨ t = 2 ∨ t = 3 ∨ t = 4 := by unfold knownT at ht; simp at ht; omega
  rcases h4 with rfl | rfl | rfl | rfl <;> exact (value_Letter.calls _ _ w (by decide +kernel)).mono fun _ _ ⟨h1, ⟨h2⟩⟩ => ⟨h1, h2⟩
theorem BIs.isF {W : World} {b base B : Nat} {v : Value} {bs : List Value} (h : BIs W b base v bs) (hb : B ≤ b) (hB : B ≤ base) : Lib.IsBuilderF 95 5 B b bs W := by
  have less : ∀ n, W.ownsRowF base 5 1 v n bs → W.ownsRowF B 5 1 v n bs := by
    rintro n ⟨h1, h2⟩
    refine ⟨h1, ?_⟩
    rcases h2 with h2 | ⟨g, cap, cur, fz, hv, hg, rest⟩
    · exact .inl h2
    · exact .inr ⟨g, cap, cur, fz, hv, by omega, rest⟩
  rcases h with ⟨h1, h2⟩ | ⟨h1, h2⟩
  · exact .inl ⟨hb, v, h1, less _ h2, Lib.ownBlock_neF h2 h1 (by decide)⟩
  · exact .inr ⟨hb, v, h1, less _ h2, Lib.ownBlock_neF h2 h1 (by decide)⟩
theorem BIs.lo {W : World} {b base : Nat} {v : Value} {bs : List Value} (h : BIs W b base v bs) (i : Nat) (hi : v.ownBlock = some i) : base ≤ i :=
  h.elim (fun h => (h.2.lt i hi).1) (fun h => (h.2.lt i hi).1)
theorem BIs.below {W W' : World} {b base : Nat} {v : Value} {bs : List Value} (h : BIs W b base v bs) (hb : Below W.heap.size W W') : BIs W' b base v bs := by
  have key : ∀ p, BAt W b base p v bs → BAt W' b base p v bs := fun p ⟨h1, h2⟩ => ⟨(hb.block b (blk_lt h1)).trans h1, ownF_fr h2 (Fr.of_below (S := fun _ => False) hb) (fun _ _ h => h)⟩
  exact h.elim (fun h => .inl (key _ h)) (fun h => .inr (key _ h))

set_option maxRecDepth 100000 in
set_option maxHeartbeats 2000000 in
theorem Text52_any (w : World) (A : Option Addr) (c : Nat) (xs : List Int) (hC : (Kd.int .i64).C w A xs.length xs) :
    Calls Try.prog 52 #[.slice A xs.length c] w fun e w' => e = .returned (.string ⟨(textL xs).toArray⟩) ∧ Below w.heap.size w w' := by
  by_cases hl : xs.length ≤ 1024
  case neg =>
    have hT : textL xs = [] := by unfold textL; rw [if_neg (fun h => hl h.2)]
    have hl' : (1024 : Int) < (xs.length : Int) := by omega
    rw [hT]
    clear hC hT hl
    go_enter Try.func52, Try.ntmps52
    go_wp2
    go_ret
    exact ⟨rfl, Below.refl _ _⟩
  case pos =>
    have hl' : ¬ (1024 : Int) < (xs.length : Int) := by omega
    have HC := Lib.hid hC
    have hB0 := below_alloc (Below.refl w.heap.size w) (.cells #[.pointer none, .slice none 0 0] 95)
    have hbi : BIs (w.alloc (.cells #[.pointer none, .slice none 0 0] 95)) w.heap.size w.heap.size (.slice none 0 0) [] := .inl ⟨World.alloc_heap_new _ _, World.ownsRowF_nil _ _ _ _⟩
    have HB0 := Lib.hid hB0
    have HBI := Lib.hid hbi
    obtain ⟨n, hn⟩ : ∃ n, xs.length = n := ⟨_, rfl⟩
    have HN := Lib.hid hn
    rw [hn] at hl hl' ⊢
    clear hC hB0 hbi hn
    go_enter Try.func52, Try.ntmps52
    go_wp2
    go_loopw [11] (fun p wr => ∃ (k : Nat) (v : Value), k ≤ n ∧ p = .int .i64 k ∧ (xs.take k).all knownT = true ∧ Aside0 (BIs wr w.heap.size w.heap.size v (Lib.byteCells ((xs.take k).map ltr))) ∧ Aside0 (Below w.heap.size w wr)) (fun p _ => n - (intOf p).toNat)
    case atStart => exact ⟨0, _, by omega, rfl, rfl, Aside0.mk HBI.out, Aside0.mk HB0.out⟩
    case round =>
      obtain ⟨k, v, hk, rfl, hall, HI, HB⟩ := hrel
      by_cases hp : k < n
      · have hp2 : (k : Int) < (n : Int) := by omega
        obtain ⟨ad, hA, e1⟩ := Kd.at_int (Kd.C_below HC.out HB.out) (k : Int) (by omega) (by have := HN.out; omega)
        subst hA
        rw [Int.toNat_natCast] at e1
        obtain ⟨t, ht⟩ : ∃ t, rd xs (k : Int) = t := ⟨_, rfl⟩
        rw [ht] at e1
        have htm : t ∈ xs := by rw [← ht]; exact List.mem_of_getElem? (rd_mem (by have := HN.out; omega))
        have hts : xs.take (k + 1) = xs.take k ++ [t] := by
          rw [List.take_add_one, rd_mem (xs := xs) (by have := HN.out; omega), ht]; rfl
        cases hkt : knownT t
        · have hT : textL xs = [] := by
            unfold textL
            rw [if_neg]
            intro ⟨h1, _⟩
            have := List.all_eq_true.1 h1 t htm
            rw [hkt] at this; cases this
          have HKn := Lib.hid (known_any t false hkt.symm)
          have HT := Lib.hid hT
          clear hT hall htm hts ht hkt
          go_wp2_with (go_at_call 74; refine (HKn.out _).mono ?_; rintro e w3 ⟨rfl, mk, rfl⟩)
          go_ret
          rw [HT.out]
          exact ⟨rfl, pw_below_drewN HB.out _⟩
        · have HKn := Lib.hid (known_any t true hkt.symm)
          have HLt := Lib.hid (letter_any t hkt)
          have hle : (Lib.byteCells ((xs.take k).map ltr)).length + (⟨#[ltr t]⟩ : ByteArray).size ≤ 140737488355328 := by
            rw [Lib.byteCells_length, List.length_map, List.length_take, show (⟨#[ltr t]⟩ : ByteArray).size = 1 from rfl]; omega
          have HTS := Lib.hid hts
          have HAL := Lib.hid hall
          have HKT := Lib.hid hkt
          clear hall htm hts ht hkt
          go_wp2_with (first | (go_at_call 74; refine (HKn.out _).mono ?_; rintro e w3 ⟨rfl, mk, hmk⟩; have HB3 := Lib.hid (pw_below_drewN (Below.refl wr.heap.size wr) mk); rw [← hmk] at HB3; clear hmk) | (go_at_call 78; refine (HLt.out _).mono ?_; rintro e w4 ⟨rfl, mk, hmk⟩; have HB4 := Lib.hid (pw_below_drewN HB3.out mk); rw [← hmk] at HB4; clear hmk) | (go_at_call 63; refine (WriteString63_any _ w.heap.size w.heap.size v _ ⟨#[ltr t]⟩ (HI.out.below HB4.out) hle (Nat.le_trans HB.out.size HB4.out.size)).mono ?_; rintro e w5 ⟨r5, v5, rfl, h5, f5⟩; have H5 := Lib.hid h5; have F5 := Lib.hid f5; clear h5 f5))
          go_roundw
          case rel =>
            refine ⟨k + 1, v5, by omega, by go_num, ?_, Aside0.mk (.inr ?_), Aside0.mk ?_⟩
            · rw [HTS.out, List.all_append, HAL.out]; simp [HKT.out]
            · rw [HTS.out, List.map_append, Lib.byteCells_append]; exact H5.out
            · refine (below_then HB.out HB.out.size HB4.out).trans (F5.out.below (Nat.le_trans HB.out.size HB4.out.size) (fun i hi hS => ?_))
              rcases hS with h | h
              · omega
              · have := HI.out.lo i h; omega
          case measure => simp [intOf]; omega
      · obtain rfl : k = n := by omega
        have hp2 : ¬ (k : Int) < (k : Int) := by omega
        have e1 : xs.take k = xs := List.take_of_length_le (by have := HN.out; omega)
        rw [e1] at hall HI
        have hT : textL xs = xs.map ltr := by unfold textL; rw [if_pos ⟨hall, by have := HN.out; omega⟩]
        have HT := Lib.hid hT
        clear hall hT e1
        go_wp2_with (go_at_call 59; refine (Try.Builder_String_any_f w.heap.size w.heap.size _ _ (HI.out.isF (Nat.le_refl _) (Nat.le_refl _)) HB.out.size).mono ?_; rintro e w3 ⟨rfl, _, hb3⟩)
        go_ret
        rw [HT.out]
        exact ⟨rfl, HB.out.trans hb3⟩
end Go.Proofs.Ytacmajlbaenjfaa

/- Encode, Decode, Cell, Read, Show. -/
namespace Go.Proofs.Ytacmajlbaenjfaa
open Go.RowKit Go.Shelf Go.Proofs.YtacmajlbaenjfaaW.PrintWords Go.Proofs.YtacmajlbaenjfaaW.PrintLast Go.Proofs.YtacmajlbaenjfaaW.PrintMore

theorem own_CI {w : World} {base : Nat} {A : Option Addr} {n c : Nat} {xs : List Int} (h : w.ownsRow base 3 1 (.slice A n c) xs.length (nums .i64 xs)) : n = xs.length ∧ n ≤ c ∧ (Kd.int .i64).C w A xs.length xs :=
  Kd.R_reads' (Kd.R_of_own (ok := fun _ => True) h (fun _ _ => trivial))
/-- What Encode answers: the bytes, the error. -/
def encSh (xs : List Int) : List Int × Int := if shapeOk xs then (packL xs, 0) else ([], 60)
def decSh (bs : List Int) (p : Nat) : List Int × Int × Nat := if (typesR bs p 16).1 ∧ shapeOk (typesR bs p 16).2.1 then ((typesR bs p 16).2.1, 0, (typesR bs p 16).2.2) else ([], 60, (typesR bs p 16).2.2)
def cellSh (xs : List Int) (i : Int) : Int × Int := if shapeOk xs ∧ 0 ≤ i ∧ i < xs.length then (rd xs i, 0) else (0, 60)
def readSh (l : List UInt8) : List Int × Int := if (typesT l).2 = 0 ∧ shapeOk (typesT l).1 then ((typesT l).1, 0) else ([], 60)
def showSh (xs : List Int) : List UInt8 := if shapeOk xs then textL xs else []
theorem shapeOk_len {xs : List Int} (h : shapeOk xs = true) : 1 ≤ xs.length ∧ xs.length ≤ 16 := by
  unfold shapeOk at h; simp at h; omega
theorem shapeOk_mem {xs : List Int} (h : shapeOk xs = true) : ∀ x ∈ xs, 1 ≤ x ∧ x ≤ 3 := by
  unfold shapeOk at h
  intro x hx
  simp at h
  have := h.2 x hx
  unfold tyB knownT at this
  simp at this
  omega
theorem Check_yes (w : World) (A : Option Addr) (c : Nat) (xs : List Int) (hC : (Kd.int .i64).C w A xs.length xs) (h : shapeOk xs = true) :
    Calls Try.prog 22 #[.slice A xs.length c] w fun e w' => e = .returned (.int .i64 0) ∧ Below w.heap.size w w' := by
  have := Check_any w A c xs hC
  rwa [if_pos h] at this
theorem Check_no (w : World) (A : Option Addr) (c : Nat) (xs : List Int) (hC : (Kd.int .i64).C w A xs.length xs) (h : shapeOk xs = false) :
    Calls Try.prog 22 #[.slice A xs.length c] w fun e w' => e = .returned (.int .i64 60) ∧ Below w.heap.size w w' := by
  have := Check_any w A c xs hC
  rwa [if_neg (by rw [h]; decide)] at this

set_option maxRecDepth 100000 in
set_option maxHeartbeats 1000000 in
theorem Encode11_any (w : World) (A : Option Addr) (c : Nat) (xs : List Int) (hC : (Kd.int .i64).C w A xs.length xs) :
    Calls Try.prog 11 #[.slice A xs.length c] w fun e w' => ∃ u, e = .returned (.tuple #[u, .int .i64 (encSh xs).2]) ∧ w'.ownsRow w.heap.size 5 1 u (encSh xs).1.length (nums .u8 (encSh xs).1) ∧ Below w.heap.size w w' := by
  have HC := Lib.hid hC
  cases h : shapeOk xs
  · have e : encSh xs = ([], 60) := by unfold encSh; rw [h]; rfl
    rw [e]
    have HK := Lib.hid (Check_no w A c xs hC h)
    clear hC h e
    go_enter Try.func11, Try.ntmps11
    go_wp2_with (go_at_call 22; refine HK.out.mono ?_; rintro e w1 ⟨rfl, hb⟩)
    go_ret2
    exact ⟨_, rfl, World.ownsRow_nil _ _ _ _, hb⟩
  · have e : encSh xs = (packL xs, 0) := by unfold encSh; rw [h]; rfl
    rw [e]
    have HK := Lib.hid (Check_yes w A c xs hC h)
    have HP := Lib.hid (fun W (hb : Below w.heap.size w W) => packed43_any W A c xs (Kd.C_below HC.out (w1 := W) hb) (by have := shapeOk_len h; omega) (fun x hx => by have := shapeOk_mem h x hx; omega))
    clear hC h e
    go_enter Try.func11, Try.ntmps11
    go_wp2_with (first | (go_at_call 22; refine HK.out.mono ?_; rintro e w1 ⟨rfl, hb⟩; have HB := Lib.hid hb; clear hb) | (go_at_call 43; refine (HP.out _ HB.out).mono ?_; rintro e w2 ⟨u, rfl, hu, hb⟩; have HU := Lib.hid hu; have HB2 := Lib.hid hb; clear hu hb))
    go_ret2
    exact ⟨_, rfl, own_less HU.out HB.out.size, below_then HB.out HB.out.size HB2.out⟩

set_option maxRecDepth 100000 in
set_option maxHeartbeats 1000000 in
theorem Show24_any (w : World) (A : Option Addr) (c : Nat) (xs : List Int) (hC : (Kd.int .i64).C w A xs.length xs) :
    Calls Try.prog 24 #[.slice A xs.length c] w fun e w' => e = .returned (.string ⟨(showSh xs).toArray⟩) ∧ Below w.heap.size w w' := by
  have HC := Lib.hid hC
  cases h : shapeOk xs
  · have e : showSh xs = [] := by unfold showSh; rw [h]; rfl
    rw [e]
    have HK := Lib.hid (Check_no w A c xs hC h)
    clear hC h e
    go_enter Try.func24, Try.ntmps24
    go_wp2_with (go_at_call 22; refine HK.out.mono ?_; rintro e w1 ⟨rfl, hb⟩)
    go_ret
    exact ⟨rfl, hb⟩
  · have e : showSh xs = textL xs := by unfold showSh; rw [h]; rfl
    rw [e]
    have HK := Lib.hid (Check_yes w A c xs hC h)
    have HP := Lib.hid (fun W (hb : Below w.heap.size w W) => Text52_any W A c xs (Kd.C_below HC.out (w1 := W) hb))
    clear hC h e
    go_enter Try.func24, Try.ntmps24
    go_wp2_with (first | (go_at_call 22; refine HK.out.mono ?_; rintro e w1 ⟨rfl, hb⟩; have HB := Lib.hid hb; clear hb) | (go_at_call 52; refine (HP.out _ HB.out).mono ?_; rintro e w2 ⟨rfl, hb⟩; have HB2 := Lib.hid hb; clear hb))
    go_ret
    exact ⟨rfl, below_then HB.out HB.out.size HB2.out⟩

set_option maxRecDepth 100000 in
set_option maxHeartbeats 1000000 in
theorem Cell16_any (w : World) (A : Option Addr) (c : Nat) (xs : List Int) (i : Int) (hC : (Kd.int .i64).C w A xs.length xs) :
    Calls Try.prog 16 #[.slice A xs.length c, .int .i64 i] w fun e w' => e = .returned (.tuple #[.int .i64 (cellSh xs i).1, .int .i64 (cellSh xs i).2]) ∧ Below w.heap.size w w' := by
  have HC := Lib.hid hC
  obtain ⟨n, hn⟩ : ∃ n, xs.length = n := ⟨_, rfl⟩
  by_cases hi : shapeOk xs = true ∧ 0 ≤ i ∧ i < xs.length
  · have e : cellSh xs i = (rd xs i, 0) := by unfold cellSh; rw [if_pos hi]
    obtain ⟨h, h0, h1⟩ := hi
    rw [e]
    have hk := Check_yes w A c xs hC h
    have hrd := fun W (hb : Below w.heap.size w W) => Kd.at_int (Kd.C_below HC.out (w1 := W) hb) i h0 (by omega)
    have HRD := Lib.hid hrd
    rw [hn] at hk h1 ⊢
    have h2 : ¬ i < 0 := by omega
    have h3 : ¬ (n : Int) ≤ i := by omega
    have HK := Lib.hid hk
    clear hC hk h e hn hrd
    go_enter Try.func16, Try.ntmps16
    go_wp2_with (go_at_call 22; refine HK.out.mono ?_; rintro e w1 ⟨rfl, hb⟩; have HB := Lib.hid hb; obtain ⟨ad, rfl, z1⟩ := HRD.out w1 hb; clear hb)
    go_ret2
    exact ⟨rfl, HB.out⟩
  · have e : cellSh xs i = (0, 60) := by unfold cellSh; rw [if_neg hi]
    rw [e]
    cases h : shapeOk xs
    · have hk := Check_no w A c xs hC h
      rw [hn] at hk ⊢
      have HK := Lib.hid hk
      clear hC h e hi hn hk
      go_enter Try.func16, Try.ntmps16
      go_wp2_with (go_at_call 22; refine HK.out.mono ?_; rintro e w1 ⟨rfl, hb⟩)
      go_ret2
      exact ⟨rfl, hb⟩
    · have hi2 : i < 0 ∨ (xs.length : Int) ≤ i := by
        by_cases h4 : i < 0
        · exact .inl h4
        · by_cases h5 : i < (xs.length : Int)
          · exact absurd ⟨h, by omega, h5⟩ hi
          · exact .inr (by omega)
      have hk := Check_yes w A c xs hC h
      rw [hn] at hk hi2 ⊢
      have HK := Lib.hid hk
      clear hC hk h e hi hn
      by_cases h4 : i < 0
      · clear hi2
        go_enter Try.func16, Try.ntmps16
        go_wp2_with (go_at_call 22; refine HK.out.mono ?_; rintro e w1 ⟨rfl, hb⟩)
        go_ret2
        exact ⟨rfl, hb⟩
      · have h5 : (n : Int) ≤ i := by omega
        clear hi2
        go_enter Try.func16, Try.ntmps16
        go_wp2_with (go_at_call 22; refine HK.out.mono ?_; rintro e w1 ⟨rfl, hb⟩)
        go_ret2
        exact ⟨rfl, hb⟩

set_option maxRecDepth 100000 in
set_option maxHeartbeats 1000000 in
theorem Read18_any (w : World) (s : ByteArray) (hs : s.size ≤ 1000000) :
    Calls Try.prog 18 #[.string s] w fun e w' => ∃ u, e = .returned (.tuple #[u, .int .i64 (readSh s.data.toList).2]) ∧
      w'.ownsRow w.heap.size 3 1 u (readSh s.data.toList).1.length (nums .i64 (readSh s.data.toList).1) ∧ Below w.heap.size w w' := by
  have hk := Types48_any w s hs
  by_cases h1 : (typesT s.data.toList).2 = 0
  · by_cases h2 : shapeOk (typesT s.data.toList).1 = true
    · have e : readSh s.data.toList = ((typesT s.data.toList).1, 0) := by unfold readSh; rw [if_pos ⟨h1, h2⟩]
      rw [e]
      rw [h1] at hk
      generalize (typesT s.data.toList).1 = xs at *
      have HK := Lib.hid hk
      have HS := Lib.hid h2
      clear hk h1 e h2
      go_enter Try.func18, Try.ntmps18
      go_wp2_with (first | (go_at_call 48; refine HK.out.mono ?_; rintro e w1 ⟨u, rfl, hu, hb⟩; obtain ⟨A, c, rfl⟩ := own_slice hu; have HU := Lib.hid hu; have HB := Lib.hid hb; have hk2 := Check_yes w1 A c xs (own_CI hu).2.2 HS.out; have HK2 := Lib.hid hk2; clear hu hb hk2) | (go_at_call 22; refine HK2.out.mono ?_; rintro e w2 ⟨rfl, hb⟩; have HB2 := Lib.hid hb; clear hb))
      go_ret2
      exact ⟨_, rfl, pw_own_below HU.out HB2.out, below_then HB.out HB.out.size HB2.out⟩
    · have e : readSh s.data.toList = ([], 60) := by unfold readSh; rw [if_neg (fun h => h2 h.2)]
      rw [e]
      rw [h1] at hk
      have h2 : shapeOk (typesT s.data.toList).1 = false := by simpa using h2
      generalize (typesT s.data.toList).1 = xs at *
      have HK := Lib.hid hk
      have HS := Lib.hid h2
      clear hk h1 e h2
      go_enter Try.func18, Try.ntmps18
      go_wp2_with (first | (go_at_call 48; refine HK.out.mono ?_; rintro e w1 ⟨u, rfl, hu, hb⟩; obtain ⟨A, c, rfl⟩ := own_slice hu; have HB := Lib.hid hb; have hk2 := Check_no w1 A c xs (own_CI hu).2.2 HS.out; have HK2 := Lib.hid hk2; clear hu hb hk2) | (go_at_call 22; refine HK2.out.mono ?_; rintro e w2 ⟨rfl, hb⟩; have HB2 := Lib.hid hb; clear hb))
      go_ret2
      exact ⟨_, rfl, World.ownsRow_nil _ _ _ _, below_then HB.out HB.out.size HB2.out⟩
  · have e : readSh s.data.toList = ([], 60) := by unfold readSh; rw [if_neg (fun h => h1 h.1)]
    rw [e]
    generalize (typesT s.data.toList).1 = xs at *
    generalize (typesT s.data.toList).2 = er at *
    have HK := Lib.hid hk
    clear hk e
    go_enter Try.func18, Try.ntmps18
    go_wp2_with (go_at_call 48; refine HK.out.mono ?_; rintro e w1 ⟨u, rfl, hu, hb⟩; obtain ⟨A, c, rfl⟩ := own_slice hu; have HB := Lib.hid hb; clear hu hb)
    go_ret2
    exact ⟨_, rfl, World.ownsRow_nil _ _ _ _, HB.out⟩

set_option maxRecDepth 100000 in
set_option maxHeartbeats 1000000 in
theorem Decode14_any (w : World) (g base : Nat) (v : Value) (bs : List Int) (p : Nat) (hR : ReelIs w g base v bs p) :
    Calls Try.prog 14 #[.pointer (some ⟨g, 0, none⟩)] w fun e w' => ∃ u, e = .returned (.tuple #[u, .int .i64 (decSh bs p).2.1]) ∧
      w'.ownsRow w.heap.size 3 1 u (decSh bs p).1.length (nums .i64 (decSh bs p).1) ∧ ReelIs w' g base v bs (p + (decSh bs p).2.2) ∧ Fr (fun i => i = g) w w' := by
  have hk := types46_any w g base v bs p 16 (by omega) (by omega) hR
  cases h1 : (typesR bs p 16).1
  · have e : decSh bs p = ([], 60, (typesR bs p 16).2.2) := by unfold decSh; rw [if_neg (fun h => by rw [h1] at h; cases h.1)]
    rw [e]
    rw [h1] at hk
    generalize (typesR bs p 16).2.1 = xs at *
    generalize (typesR bs p 16).2.2 = mv at *
    have HK := Lib.hid hk
    clear hk h1 e hR
    go_enter Try.func14, Try.ntmps14
    go_wp2_with (go_at_call 46; refine HK.out.mono ?_; rintro e w1 ⟨u, rfl, hu, hr, hf⟩; obtain ⟨A, c, rfl⟩ := own_slice hu; have HR := Lib.hid hr; have HF := Lib.hid hf; clear hu hr hf)
    go_ret2
    exact ⟨_, rfl, World.ownsRow_nil _ _ _ _, HR.out, HF.out⟩
  · by_cases h2 : shapeOk (typesR bs p 16).2.1 = true
    · have e : decSh bs p = ((typesR bs p 16).2.1, 0, (typesR bs p 16).2.2) := by unfold decSh; rw [if_pos ⟨h1, h2⟩]
      rw [e]
      rw [h1] at hk
      generalize (typesR bs p 16).2.1 = xs at *
      generalize (typesR bs p 16).2.2 = mv at *
      have HK := Lib.hid hk
      have HS := Lib.hid h2
      clear hk h1 e h2 hR
      go_enter Try.func14, Try.ntmps14
      go_wp2_with (first | (go_at_call 46; refine HK.out.mono ?_; rintro e w1 ⟨u, rfl, hu, hr, hf⟩; obtain ⟨A, c, rfl⟩ := own_slice hu; have HU := Lib.hid hu; have HR := Lib.hid hr; have HF := Lib.hid hf; have hk2 := Check_yes w1 A c xs (own_CI hu).2.2 HS.out; have HK2 := Lib.hid hk2; clear hu hr hf hk2) | (go_at_call 22; refine HK2.out.mono ?_; rintro e w2 ⟨rfl, hb⟩; have HB2 := Lib.hid hb; clear hb))
      go_ret2
      exact ⟨_, rfl, pw_own_below HU.out HB2.out, HR.out.below HB2.out, HF.out.trans (T := fun _ => False) (Fr.of_below HB2.out) (fun _ _ h => h.elim)⟩
    · have e : decSh bs p = ([], 60, (typesR bs p 16).2.2) := by unfold decSh; rw [if_neg (fun h => h2 h.2)]
      rw [e]
      rw [h1] at hk
      have h2 : shapeOk (typesR bs p 16).2.1 = false := by simpa using h2
      generalize (typesR bs p 16).2.1 = xs at *
      generalize (typesR bs p 16).2.2 = mv at *
      have HK := Lib.hid hk
      have HS := Lib.hid h2
      clear hk h1 e h2 hR
      go_enter Try.func14, Try.ntmps14
      go_wp2_with (first | (go_at_call 46; refine HK.out.mono ?_; rintro e w1 ⟨u, rfl, hu, hr, hf⟩; obtain ⟨A, c, rfl⟩ := own_slice hu; have HR := Lib.hid hr; have HF := Lib.hid hf; have hk2 := Check_no w1 A c xs (own_CI hu).2.2 HS.out; have HK2 := Lib.hid hk2; clear hu hr hf hk2) | (go_at_call 22; refine HK2.out.mono ?_; rintro e w2 ⟨rfl, hb⟩; have HB2 := Lib.hid hb; clear hb))
      go_ret2
      exact ⟨_, rfl, World.ownsRow_nil _ _ _ _, HR.out.below HB2.out, HF.out.trans (T := fun _ => False) (Fr.of_below HB2.out) (fun _ _ h => h.elim)⟩
end Go.Proofs.Ytacmajlbaenjfaa
