/- AsmWords: strings.Builder's WriteString; plain bounds; asm.Normal. -/
import Derived.Test.YtfodaegdkcbenaaGc
import Derived.Deep.AppendLies
import Derived.Lib.FrozenHead
namespace Go.Proofs.Ytfodaegdkcbenaa
open Go.RowKit Go.Shelf Go.Proofs.YtfodaegdkcbenaaW.PrintWords Go.Proofs.YtfodaegdkcbenaaW.PrintLast Go.Proofs.YtfodaegdkcbenaaW.PrintMore

theorem info5 : (Try.prog.info? 5).map (fun i => (i.zero, i.size, i.bytes)) = some (some (.int .u8 0), 1, 1) := by kernel_rfl
/-- A builder at block b that holds bytes bs in the row of v. -/
def BAt (W : World) (b base : Nat) (p v : Value) (bs : List Value) : Prop := W.heap[b]? = some (.cells #[p, v] 30 (0, 0)) ∧ W.ownsRowF base 5 1 v bs.length bs
def BIs (W : World) (b base : Nat) (v : Value) (bs : List Value) : Prop := BAt W b base (.pointer none) v bs ∨ BAt W b base (.pointer (some ⟨b, 0, none⟩)) v bs

theorem ownF_fr {S : Nat → Prop} {w W : World} {base n : Nat} {v : Value} {xs : List Value} (h : w.ownsRowF base 5 1 v n xs) (hF : Fr S w W) (hn : ∀ b, v.ownBlock = some b → ¬ S b) : W.ownsRowF base 5 1 v n xs := by
  refine ⟨h.1, ?_⟩
  rcases h.2 with hn' | ⟨g, cap, cur, fz, rfl, hb, hg, rest⟩
  · exact .inl hn'
  · exact .inr ⟨g, cap, cur, fz, rfl, hb, (hF.block g (blk_lt hg) (hn g rfl)).trans hg, rest⟩

set_option maxRecDepth 100000 in
set_option maxHeartbeats 1000000 in
theorem copyCheck17_any (w : World) (b base : Nat) (v : Value) (bs : List Value) (h : BIs w b base v bs) :
    Calls Try.prog 17 #[.pointer (some ⟨b, 0, none⟩)] w fun e w' => e = .returned (.tuple #[]) ∧ BAt w' b base (.pointer (some ⟨b, 0, none⟩)) v bs ∧ Fr (fun i => i = b) w w' := by
  rcases h with ⟨hb, ho⟩ | ⟨hb, ho⟩
  · have c0 := blk_cell hb 0
    have f0 := blk_frozen hb 0
    simp only [List.getElem?_toArray, List.getElem?_cons_zero] at c0
    have hne := Lib.ownBlock_neF ho hb (by decide)
    have HB := Lib.hid hb
    have hl := blk_lt hb
    obtain ⟨j, hj, hjs⟩ := Option.map_eq_some_iff.1 (show (Try.prog.info? 30).map (·.size) = some 2 by kernel_rfl)
    have hsh : w.shape? b = some (30, 2) := by simp [World.shape?, hb]
    clear hb
    go_enter Try.func17, Try.ntmps17
    go_wp2
    rw [Lib.run_to_unsafe w ⟨b, 0, none⟩ Try.underlying27 Try.underlying52 hj (by rw [hjs]; decide) hsh (Nat.zero_lt_succ 1)]
    simp only [Result.andThen]
    rw [Oper.upon_value]
    go_wp2
    rw [run_callFunc_extern Try.func21 (by kernel_rfl) (by kernel_rfl) (by kernel_rfl) (e := Extern.AbiNoEscape.same) (by kernel_rfl)]
    rw [Lib.run_noEscape]
    simp only [Result.andThen]
    rw [Oper.upon_value]
    go_wp2
    rw [Lib.run_from_unsafe w ⟨b, 0, none⟩ Try.underlying52 Try.underlying27 hj hsh (by kernel_rfl)]
    simp only [Result.andThen]
    rw [Oper.upon_value]
    go_wp2
    go_end0
    refine ⟨rfl, ⟨?_, ownF_fr ho ((Fr.refl (fun i => i = b) w).set ⟨b, 0, none⟩ _ (fun _ => rfl)) (fun k hk e => hne (by rw [hk, e]))⟩, (Fr.refl _ _).set _ _ (fun _ => rfl)⟩
    have := blk_set HB.out 0 (.pointer (some ⟨b, 0, none⟩))
    simpa using this
  · have c0 := blk_cell hb 0
    simp only [List.getElem?_toArray, List.getElem?_cons_zero] at c0
    have HB := Lib.hid hb
    obtain ⟨j, hj, _⟩ := Option.map_eq_some_iff.1 (show (Try.prog.info? 30).map (·.size) = some 2 by kernel_rfl)
    clear hb
    go_enter Try.func17, Try.ntmps17
    go_wp2
    rw [Lib.run_neq_ptr_same w _ Try.underlying27 hj]
    go_wp2
    go_end0
    exact ⟨rfl, ⟨HB.out, ho⟩, Fr.refl _ _⟩

theorem BAt.grow {w w1 w2 : World} {b base : Nat} {v v' p : Value} {bs xs : List Value} {W : World} (h1 : BAt w1 b base p v bs) (hf : Fr (fun i => i = b) w w1)
    (hA : Below w1.heap.size w1 W) (hown : w2.ownsRowF base 5 1 v' (bs.length + xs.length) (bs ++ xs)) (hg : W.grownBy w2 v.ownBlock) :
    BAt (w2.setCell ⟨b, 1, none⟩ v') b base p v' (bs ++ xs) ∧ Fr (fun i => i = b ∨ v.ownBlock = some i) w (w2.setCell ⟨b, 1, none⟩ v') := by
  have hlt := blk_lt h1.1
  have hne := Lib.ownBlock_neF h1.2 h1.1 (by decide)
  have hb2 : w2.heap[b]? = some (.cells #[p, v] 30 (0, 0)) := (hg.block b (Nat.lt_of_lt_of_le hlt hA.size) (fun e => hne e.symm)).trans ((hA.block b hlt).trans h1.1)
  have hne2 := Lib.ownBlock_neF hown hb2 (by decide)
  have hF : Fr (fun i => i = b ∨ v.ownBlock = some i) w w2 := by
    refine (Fr.trans (S := fun i => i = b ∨ v.ownBlock = some i) (T := fun i => i = b) ⟨hf.os, hf.tape, hf.output, hf.size, fun i hi hn => hf.block i hi (fun e => hn (.inl e))⟩ (Fr.of_below hA) (fun i _ e => .inl e)).trans (T := fun i => v.ownBlock = some i) (Fr.grown hg (fun i _ e => e)) (fun i _ e => .inr e)
  refine ⟨⟨?_, ?_⟩, hF.set _ _ (fun _ => .inl rfl)⟩
  · have := blk_set hb2 1 v'
    simpa using this
  · rw [List.length_append]
    exact ownF_fr hown ((Fr.refl (fun i => i = b) w2).set ⟨b, 1, none⟩ v' (fun _ => rfl)) (fun k hk e => hne2 (by rw [hk, e]))

set_option maxRecDepth 100000 in
set_option maxHeartbeats 1000000 in
theorem WriteString10_any (w : World) (b base : Nat) (v : Value) (bs : List Value) (s : ByteArray) (h : BIs w b base v bs) (hlen : bs.length + s.size ≤ 140737488355328) (hbase : base ≤ w.heap.size) :
    Calls Try.prog 10 #[.pointer (some ⟨b, 0, none⟩), .string s] w fun e w' => ∃ r v', e = .returned r ∧ BAt w' b base (.pointer (some ⟨b, 0, none⟩)) v' (bs ++ Lib.strCells s) ∧ Fr (fun i => i = b ∨ v.ownBlock = some i) w w' := by
  obtain ⟨i0, hi, hz0, hz1, hz2⟩ := info_parts info5
  go_enter Try.func10, Try.ntmps10
  go_wp2_with (go_at_call 17; refine (copyCheck17_any _ b base v bs h).mono ?_)
  rintro e w1 ⟨rfl, h1, hf1⟩
  have c1 : w1.cell? ⟨b, 1, none⟩ = some v := blk_cell h1.1 1
  have H1 := Lib.hid h1
  have hown := h1.2
  have hs1 := hf1.size
  clear h1
  go_wp2_with (at_builtin; refine Lib.wpList_append_own_stringF _ rfl _ _ 28 9 rfl base 5 i0 Try.underlying28 Try.underlying9 hi hz0 hz1 hz2 _ _ _ rfl hown s rfl ?c3 ?c4 ?c5 ?_)
  case c3 => unfold maxLen; omega
  case c4 => omega
  case c5 => omega
  intro v' w2 hown' hgrow _
  obtain ⟨ao, n', cap, rfl⟩ : ∃ ao n' cap, v' = .slice ao n' cap := by
    rcases hown'.2 with ⟨hv, _⟩ | ⟨g, cap, cur, fz, hv, _⟩
    · exact ⟨_, _, _, hv⟩
    · exact ⟨_, _, _, hv⟩
  obtain ⟨j1, j2⟩ := H1.out.grow hf1 (Below.refl _ _) (xs := Lib.strCells s) (by rw [Lib.strCells_length]; exact hown') hgrow
  have hne := Lib.ownBlock_neF H1.out.2 H1.out.1 (by decide)
  have hb2 : w2.heap[b]? = some (.cells #[.pointer (some ⟨b, 0, none⟩), v] 30 (0, 0)) := (hgrow.block b (blk_lt H1.out.1) (fun e => hne e.symm)).trans H1.out.1
  have d1 : w2.cell? ⟨b, 1, none⟩ = some v := blk_cell hb2 1
  have f1 := blk_frozen hb2 1
  have HJ := Lib.hid j1
  have HJ2 := Lib.hid j2
  clear j1 j2 hb2 hne
  go_wp2
  go_ret2
  exact ⟨_, _, rfl, HJ.out, HJ2.out⟩

theorem BIs.isF {W : World} {b base B : Nat} {v : Value} {bs : List Value} (h : BIs W b base v bs) (hb : B ≤ b) (hB : B ≤ base) : Lib.IsBuilderF 30 5 B b bs W := by
  have less : ∀ n, W.ownsRowF base 5 1 v n bs → W.ownsRowF B 5 1 v n bs := by
    rintro n ⟨h1, h2⟩
    refine ⟨h1, ?_⟩
    rcases h2 with h2 | ⟨g, cap, cur, fz, hv, hg, rest⟩
    · exact .inl h2
    · exact .inr ⟨g, cap, cur, fz, hv, by omega, rest⟩
  rcases h with ⟨h1, h2⟩ | ⟨h1, h2⟩
  · exact .inl ⟨hb, v, h1, less _ h2, Lib.ownBlock_neF h2 h1 (by decide)⟩
  · exact .inr ⟨hb, v, h1, less _ h2, Lib.ownBlock_neF h2 h1 (by decide)⟩
theorem BIs.lo {W : World} {b base : Nat} {v : Value} {bs : List Value} (h : BIs W b base v bs) (i : Nat) (hi : v.ownBlock = some i) : base ≤ i :=
  h.elim (fun h => (h.2.lt i hi).1) (fun h => (h.2.lt i hi).1)
theorem BIs.below {W W' : World} {b base : Nat} {v : Value} {bs : List Value} (h : BIs W b base v bs) (hb : Below W.heap.size W W') : BIs W' b base v bs := by
  have key : ∀ p, BAt W b base p v bs → BAt W' b base p v bs := fun p ⟨h1, h2⟩ => ⟨(hb.block b (blk_lt h1)).trans h1, ownF_fr h2 (Fr.of_below (S := fun _ => False) hb) (fun _ _ h => h)⟩
  exact h.elim (fun h => .inl (key _ h)) (fun h => .inr (key _ h))


/-! ### plain -/
def sumW (ws : List (List UInt8)) : Nat := (ws.map fun w => w.length + 1).sum
theorem joinL_sum : ∀ ws : List (List UInt8), (joinL ws).length ≤ sumW ws
  | [] => by simp [joinL]
  | [a] => by simp [joinL, sumW]
  | a :: b :: ws => by
    have := joinL_sum (b :: ws)
    rw [joinL_cons]
    simp only [List.length_append, List.length_cons, List.length_nil, sumW, List.map_cons, List.sum_cons] at this ⊢
    omega
theorem wordsA_sum : ∀ (s cur : List UInt8), sumW (wordsA cur s) ≤ cur.length + s.length + 1
  | [], cur => by rw [wordsA]; unfold pend; split <;> simp [sumW]
  | c :: cs, cur => by
    have h1 := wordsA_sum cs []
    have h2 := wordsA_sum cs (cur ++ [c])
    have hp : sumW (pend cur) ≤ cur.length + 1 := by unfold pend; split <;> simp [sumW]
    have ha : ∀ a b, sumW (a ++ b) = sumW a + sumW b := by intro a b; simp [sumW]
    rw [wordsA]
    split
    · simp; omega
    · split
      · rw [ha]; simp at h1 ⊢; omega
      · simp at h2 ⊢; omega
theorem lineN_len2 (l : List UInt8) : (lineN l).length ≤ l.length + 2 := by
  unfold lineN
  split
  · simp
  · have h1 := joinL_sum (wordsL l)
    have h2 := wordsA_sum l []
    unfold wordsL at h1 ⊢
    simp at h2 ⊢
    omega
theorem flat_len (ps : List (List UInt8)) : (ps.map lineN).flatten.length ≤ ps.flatten.length + 2 * ps.length := by
  induction ps with
  | nil => simp
  | cons a l ih =>
    have := lineN_len2 a
    simp only [List.map_cons, List.flatten_cons, List.length_append, List.length_cons]
    omega
theorem pieces_flat (s : List UInt8) : (pieces s).flatten = s := by
  have key : ∀ s cur, (piecesA cur s).flatten = cur ++ s := by
    intro s
    induction s with
    | nil => intro cur; rw [piecesA]; unfold pend; split <;> simp_all
    | cons c cs ih =>
      intro cur
      rw [piecesA]
      split
      · rename_i h; rw [List.flatten_cons, ih, h]; simp
      · rw [ih]; simp
  have := key s []
  simp at this
  exact this
theorem texts_pieces_len (s : List UInt8) : (texts (wlines (pieces s))).length ≤ 3 * s.length := by
  rw [texts_wlines]
  have h1 := flat_len (pieces s)
  rw [pieces_flat] at h1
  have h2 := pieces_count s
  omega
theorem texts_prefix {a b : List (List (List UInt8))} (h : a <+: b) : (texts a).length ≤ (texts b).length := by
  obtain ⟨r, rfl⟩ := h
  rw [texts_append, List.length_append]
  omega
theorem joinL_lib (ws : List (List UInt8)) : Lib.join ws [32] = joinL ws := by
  unfold Lib.join
  induction ws with
  | nil => rfl
  | cons a l ih =>
    cases l with
    | nil => simp [joinL]
    | cons b l => rw [joinL_cons, ← ih]; simp [List.intercalate]
theorem wlines_ne (ls : List (List UInt8)) : ∀ w ∈ wlines ls, w ≠ [] := by
  intro w hw
  unfold wlines at hw
  have := (List.mem_filter.1 hw).2
  simpa using this
theorem strs_toList (ws : List (List UInt8)) : (strs ws).map (·.data.toList) = ws := by unfold strs; rw [List.map_map]; simp [Function.comp_def]

theorem srow_fr {S : Nat → Prop} {X Y : World} {base : Nat} {u : Value} {ws : List (List UInt8)} (h : SRow X base u ws) (hf : Fr S X Y) (hS : ∀ i, S i → i < base) : SRow Y base u ws := by
  refine ⟨h.1, ?_⟩
  rcases h.2 with h' | ⟨g, cap, cur, hv, hb, hg, rest⟩
  · exact .inl h'
  · exact .inr ⟨g, cap, cur, hv, hb, hf.at hg (fun hs => by have := hS g hs; omega), rest⟩
theorem srow_cells {W : World} {base : Nat} {u : Value} {ws : List (List UInt8)} (h : SRow W base u ws) (hne : ws ≠ []) :
    ∃ g c, u = .slice (some ⟨g, 0, none⟩) (strs ws).length c ∧ (strs ws).length ≤ c ∧ g < W.heap.size ∧ ∀ (j : Nat) x, (strs ws)[j]? = some x → W.cell? ⟨g, 0 + j, none⟩ = some (.string x) := by
  rcases h.2 with ⟨_, h0⟩ | ⟨g, cap, cur, hv, hb, hg, hn, hcap, hcur, htk⟩
  · rw [strs_length] at h0
    exact absurd (List.eq_nil_of_length_eq_zero h0) hne
  · refine ⟨g, cap, hv, hn, blk_lt hg, fun j x hj => ?_⟩
    have hc := blk_cell hg j
    rw [Nat.zero_add, hc]
    have h2 : ((strs ws).map Value.string)[j]? = some (.string x) := by rw [List.getElem?_map, hj]; rfl
    rw [← htk, List.getElem?_take] at h2
    split at h2
    · rw [← h2]; simp
    · cases h2
end Go.Proofs.Ytfodaegdkcbenaa
