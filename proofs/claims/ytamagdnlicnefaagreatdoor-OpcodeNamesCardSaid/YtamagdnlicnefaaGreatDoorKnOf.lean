/- Opcode: Encode. -/
import Derived.Test.YtamagdnlicnefaaGreatDoorKnOe
import Derived.Test.YtamagdnlicnefaaGreatDoorKnRg
namespace Go.Proofs.YtamagdnlicnefaaGreatDoor
open Go.RowKit Go.Shelf Go.Proofs.YtamagdnlicnefaaGreatDoorW.PrintWords Go.Proofs.YtamagdnlicnefaaGreatDoorW.PrintLast Go.Proofs.YtamagdnlicnefaaGreatDoorW.PrintMore
attribute [local go_sem] Oper.semAt_some wide_fn2 wide_depth2

def opB (k : Nat) (n : Int) : List Int := if k = 1 then encI (Lib.zigzag n) else encI n.toNat
def valAt (a b : Int) (o : Nat) : Int := if o = 1 then a else b
def flatB (a b : Int) (xs : List (Nat × Nat)) : List Int := (xs.map fun x => opB x.1 (valAt a b x.2)).flatten
def encX (op a b : Int) : List Int := encI op.toNat ++ flatB a b (opsL (ka op) (kb op))
theorem encI_le (n : Nat) : (encI n).length ≤ 9 := by rw [encI_length]; exact (VP.wid_pos n).2
theorem opB_le (k : Nat) (n : Int) : (opB k n).length ≤ 9 := by unfold opB; split <;> exact encI_le _
theorem flatB_le (a b : Int) (k1 k2 : Nat) (pre : List (Nat × Nat)) (h : pre <+: opsL k1 k2) : (flatB a b pre).length ≤ 18 := by
  have hl : pre.length ≤ 2 := by
    have h0 := h.length_le
    unfold opsL at h0
    rw [List.length_append] at h0
    have : ∀ k o, (if k = 0 then [] else [(k, o)] : List (Nat × Nat)).length ≤ 1 := by intro k o; split <;> simp
    have h1 := this k1 1
    have h2 := this k2 2
    omega
  have key : ∀ l : List (Nat × Nat), (flatB a b l).length ≤ 9 * l.length := by
    intro l
    induction l with
    | nil => simp [flatB]
    | cons x l ih =>
      have := opB_le x.1 (valAt a b x.2)
      simp only [flatB, List.map_cons, List.flatten_cons, List.length_append, List.length_cons] at ih ⊢
      omega
  have := key pre
  omega
def Nots (bb bs D : Nat) (v : Value) : Prop := ∀ r, v.ownBlock = some r → r ≠ bb ∧ r ≠ bs ∧ r ≠ D ∧ r ≠ D + 1
def EncI (w : World) (op a b : Int) (g bb bs D : Nat) (pre : List (Nat × Nat)) (W : World) : Prop :=
  (∃ v, TapeIs W g w.heap.size v (encI op.toNat ++ flatB a b pre) ∧ Nots bb bs D v ∧ v.ownBlock ≠ some w.heap.size) ∧ XAt W w.heap.size op a b ∧ Below w.heap.size w W
set_option maxRecDepth 100000 in
set_option maxHeartbeats 4000000 in
theorem Encode12_bad (op a b : Int) (w : World) (h : okB op a b = false) : Calls Tryz.prog 52 #[.agg #[.int .i64 op, .int .i64 a, .int .i64 b]] w fun e w' => e = .returned (.tuple #[.slice none 0 0, .int .i64 40]) ∧ Below w.heap.size w w' := by
  have HC : Hid (∀ w, Calls Tryz.prog 8 #[.agg #[.int .i64 op, .int .i64 a, .int .i64 b]] w fun e w' => e = .returned (.int .i64 40) ∧ Below w.heap.size w w') := Lib.hid (fun w => by have := Check8_any op a b w; rw [h] at this; exact this)
  clear h
  go_enter Tryz.func52, Tryz.ntmps52
  go_wp2_with (go_at_call 8; (with_reducible refine (HC.out _).mono ?_); rintro e w1 ⟨rfl, hb1⟩; have HB1 := Lib.hid hb1; clear hb1)
  go_ret2
  exact ⟨rfl, below_step (below_alloc (Below.refl _ _) _) HB1.out⟩
theorem TapeIs.fr {S : Nat → Prop} {X Y : World} {g base : Nat} {v : Value} {xs : List Int} (h : TapeIs X g base v xs) (hf : Fr S X Y) (hg : ¬ S g) (hv : ∀ r, v.ownBlock = some r → ¬ S r) : TapeIs Y g base v xs := by
  refine ⟨hf.at h.blk hg, h.own.1, ?_⟩
  rcases h.own.2 with h' | ⟨r, cap, cur, hu, hb, hr, rest⟩
  · exact .inl h'
  · exact .inr ⟨r, cap, cur, hu, hb, hf.at hr (hv r (by rw [hu]; rfl)), rest⟩
theorem TapeIs.lt {X : World} {g base : Nat} {v : Value} {xs : List Int} (h : TapeIs X g base v xs) (r : Nat) (hr : v.ownBlock = some r) : r < X.heap.size := by
  rcases h.own.2 with ⟨rfl, _⟩ | ⟨r', cap, cur, rfl, hb, hr', rest⟩
  · cases hr
  · obtain rfl : r' = r := by simpa [Value.ownBlock] using hr
    exact blk_lt hr'
theorem lo_nat (k : Nat) (h : k ≠ 1) : 0 ≤ lo k := by unfold lo; rw [if_neg h]; split <;> omega
theorem hi_le (k : Nat) (hk : k ≤ 10) : hi k ≤ 9223372036854775807 := by
  have : ∀ k : Fin 11, hi k.val ≤ 9223372036854775807 := by decide +kernel
  exact this ⟨k, by omega⟩
theorem lo_ge (k : Nat) : -9223372036854775808 ≤ lo k := by unfold lo; split <;> (try split) <;> omega
theorem own_less {W : World} {base base' e n m : Nat} {v : Value} {xs : List Value} (h : W.ownsRow base e n v m xs) (hb : base' ≤ base) : W.ownsRow base' e n v m xs := by
  refine ⟨h.1, ?_⟩
  rcases h.2 with h' | ⟨g, cap, cur, hu, hg, rest⟩
  · exact .inl h'
  · exact .inr ⟨g, cap, cur, hu, by omega, rest⟩
theorem opsL_mem {k1 k2 : Nat} {x : Nat × Nat} (h : x ∈ opsL k1 k2) : (x = (k1, 1) ∧ k1 ≠ 0) ∨ (x = (k2, 2) ∧ k2 ≠ 0) := by
  unfold opsL at h
  rcases List.mem_append.1 h with h | h
  · split at h
    · cases h
    · exact .inl ⟨List.mem_singleton.1 h, by assumption⟩
  · split at h
    · cases h
    · exact .inr ⟨List.mem_singleton.1 h, by assumption⟩
theorem flatB_snoc (a b : Int) (pre : List (Nat × Nat)) (x : Nat × Nat) : flatB a b (pre ++ [x]) = flatB a b pre ++ opB x.1 (valAt a b x.2) := by simp [flatB]
set_option maxRecDepth 100000 in
set_option maxHeartbeats 4000000 in
theorem Encode12_ok (op a b : Int) (w : World) (h : okB op a b = true) : Calls Tryz.prog 52 #[.agg #[.int .i64 op, .int .i64 a, .int .i64 b]] w fun e w' => ∃ u, e = .returned (.tuple #[u, .int .i64 0]) ∧ w'.ownsRow w.heap.size 5 1 u (encX op a b).length (nums .u8 (encX op a b)) ∧ Below w.heap.size w w' := by
  have HC : Hid (∀ w, Calls Tryz.prog 8 #[.agg #[.int .i64 op, .int .i64 a, .int .i64 b]] w fun e w' => e = .returned (.int .i64 0) ∧ Below w.heap.size w w') := Lib.hid (fun w => by have := Check8_any op a b w; rw [h] at this; exact this)
  have hop : 0 ≤ op ∧ op < 30 := by
    unfold okB knownB at h
    simp only [Bool.and_eq_true, decide_eq_true_eq] at h
    exact h.1
  obtain ⟨k, rfl⟩ := Int.eq_ofNat_of_zero_le hop.1
  have hk : k < 30 := by omega
  have HOK := Lib.hid h
  clear h hop
  have hw0 : Below w.heap.size w (w.alloc (.cells #[.int .i64 k, .int .i64 a, .int .i64 b] 23)) := below_alloc (Below.refl _ _) _
  have hx0 := World.alloc_heap_new w (.cells #[.int .i64 k, .int .i64 a, .int .i64 b] 23)
  have HW0 := Lib.hid hw0
  have HX0 := Lib.hid hx0
  clear hw0 hx0
  refine (callsIn_wide (n := 9)).1 ?_
  refine callsIn_of_wp_marks Tryz.func52 rfl trivial ?_ rfl
  simp only [Tryz.ntmps52, List.size_toArray, List.length_cons, List.length_nil, Nat.reduceAdd, Nat.reduceSub, Array.replicate_succ, Array.replicate_zero, List.push_toArray, List.append_toArray, List.nil_append, List.cons_append]
  gi_wp2_with (gi_at_call 8; (with_reducible refine (callsIn_wide.2 (HC.out _)).mono ?_); rintro e w1 ⟨rfl, hb1⟩; have hx1 := (hb1.block _ (blk_lt HX0.out)).trans HX0.out; have hl1 := below_step HW0.out hb1; have hc1 := blk_cell hx1 0; have hlt1 := blk_lt hx1; simp only [List.getElem?_toArray, List.getElem?_cons_zero] at hc1; have HX1 := Lib.hid hx1; have HL1 := Lib.hid hl1; clear hb1 hx1 hl1)
  have hT0 : TapeIs (w1.alloc (.cells #[.slice none 0 0] 119)) w1.heap.size w.heap.size (.slice none 0 0) [] := ⟨World.alloc_heap_new w1 _, rfl, .inl ⟨rfl, rfl⟩⟩
  refine (callsIn_wide.2 (TNumber_any _ w1.heap.size w.heap.size k (.slice none 0 0) [] (by omega) hT0 (by simp; omega) (by simp))).mono ?_
  rintro e w3 ⟨rfl, ⟨v3, hT3, hv3⟩, hF3⟩
  rw [List.nil_append] at hT3
  have hg3 : w1.heap.size < w3.heap.size := by have := hF3.size; simp at this; omega
  have hx3 : XAt w3 w.heap.size k a b := hF3.at (by rw [Below.heap_alloc _ _ _ hlt1]; exact HX1.out) (fun h => by rcases h with h | h <;> first | omega | cases h)
  have hl3 : Below w.heap.size w w3 := (below_alloc HL1.out (.cells #[.slice none 0 0] 119)).trans (hF3.below (below_alloc HL1.out _).size (fun i hi h => by rcases h with h | h <;> first | omega | cases h))
  have hr3 : ∀ r, v3.ownBlock = some r → w1.heap.size < r := fun r hr => by
    rcases hv3 with h | ⟨b', h, hb'⟩
    · rw [h] at hr; cases hr
    · rw [h] at hr; cases hr; simp at hb'; omega
  have HT3 := Lib.hid hT3
  have HX3 := Lib.hid hx3
  have HL3 := Lib.hid hl3
  have HR3 := Lib.hid hr3
  clear hT3 hx3 hl3 hr3 hv3 hF3 hT0 hc1
  gi_wp2_with fail
  refine (callsIn_wide.2 (operands26_any w.heap.size k a b w3 HX3.out)).mono ?_
  rintro e w4 ⟨bb, bs, rfl, hbo4, hbb, hbs, hb4⟩
  have hF4 : Fr (fun _ => False) w3 w4 := Fr.of_below hb4
  have hT4 : TapeIs w4 w1.heap.size w.heap.size v3 (encI k) := HT3.out.fr hF4 id (fun _ _ h => h)
  have hin : EncI w k a b w1.heap.size bb bs w4.heap.size [] w4 := by
    refine ⟨⟨v3, ?_, fun r hr => ?_, fun hr => ?_⟩, hF4.at HX3.out id, below_step HL3.out hb4⟩
    · simpa [flatB] using hT4
    · have h1 := HT3.out.lt r hr
      have h2 := hb4.size
      exact ⟨by omega, by omega, by omega, by omega⟩
    · have := HR3.out _ hr; omega
  have hbb4 := blk_lt hbo4.1
  have hbs4 := blk_lt hbo4.2
  have HIN := Lib.hid hin
  have HBO := Lib.hid hbo4
  have h34 := hb4.size
  clear hin hbo4 hT4 hF4 HT3 HX3 HR3 HL3 hb4 HC HW0 HX0 HX1 HL1
  gi_wp2
  refine range_ga rfl (by omega) (gf := 64) (lb := #[.pointer (some ⟨bb, 0, none⟩)]) rfl trivial (enters_of Tryz.func64 (by kernel_rfl) rfl)
    (operands47_seq (9 - 1) bb bs w.heap.size (ka k) (kb k) (w4.heap.size + 2) w4 HBO.out) (by omega) (by omega) (fun _ => rfl)
    (EncI w k a b w1.heap.size bb bs w4.heap.size) (fun _ _ _ => False) ?hI (fun _ _ _ _ h _ => h) HIN.out (fun _ _ _ _ h _ => h)
    (fun x a' W => ∃ bo, w4.heap.size + 2 ≤ bo ∧ W.heap[bo]? = some (.cells #[.int .i64 x.1, .pointer (some ⟨w.heap.size, x.2, none⟩)] 81 (0, 0)) ∧
      a' = { tmps := #[.agg #[.int .i64 k, .int .i64 a, .int .i64 b], .pointer (some ⟨w.heap.size, 0, none⟩), .slice none 0 0, .int .i64 0, .int .i64 0, .pointer (some ⟨w1.heap.size, 0, none⟩), .pointer (some ⟨bo, 0, none⟩), .agg #[.int .i64 k, .int .i64 a, .int .i64 b], .int .i64 0, .int .i64 0, .bool false, undef, .pointer (some ⟨w.heap.size, 0, none⟩), .int .i64 k, .int .u64 k, .pointer (some ⟨w1.heap.size, 0, none⟩), .func (.func 64) #[] #[.pointer (some ⟨bb, 0, none⟩)], .agg #[.int .i64 x.1, .pointer (some ⟨w.heap.size, x.2, none⟩)], undef, undef, undef, undef, undef, undef, undef, undef, undef, undef, undef, undef, undef, undef, undef], defers := [] }) ?hAx ?hassign ?hbody ?hdone ?hstop
  case hI =>
    rintro pre X Y ⟨⟨v, h1, h2, h2'⟩, h3, h4⟩ hf
    have key : ∀ i, Wd (fun i => i = bb ∨ i = bs) w4.heap.size i → w1.heap.size < i ∧ (i = bb ∨ i = bs ∨ i = w4.heap.size ∨ i = w4.heap.size + 1) := fun i hi => by
      rcases hi with (h | h) | h | h <;> omega
    refine ⟨⟨v, h1.fr hf (fun h => by have := key _ h; omega) (fun r hr h => ?_), h2, h2'⟩, hf.at h3 (fun h => by have := key _ h; omega), h4.trans (hf.below h4.size (fun i hi h => by have := key _ h; omega))⟩
    have h5 := h2 r hr
    have h6 := key _ h
    omega
  case hAx =>
    rintro x a' X Y ⟨bo, h1, h2, h3⟩ hf
    exact ⟨bo, h1, hf.at h2 (fun h => by omega), h3⟩
  case hassign =>
    rintro l pre ⟨kk, o⟩ W K hW _ hK
    unfold opEnc
    gi_wp2
    exact hK _ _ (below_alloc (Below.refl _ _) _) ⟨_, hW, World.alloc_heap_new W _, rfl⟩
  case hbody =>
    rintro l pre ⟨kk, o⟩ a' W hW ⟨⟨v, hT, hN, hne⟩, hX, hB⟩ hadm ⟨bo, hbo, hco, rfl⟩
    simp only at hco hadm ⊢
    have hlen := flatB_le a b (ka k) (kb k) (pre ++ [(kk, o)]) hadm
    have hok := HOK.out
    unfold okB inB at hok
    simp only [Bool.and_eq_true, decide_eq_true_eq] at hok
    have hmem : kk ≤ 10 ∧ W.cell? ⟨w.heap.size, o, none⟩ = some (.int .i64 (valAt a b o)) ∧ lo kk ≤ valAt a b o ∧ valAt a b o ≤ hi kk := by
      rcases opsL_mem (hadm.subset (List.mem_append_right _ (List.mem_singleton.2 rfl))) with ⟨h, _⟩ | ⟨h, _⟩
      · injection h with h1 h2
        subst h1; subst h2
        exact ⟨ka_le _, blk_cell hX 1, hok.2.1⟩
      · injection h with h1 h2
        subst h1; subst h2
        exact ⟨kb_le _, blk_cell hX 2, hok.2.2⟩
    obtain ⟨hk10, hcn, hlo, hhi⟩ := hmem
    have hfs : Hid (∀ v', TapeIs W w1.heap.size w.heap.size v' (encI k ++ flatB a b (pre ++ [(kk, o)])) → True) := Lib.hid (fun _ _ => trivial)
    have HFS : Hid (flatB a b (pre ++ [(kk, o)]) = flatB a b pre ++ opB kk (valAt a b o)) := Lib.hid (flatB_snoc a b pre (kk, o))
    have hl2 : (encI (k : Int).toNat ++ flatB a b pre).length + 9 ≤ 140737488355328 := by
      have h1 := encI_le (k : Int).toNat
      have h2 := flatB_le a b (ka k) (kb k) pre ((List.prefix_append _ _).trans hadm)
      rw [List.length_append]
      omega
    generalize valAt a b o = n at *
    have hc0 := blk_cell hco 0
    have hc1 := blk_cell hco 1
    simp only [List.getElem?_toArray, List.getElem?_cons_zero, List.getElem?_cons_succ] at hc0 hc1
    have hcl : w.heap.size ≤ W.heap.size := by have := hB.size; omega
    have post : ∀ (ys : List Int) (e : Ending) (W' : World), opB kk n = ys → (∃ v', TapeIs W' w1.heap.size w.heap.size v' (encI (k : Int).toNat ++ flatB a b pre ++ ys) ∧ (v'.ownBlock = v.ownBlock ∨ ∃ r, v'.ownBlock = some r ∧ W.heap.size ≤ r)) → Fr (fun i => i = w1.heap.size ∨ v.ownBlock = some i) W W' →
        Kept2 w4.heap.size W W' ∧ KpO (fun i => i = bb ∨ i = bs) W W' ∧ EncI w k a b w1.heap.size bb bs w4.heap.size (pre ++ [(kk, o)]) W' := by
      rintro ys e W' hys ⟨v', hT', hv'⟩ hF
      have nn : ∀ i, (i = bb ∨ i = bs ∨ i = w4.heap.size ∨ i = w4.heap.size + 1) → ¬ (i = w1.heap.size ∨ v.ownBlock = some i) := fun i hi h => by
        rcases h with h | h
        · omega
        · have := hN i h; omega
      refine ⟨⟨hF.block _ (by omega) (nn _ (by omega)), hF.block _ (by omega) (nn _ (by omega))⟩, KpO.of_fr hF (fun i hi h => nn i (by rcases hi with h | h <;> omega) h), ⟨v', ?_, ?_, ?_⟩, hF.at hX (fun h => h.elim (fun h => by omega) hne), hB.trans (hF.below hB.size (fun i hi h => ?_))⟩
      · rw [HFS.out, hys, ← List.append_assoc]; exact hT'
      · intro r hr
        rcases hv' with h | ⟨r', h, hr'⟩
        · exact hN r (by rw [← h]; exact hr)
        · rw [h] at hr; cases hr; omega
      · intro hr
        rcases hv' with h | ⟨r', h, hr'⟩
        · exact hne (by rw [← h]; exact hr)
        · rw [h] at hr; cases hr; omega
      · rcases h with h | h
        · omega
        · exact absurd (hT.own.2) (fun h' => by
            rcases h' with ⟨rfl, _⟩ | ⟨r', cap, cur, rfl, hb', _⟩
            · cases h
            · have : r' = i := by simpa [Value.ownBlock] using h
              omega)
    have POST := Lib.hid post
    have HTW := Lib.hid hT
    clear post hT hX hN hne hB hco hadm hlen hok hfs
    by_cases hk1 : kk = 1
    · subst hk1
      gi_wp2_with fail
      refine (CallsIn.inRound l (callsIn_wide.2 (TSigned_any W w1.heap.size w.heap.size n (by have := lo_ge 1; omega) (by have := hi_le 1 (by omega); omega) v _ HTW.out hcl hl2))).mono ?_
      rintro e W' ⟨rfl, hv', hF⟩
      have HP := Lib.hid (POST.out _ (.returned undef) W' rfl hv' hF)
      clear hv' hF
      gi_wp2
      exact HP.out
    · have hk1' : ((kk : Int) == 1) = false := beq_eq_false_iff_ne.2 (by omega)
      obtain ⟨m, rfl⟩ := Int.eq_ofNat_of_zero_le (show 0 ≤ n by have := lo_nat kk hk1; omega)
      have hm := hi_le kk hk10
      have HE : Hid (opB kk (m : Int) = encI m) := Lib.hid (by unfold opB; rw [if_neg hk1]; rfl)
      have hm2 : m ≤ 9223372036854775807 := by omega
      clear hk1 hlo hhi hm
      gi_wp2_with fail
      refine (CallsIn.inRound l (callsIn_wide.2 (TNumber_any W w1.heap.size w.heap.size m v _ (by omega) HTW.out hcl hl2))).mono ?_
      rintro e W' ⟨rfl, hv', hF⟩
      have HP := Lib.hid (POST.out _ (.returned undef) W' HE.out hv' hF)
      clear hv' hF
      gi_wp2
      exact HP.out
  case hdone =>
    rintro xs W rfl ⟨⟨v, hT, hN, hne⟩, hX, hB⟩ hD
    have hl : (encI (k : Int).toNat ++ flatB a b (opsL (ka k) (kb k))).length ≤ 140737488355328 := by
      have h1 := encI_le (k : Int).toNat
      have h2 := flatB_le a b (ka k) (kb k) (opsL (ka k) (kb k)) List.prefix_rfl
      rw [List.length_append]
      omega
    gi_wp2_with fail
    refine (callsIn_wide.2 (TAll_any W w1.heap.size w.heap.size v _ hT hl)).mono ?_
    rintro e w5 ⟨u, rfl, hu, hb5⟩
    have hD5 := (hb5.block _ (Array.getElem?_eq_some_iff.1 hD).1).trans hD
    have HU := Lib.hid hu
    have HD5 := Lib.hid hD5
    have HB5 := Lib.hid (hB.trans (hb5.mono hB.size))
    have hsz := hB.size
    clear hu hD5 hb5 hT hN hne hX hB hD hl
    gi_wp2
    refine ⟨by simp, .inl ⟨_, _, rfl, run_takeDeferred HD5.out, ?_⟩⟩
    refine ⟨_, results_tmp2 rfl _ _ _, u, rfl, ?_, HB5.out.trans ((Fr.putObj w5 _ _).below HB5.out.size (fun i hi h => by omega))⟩
    exact ownsRow_putObj (own_less HU.out hsz) _ HD5.out rfl
  case hstop =>
    rintro c pre W _ h
    exact h.elim
end Go.Proofs.YtamagdnlicnefaaGreatDoor
