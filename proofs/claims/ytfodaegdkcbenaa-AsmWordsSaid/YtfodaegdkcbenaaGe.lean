/- AsmWords: asm.Normal. -/
import Derived.Test.YtfodaegdkcbenaaGd
namespace Go.Proofs.Ytfodaegdkcbenaa
open Go.RowKit Go.Shelf Go.Proofs.YtfodaegdkcbenaaW.PrintWords Go.Proofs.YtfodaegdkcbenaaW.PrintLast Go.Proofs.YtfodaegdkcbenaaW.PrintMore
attribute [local go_sem] Oper.semAt_some wide_fn wide_depth

/-- What holds behind the lines pre. -/
def NmI (w : World) (pre : List Ln) (W : World) : Prop :=
  (∃ v, BIs W w.heap.size (w.heap.size + 9) v (Lib.byteCells (texts (pre.map (·.2.2))))) ∧ Below w.heap.size w W

theorem BIs.fr {S : Nat → Prop} {X Y : World} {b base : Nat} {v : Value} {bs : List Value} (h : BIs X b base v bs) (hf : Fr S X Y) (h0 : ¬ S b) (hS : ∀ i, S i → i < base) : BIs Y b base v bs := by
  have key : ∀ p, BAt X b base p v bs → BAt Y b base p v bs := fun p ⟨h1, h2⟩ => ⟨hf.at h1 h0, ownF_fr h2 hf (fun k hk hs => by have := (h2.lt k hk).1; have := hS k hs; omega)⟩
  exact h.elim (fun h => .inl (key _ h)) (fun h => .inr (key _ h))

theorem joinL_count : ∀ ws : List (List UInt8), ws.length ≤ (joinL ws).length + 1
  | [] => by simp
  | [a] => by simp
  | a :: b :: ws => by
    have := joinL_count (b :: ws)
    rw [joinL_cons]
    simp only [List.length_append, List.length_cons, List.length_nil] at this ⊢
    omega
theorem wd_nm {B D i : Nat} (hB : B = D + 2) (h : Wd (LnOwn B) D i) : D ≤ i ∧ i < D + 7 := by
  rcases h with h | h | h
  · have h1 := h.1; have h2 := h.2; omega
  · omega
  · omega

set_option maxRecDepth 100000 in
set_option maxHeartbeats 4000000 in
theorem Normal7_any (w : World) (s : ByteArray) (hs : s.size ≤ 1000000) :
    Calls Try.prog 7 #[.string s] w fun e w' => e = .returned (.string ⟨(normL s.data.toList).toArray⟩) ∧ Below w.heap.size w w' := by
  refine (callsIn_wide (n := 9)).1 ?_
  refine callsIn_of_wp_marks Try.func7 rfl trivial ?_ rfl
  simp only [Try.ntmps7, List.size_toArray, List.length_cons, List.length_nil, Nat.reduceAdd, Nat.reduceSub, Array.replicate_succ, Array.replicate_zero, List.push_toArray, List.append_toArray, List.nil_append, List.cons_append]
  gi_wp2_with (gi_at_call 9; refine (callsIn_wide.2 (lines9_any s _)).mono ?_; rintro e w' ⟨rfl, rfl⟩)
  have hB1 := ((Below.refl w.heap.size w).alloc (Nat.le_refl _) (.cells #[.pointer none, .slice none 0 0] 30)).alloc (by simp) (.cells #[.string s] 9)
  have bx0 : ((w.alloc (.cells #[.pointer none, .slice none 0 0] 30)).alloc (.cells #[.string s] 9)).heap[w.heap.size]? = some (.cells #[.pointer none, .slice none 0 0] 30 (0, 0)) := by
    rw [Below.heap_alloc _ _ _ (by simp)]; exact World.alloc_heap_new w _
  have bx1 : ((w.alloc (.cells #[.pointer none, .slice none 0 0] 30)).alloc (.cells #[.string s] 9)).heap[w.heap.size + 1]? = some (.cells #[.string s] 9 (0, 0)) := by
    have := World.alloc_heap_new (w.alloc (.cells #[.pointer none, .slice none 0 0] 30)) (.cells #[.string s] 9)
    rwa [World.size_alloc] at this
  have hsz : ((w.alloc (.cells #[.pointer none, .slice none 0 0] 30)).alloc (.cells #[.string s] 9)).heap.size = w.heap.size + 2 := by simp
  generalize hw2 : (w.alloc (.cells #[.pointer none, .slice none 0 0] 30)).alloc (.cells #[.string s] 9) = w2 at *
  clear hw2
  have hin : NmI w [] w2 := ⟨⟨.slice none 0 0, .inl ⟨bx0, ⟨rfl, .inl ⟨rfl, rfl⟩⟩⟩⟩, hB1⟩
  clear bx0 hB1
  have HSZ := Lib.hid hsz
  have htl := texts_pieces_len s.data.toList
  simp only [Array.length_toList] at htl
  have hss : s.data.size = s.size := rfl
  rw [hss] at htl
  clear hss
  refine range_g rfl (by omega) (gf := 15) (lb := #[.pointer (some ⟨w.heap.size + 1, 0, none⟩)]) rfl trivial (enters_of Try.func15 (by kernel_rfl) rfl)
    (lines15_seq (9 - 1) (w.heap.size + 1) (w2.heap.size + 2) s w2 hs bx1) (fun h => by have := h.1; omega) (fun h => by have := h.1; omega) (fun _ => rfl)
    (NmI w) (fun _ _ _ => False) ?hI (fun _ _ _ _ h _ => h) hin ?hAdm
    (fun x => { tmps := #[.string s, undef, .string ⟨#[]⟩, .pointer (some ⟨w.heap.size, 0, none⟩), undef, x.2.1, .string s, .func (.func 15) #[] #[.pointer (some ⟨w.heap.size + 1, 0, none⟩)], .int .i64 x.1, x.2.1, undef, undef, undef, undef, undef], defers := [] }) ?hassign ?hbody ?hdone ?hstop
  case hI =>
    rintro pre X Y ⟨⟨v, h1⟩, h2⟩ hf
    have key : ∀ i, Wd (LnOwn (w2.heap.size + 2)) w2.heap.size i → w.heap.size + 2 ≤ i ∧ i < w.heap.size + 9 := fun i hi => by have := wd_nm rfl hi; omega
    exact ⟨⟨v, h1.fr hf (fun h => by have := key _ h; omega) (fun i h => by have := key _ h; omega)⟩, h2.trans (hf.below h2.size (fun i hi h => by have := key _ h; omega))⟩
  case hAdm =>
    rintro pre x X Y ⟨h1, ⟨base, h2, h3⟩, h4⟩ hf
    exact ⟨Nat.le_trans h1 hf.size, ⟨base, h2, srow_fr h3 hf (fun i h => by omega)⟩, h4⟩
  case hassign =>
    rintro k ⟨m, u, ws⟩ W K hK
    unfold lnEnc
    gi_wp2
    exact hK
  case hbody =>
    rintro k pre ⟨m, u, ws⟩ W hW ⟨⟨v, hv⟩, hbel⟩ ⟨h1, ⟨base, h2, h3⟩, h4⟩
    simp only at h3 h4 ⊢
    have hne : ws ≠ [] := wlines_ne (pieces s.data.toList) ws (h4.subset (by simp))
    obtain ⟨g, c, rfl, hc, hg, hcells⟩ := srow_cells h3 hne
    have hlen : (texts ((pre ++ [(m, Value.slice (some ⟨g, 0, none⟩) (strs ws).length c, ws)]).map (·.2.2))).length ≤ 3 * s.size := Nat.le_trans (texts_prefix h4) htl
    have htx : texts ((pre ++ [(m, Value.slice (some ⟨g, 0, none⟩) (strs ws).length c, ws)]).map (·.2.2)) = texts (pre.map (·.2.2)) ++ (joinL ws ++ [10]) := by
      rw [List.map_append, texts_append]; simp [texts]
    rw [htx] at hlen
    simp only [List.length_append, List.length_cons, List.length_nil] at hlen
    have hj : Lib.join ((strs ws).map (·.data.toList)) (ByteArray.mk #[32]).data.toList = joinL ws := by rw [strs_toList]; exact joinL_lib ws
    have hJ := fun (W : World) (h : ∀ (j : Nat) x, (strs ws)[j]? = some x → W.cell? ⟨g, 0 + j, none⟩ = some (.string x)) (hg : g < W.heap.size) => Try.strings_Join g 0 c (strs ws) ⟨#[32]⟩ W h hg (by have := joinL_count ws; rw [strs_length]; omega) hc (by rw [hj]; omega)
    rw [hj] at hJ
    have HJ := Lib.hid hJ
    clear hJ hj
    gi_wp2_with fail
    refine (CallsIn.inRound k (callsIn_wide.2 (HJ.out W hcells hg))).mono ?_
    rintro e w3 ⟨rfl, hb3⟩
    have hv3 : BIs w3 w.heap.size (w.heap.size + 9) v (Lib.byteCells (texts (pre.map (·.2.2)))) := hv.below hb3
    have hs3 := hb3.size
    have hF3 : Fr (fun _ => False) W w3 := Fr.of_below hb3
    have hcat : (⟨(joinL ws).toArray⟩ ++ ⟨#[10]⟩ : ByteArray) = ⟨(joinL ws ++ [10]).toArray⟩ := ba_ext (by simp)
    have hsize : (⟨(joinL ws ++ [10]).toArray⟩ : ByteArray).size = (joinL ws).length + 1 := by simp [ByteArray.size]
    have HV3 := Lib.hid hv3
    have HF3 := Lib.hid hF3
    have HCAT := Lib.hid hcat
    have HTX := Lib.hid htx
    have HL := Lib.hid hlen
    have HS := Lib.hid hsize
    have HH := Lib.hid hbel
    clear hv hcells hc h3 h4 hv3 hF3 hb3 hcat htx hsize hbel
    gi_wp2_with fail
    rw [HCAT.out]
    refine (CallsIn.inRound k (callsIn_wide.2 (WriteString10_any w3 w.heap.size (w.heap.size + 9) v _ _ HV3.out (by have := HL.out; have := HS.out; rw [Lib.byteCells_length]; omega) (by have := HSZ.out; omega)))).mono ?_
    rintro e w4 ⟨r, v', rfl, hv4, hF4⟩
    have hlo := HV3.out.lo
    have hF5 : Fr (fun i => i = w.heap.size ∨ v.ownBlock = some i) W w4 := (HF3.out.mono (fun _ _ h => h.elim)).trans hF4 (fun _ _ h => h)
    have hS5 : ∀ i, i = w.heap.size ∨ v.ownBlock = some i → i = w.heap.size ∨ w.heap.size + 9 ≤ i := fun i h => h.elim .inl (fun e => .inr (hlo i e))
    have k1 : Kept2 w2.heap.size W w4 := ⟨hF5.block _ (by omega) (fun h => by have := hS5 _ h; have := HSZ.out; omega), hF5.block _ (by omega) (fun h => by have := hS5 _ h; have := HSZ.out; omega)⟩
    have k2 : KpO (LnOwn (w2.heap.size + 2)) W w4 := KpO.of_fr hF5 (fun i hi h => by have h1 := hi.1; have h2 := hi.2; have := hS5 _ h; have := HSZ.out; omega)
    have k3 : NmI w (pre ++ [(m, Value.slice (some ⟨g, 0, none⟩) (strs ws).length c, ws)]) w4 := by
      refine ⟨⟨v', .inr ?_⟩, HH.out.trans (hF5.below HH.out.size (fun i hi h => by have := hS5 _ h; omega))⟩
      rw [HTX.out, Lib.byteCells_append]
      exact hv4
    have K1 := Lib.hid k1
    have K2 := Lib.hid k2
    have K3 := Lib.hid k3
    clear k1 k2 k3 hF5 hF4 hv4 hS5 hlo
    gi_wp2
    exact ⟨K1.out, K2.out, K3.out⟩
  case hdone =>
    rintro xs W hxs ⟨⟨v, hv⟩, hbel⟩ hD
    have htx : texts (xs.map (·.2.2)) = normL s.data.toList := by rw [hxs]; exact norm_pieces _
    rw [htx] at hv
    have hF := hv.isF (B := w.heap.size) (Nat.le_refl _) (by omega)
    have HF := Lib.hid hF
    have HD := Lib.hid hD
    have HBL := Lib.hid hbel
    clear hv hF hD htx hxs hbel
    gi_wp2_with (gi_at_call 12; refine (callsIn_wide.2 (Try.Builder_String_any_k w.heap.size w.heap.size _ W HF.out HBL.out.size)).mono ?_; rintro e w4 ⟨rfl, _, hb4, hk4⟩)
    have hD4 : w4.heap[w.heap.size + 2]? = some (.deferred (some [])) := hk4 _ _ (by rw [← HSZ.out]; exact HD.out) (fun e => by have := Option.some.inj e; omega) (fun _ _ e => by cases e)
    refine ⟨by simp, .inl ⟨_, _, rfl, run_takeDeferred hD4, ?_⟩⟩
    refine ⟨_, results_tmp rfl _ _ _, rfl, (HBL.out.trans hb4).trans ?_⟩
    exact (Fr.putObj w4 _ _).below (HBL.out.trans hb4).size (fun i hi h => by omega)
  case hstop =>
    rintro c pre W _ h
    exact h.elim
end Go.Proofs.Ytfodaegdkcbenaa
