/- DecodeSignature, both sides. -/
import Derived.Test.YtacmajlbaenjfaaSt
namespace Go.Proofs.Ytacmajlbaenjfaa
open Go.RowKit Go.Shelf Go.Proofs.YtacmajlbaenjfaaW.PrintWords Go.Proofs.YtacmajlbaenjfaaW.PrintLast Go.Proofs.YtacmajlbaenjfaaW.PrintMore
open Go.Proofs.Ytacmajlbaenjfaa.PRef

theorem d57_no (W : World) (g base : Nat) (v : Value) (bs : List Int) (p : Nat) (hR : ReelIs W g base v bs p) (h : (typesR bs p 64).1 = false) :
    Calls Try.prog 57 #[.pointer (some ⟨g, 0, none⟩), .int .i64 64] W fun e w' => ∃ A n c q, e = .returned (.tuple #[.slice A n c, .bool false]) ∧ ReelIs w' g base v bs q ∧ Fr (fun i => i = g) W w' := by
  have hk := types57_any W g base v bs p 64 (by omega) (by omega) hR
  rw [h] at hk
  refine hk.mono ?_
  rintro e w' ⟨u, rfl, hu, hr, hf⟩
  obtain ⟨A, c, rfl⟩ := own_slice hu
  exact ⟨A, _, c, _, rfl, hr, hf⟩
theorem d57_yes (W : World) (g base : Nat) (v : Value) (bs : List Int) (p : Nat) (hR : ReelIs W g base v bs p) (h : (typesR bs p 64).1 = true) :
    Calls Try.prog 57 #[.pointer (some ⟨g, 0, none⟩), .int .i64 64] W fun e w' => ∃ u, e = .returned (.tuple #[u, .bool true]) ∧ w'.ownsRow W.heap.size 3 1 u (typesR bs p 64).2.1.length (nums .i64 (typesR bs p 64).2.1) ∧ ReelIs w' g base v bs (p + (typesR bs p 64).2.2) ∧ Fr (fun i => i = g) W w' := by
  have hk := types57_any W g base v bs p 64 (by omega) (by omega) hR
  rw [h] at hk
  exact hk
theorem d47_no (W : World) (g base : Nat) (v : Value) (bs : List Int) (p : Nat) (hR : RefIs W g base v bs p) (hsm : bs.length < 140737488355328) (h : (typesR bs p 64).1 = false) :
    Calls Try.prog 47 #[.pointer (some ⟨g, 0, none⟩), .int .u64 64] W fun e w' => ∃ A n c q, e = .returned (.tuple #[.slice A n c, .bool false]) ∧ RefIs w' g base v bs q ∧ Fr (fun i => i = g) W w' := by
  have hk := read47_any W g base v bs p 64 (by omega) (by omega) hR hsm
  rw [h] at hk
  refine hk.mono ?_
  rintro e w' ⟨u, ys, q, rfl, _, hu, hr, _, hf⟩
  obtain ⟨A, c, rfl⟩ := own_slice hu
  exact ⟨A, _, c, _, rfl, hr, hf⟩
theorem d47_yes (W : World) (g base : Nat) (v : Value) (bs : List Int) (p : Nat) (hR : RefIs W g base v bs p) (hsm : bs.length < 140737488355328) (h : (typesR bs p 64).1 = true) :
    Calls Try.prog 47 #[.pointer (some ⟨g, 0, none⟩), .int .u64 64] W fun e w' => ∃ u, e = .returned (.tuple #[u, .bool true]) ∧ w'.ownsRow W.heap.size 3 1 u (typesR bs p 64).2.1.length (nums .i64 (typesR bs p 64).2.1) ∧ RefIs w' g base v bs (p + (typesR bs p 64).2.2) ∧ Fr (fun i => i = g) W w' := by
  have hk := read47_any W g base v bs p 64 (by omega) (by omega) hR hsm
  rw [h] at hk
  refine hk.mono ?_
  rintro e w' ⟨u, ys, q, rfl, _, ho, hr, hy, hf⟩
  obtain ⟨rfl, rfl⟩ := hy rfl
  exact ⟨u, rfl, ho, hr, hf⟩
theorem cs37 (W : World) (A : Option Addr) (c : Nat) (xs : List Int) (B : Option Addr) (d : Nat) (ys : List Int) (hC : (Kd.int .i64).C W A xs.length xs) (hc : xs.length ≤ c) (hD : (Kd.int .i64).C W B ys.length ys) (hd : ys.length ≤ d) (hl : xs.length ≤ 1000) (hm : ys.length ≤ 1000) :
    Calls Try.prog 37 #[.agg #[.slice A xs.length c, .slice B ys.length d]] W fun e w' => e = .returned (.int .i64 (chkG xs ys)) ∧ Below W.heap.size W w' :=
  backstayref06_CheckSignature.calls 2000 A c xs B d ys _ W hC hc hD hd (checksig_f xs ys hl hm)
theorem cs27 (W : World) (A : Option Addr) (c : Nat) (xs : List Int) (B : Option Addr) (d : Nat) (ys : List Int) (hC : (Kd.int .i64).C W A xs.length xs) (_hc : xs.length ≤ c) (hD : (Kd.int .i64).C W B ys.length ys) (_hd : ys.length ≤ d) (hl : xs.length ≤ 1000) (hm : ys.length ≤ 1000) :
    Calls Try.prog 27 #[.agg #[.slice A xs.length c, .slice B ys.length d]] W fun e w' => e = .returned (.int .i64 (chkG xs ys)) ∧ Below W.heap.size W w' :=
  CheckSig_any W A B c d xs ys hC hD hl hm

set_option maxRecDepth 100000 in
set_option maxHeartbeats 4000000 in
theorem DecSig32_any (w : World) (g base : Nat) (v : Value) (bs : List Int) (p : Nat) (hR : ReelIs w g base v bs p) :
    Calls Try.prog 32 #[.pointer (some ⟨g, 0, none⟩)] w fun e w' => ∃ u u2 q, e = .returned (.tuple #[.agg #[u, u2], .int .i64 (decG bs p).2.2.1]) ∧ w'.ownsRow w.heap.size 3 1 u (decG bs p).1.length (nums .i64 (decG bs p).1) ∧
      w'.ownsRow w.heap.size 3 1 u2 (decG bs p).2.1.length (nums .i64 (decG bs p).2.1) ∧ ReelIs w' g base v bs q ∧ ((decG bs p).2.2.1 = 0 → q = p + (decG bs p).2.2.2) ∧ Fr (fun i => i = g) w w' := by
  have hg : g < w.heap.size := blk_lt hR.blk
  have hB0 := below_alloc (Below.refl w.heap.size w) (.cells #[.slice none 0 0, .slice none 0 0] 26)
  have hE0 := World.alloc_heap_new w (.cells #[.slice none 0 0, .slice none 0 0] 26)
  have hR0 := hR.below hB0
  have HV : Hid (∀ b, v.ownBlock = some b → b < w.heap.size) := Lib.hid (fun b hb => (World.ownsRow.lt hR.own b hb).2)
  have HG := Lib.hid hg
  have HE0 := Lib.hid hE0
  have HB0 := Lib.hid hB0
  have HNE : Hid (w.heap.size ≠ g) := Lib.hid (Nat.ne_of_gt hg)
  clear hB0 hE0
  cases h1 : (typesR bs p 64).1
  · rw [decG_no1 h1]
    have HK := Lib.hid (d57_no _ g base v bs p hR0 h1)
    clear h1 hR hR0 hg
    go_enter Try.func32, Try.ntmps32
    go_wp2_with (go_at_call 57; refine HK.out.mono ?_; rintro e w1 ⟨A, n, c, q, rfl, hr, hf⟩; have HR1 := Lib.hid hr; have HF1 := Lib.hid hf; have E := (hf.block _ (blk_lt HE0.out) HNE.out).trans HE0.out; have HE1 := Lib.hid E; have a0 := blk_cell E 0; have a1 := blk_cell E 1; have a2 := blk_frozen E 0; have a3 := blk_frozen E 1; simp only [List.getElem?_toArray, List.getElem?_cons_zero, List.getElem?_cons_succ] at a0 a1; clear E hr hf)
    have F := blk_set HE1.out 0 (.slice none 0 0)
    have G := blk_set F 1 (.slice none 0 0)
    simp only [List.setIfInBounds_toArray, List.set_cons_zero, List.set_cons_succ] at G
    have y0 := blk_cell G 0
    have y1 := blk_cell G 1
    simp only [List.getElem?_toArray, List.getElem?_cons_zero, List.getElem?_cons_succ] at y0 y1
    have hfs := ((Fr.refl (fun i => i = w.heap.size) w1).set ⟨w.heap.size, 0, none⟩ (.slice none 0 0) (fun _ => rfl)).set ⟨w.heap.size, 1, none⟩ (.slice none 0 0) (fun _ => rfl)
    refine bodyPost_ret (v := .tuple #[.agg #[.slice none 0 0, .slice none 0 0], .int .i64 61]) (by simp [results, Try.results32, go_sem, y0, y1]) rfl ⟨_, _, q, rfl, World.ownsRow_nil _ _ _ _, World.ownsRow_nil _ _ _ _, HR1.out.fr hfs (fun e => HNE.out e.symm) (fun b hb e => absurd (HV.out b hb) (by rw [e]; exact Nat.lt_irrefl _)), fun h => absurd h (by decide), ?_⟩
    exact (((Fr.of_below HB0.out).trans HF1.out (fun _ _ h => h)).set _ _ (fun h => absurd h (Nat.lt_irrefl _))).set _ _ (fun h => absurd h (Nat.lt_irrefl _))
  · cases h2 : (typesR bs (p + (typesR bs p 64).2.2) 64).1
    · rw [decG_no2 h2]
      have HK := Lib.hid (d57_yes _ g base v bs p hR0 h1)
      have HK2 := Lib.hid (fun W (h : ReelIs W g base v bs (p + (typesR bs p 64).2.2)) => d57_no W g base v bs _ h h2)
      generalize typesR bs p 64 = T1 at *
      obtain ⟨o1, xs, k1⟩ := T1
      simp only at HK HK2
      clear h1 h2 hR hR0 hg
      go_enter Try.func32, Try.ntmps32
      go_wp2_with (first | (go_at_call 57; (with_reducible refine HK.out.mono ?_); rintro e w1 ⟨u, rfl, hu, hr, hf⟩; obtain ⟨A, c, rfl⟩ := own_slice hu; have HR1 := Lib.hid hr; have HF1 := Lib.hid hf; have HE1 := Lib.hid ((hf.block _ (blk_lt HE0.out) HNE.out).trans HE0.out); clear hr hf hu) | (go_at_call 57; (with_reducible refine (HK2.out _ HR1.out).mono ?_); rintro e w2 ⟨B, n, d, q, rfl, hr, hf⟩; have HF2 := Lib.hid hf; have hz : w.heap.size < w2.heap.size := Nat.lt_of_lt_of_le (blk_lt HE1.out) hf.size; have HR2 := Lib.hid hr; have E := (hf.block _ (blk_lt HE1.out) HNE.out).trans HE1.out; have HE2 := Lib.hid E; have a0 := blk_cell E 0; have a1 := blk_cell E 1; have a2 := blk_frozen E 0; have a3 := blk_frozen E 1; simp only [List.getElem?_toArray, List.getElem?_cons_zero, List.getElem?_cons_succ] at a0 a1; clear E hr hf))
      have HF3 := Lib.hid (((Fr.of_below HB0.out).trans HF1.out (fun _ _ h => h)).trans HF2.out (fun _ _ h => h))
      have F := blk_set HE2.out 0 (.slice none 0 0)
      have G := blk_set F 1 (.slice none 0 0)
      simp only [List.setIfInBounds_toArray, List.set_cons_zero, List.set_cons_succ] at G
      have hfs := ((Fr.refl (fun i => i = w.heap.size) w2).set ⟨w.heap.size, 0, none⟩ (.slice none 0 0) (fun _ => rfl)).set ⟨w.heap.size, 1, none⟩ (.slice none 0 0) (fun _ => rfl)
      have hft := (HF3.out.set ⟨w.heap.size, 0, none⟩ (.slice none 0 0) (fun h => absurd h (Nat.lt_irrefl _))).set ⟨w.heap.size, 1, none⟩ (.slice none 0 0) (fun h => absurd h (Nat.lt_irrefl _))
      have hr5 := HR2.out.fr hfs (fun e => HNE.out e.symm) (fun b hb e => absurd (HV.out b hb) (by rw [e]; exact Nat.lt_irrefl _))
      generalize (w2.setCell ⟨w.heap.size, 0, none⟩ (.slice none 0 0)).setCell ⟨w.heap.size, 1, none⟩ (.slice none 0 0) = w5 at *
      have hba := below_alloc (Below.refl w5.heap.size w5) (.cells #[.slice A xs.length c, .slice B n d] 26)
      have G2 := (hba.block _ (blk_lt G)).trans G
      have hr6 := hr5.below hba
      have hf6 := hft.trans (T := fun _ => False) (Fr.of_below hba) (fun _ _ h => h.elim)
      generalize w5.alloc (.cells #[.slice A xs.length c, .slice B n d] 26) = w6 at *
      have y0 := blk_cell G2 0
      have y1 := blk_cell G2 1
      simp only [List.getElem?_toArray, List.getElem?_cons_zero, List.getElem?_cons_succ] at y0 y1
      exact bodyPost_ret (v := .tuple #[.agg #[.slice none 0 0, .slice none 0 0], .int .i64 61]) (by simp [results, Try.results32, go_sem, y0, y1]) rfl ⟨_, _, q, rfl, World.ownsRow_nil _ _ _ _, World.ownsRow_nil _ _ _ _, hr6, fun h => absurd h (by decide), hf6⟩
    · have HK := Lib.hid (d57_yes _ g base v bs p hR0 h1)
      have HK2 := Lib.hid (fun W (h : ReelIs W g base v bs (p + (typesR bs p 64).2.2)) => d57_yes W g base v bs _ h h2)
      have hl1 := typesR_len bs p 64 (by omega) (by omega)
      have hl2 := typesR_len bs (p + (typesR bs p 64).2.2) 64 (by omega) (by omega)
      have hs := fun h3 => decG_yes h1 h2 h3
      have hn := fun h3 => decG_no3 (bs := bs) (p := p) h3
      generalize typesR bs p 64 = T1 at *
      obtain ⟨o1, xs, k1⟩ := T1
      simp only at HK HK2 hl1 hl2 hs hn h2
      generalize typesR bs (p + k1) 64 = T2 at *
      obtain ⟨o2, ys, k2⟩ := T2
      simp only at HK2 hl2 hs hn
      have HCS := Lib.hid (fun (W : World) (A : Option Addr) (c : Nat) (B : Option Addr) (d : Nat) (hC : (Kd.int .i64).C W A xs.length xs) (hc : xs.length ≤ c) (hD : (Kd.int .i64).C W B ys.length ys) (hd : ys.length ≤ d) => cs27 W A c xs B d ys hC hc hD hd (by omega) (by omega))
      cases h3 : sigOk xs ys
      · rw [hn h3]
        have e : chkG xs ys = 61 := by unfold chkG; rw [h3]; rfl
        rw [e] at HCS
        clear h1 h2 h3 hR hR0 hg hs hn hl1 hl2 e
        go_enter Try.func32, Try.ntmps32
        go_wp2_with (first | (go_at_call 57; (with_reducible refine HK.out.mono ?_); rintro e w1 ⟨u, rfl, hu, hr, hf⟩; have HU := Lib.hid hu; have HR1 := Lib.hid hr; have HF1 := Lib.hid hf; have HE1 := Lib.hid ((hf.block _ (blk_lt HE0.out) HNE.out).trans HE0.out); clear hr hf hu) | (go_at_call 57; (with_reducible refine (HK2.out _ HR1.out).mono ?_); rintro e w2 ⟨u2, rfl, hu2, hr, hf⟩; have HU2 := Lib.hid (own_fr HU.out hf (fun b hb e => absurd (World.ownsRow.lt HU.out b hb).1 (by rw [e]; have := HG.out; simp; omega))); have HV2 := Lib.hid hu2; obtain ⟨A, c, rfl⟩ := own_slice HU2.out; obtain ⟨B, d, rfl⟩ := own_slice HV2.out; have HF2 := Lib.hid hf; have hz : w.heap.size < w2.heap.size := Nat.lt_of_lt_of_le (blk_lt HE1.out) hf.size; have HB3 := Lib.hid (below_alloc (Below.refl w2.heap.size w2) (.cells #[.slice A xs.length c, .slice B ys.length d] 26)); have HR3 := Lib.hid (hr.below HB3.out); have HU3 := Lib.hid (pw_own_below HU2.out HB3.out); have HV3 := Lib.hid (pw_own_below HV2.out HB3.out); have E := (hf.block _ (blk_lt HE1.out) HNE.out).trans HE1.out; have HE3 := Lib.hid ((HB3.out.block _ (blk_lt E)).trans E); clear E hr hf hu2) | (go_at_call 27; (with_reducible refine (HCS.out _ A c B d (own_CI HU3.out).2.2 (own_CI HU3.out).2.1 (own_CI HV3.out).2.2 (own_CI HV3.out).2.1).mono ?_); rintro e w4 ⟨rfl, hb⟩; have HB4 := Lib.hid hb; have HR4 := Lib.hid (HR3.out.below hb); have E := (hb.block _ (blk_lt HE3.out)).trans HE3.out; have HE4 := Lib.hid E; have a0 := blk_cell E 0; have a1 := blk_cell E 1; have a2 := blk_frozen E 0; have a3 := blk_frozen E 1; simp only [List.getElem?_toArray, List.getElem?_cons_zero, List.getElem?_cons_succ] at a0 a1; clear E hb))
        have HF4 := Lib.hid (((((Fr.of_below HB0.out).trans HF1.out (fun _ _ h => h)).trans HF2.out (fun _ _ h => h)).trans (T := fun _ => False) (Fr.of_below HB3.out) (fun _ _ h => h.elim)).trans (T := fun _ => False) (Fr.of_below HB4.out) (fun _ _ h => h.elim))
        have F := blk_set HE4.out 0 (.slice none 0 0)
        have G := blk_set F 1 (.slice none 0 0)
        simp only [List.setIfInBounds_toArray, List.set_cons_zero, List.set_cons_succ] at G
        have y0 := blk_cell G 0
        have y1 := blk_cell G 1
        simp only [List.getElem?_toArray, List.getElem?_cons_zero, List.getElem?_cons_succ] at y0 y1
        have hfs := ((Fr.refl (fun i => i = w.heap.size) w4).set ⟨w.heap.size, 0, none⟩ (.slice none 0 0) (fun _ => rfl)).set ⟨w.heap.size, 1, none⟩ (.slice none 0 0) (fun _ => rfl)
        refine bodyPost_ret (v := .tuple #[.agg #[.slice none 0 0, .slice none 0 0], .int .i64 61]) (by simp [results, Try.results32, go_sem, y0, y1]) rfl ⟨_, _, _, rfl, World.ownsRow_nil _ _ _ _, World.ownsRow_nil _ _ _ _, HR4.out.fr hfs (fun e => HNE.out e.symm) (fun b hb e => absurd (HV.out b hb) (by rw [e]; exact Nat.lt_irrefl _)), fun h => absurd h (by decide), ?_⟩
        exact (HF4.out.set _ _ (fun h => absurd h (Nat.lt_irrefl _))).set _ _ (fun h => absurd h (Nat.lt_irrefl _))
      · rw [hs h3]
        have e : chkG xs ys = 0 := chkG_zero.2 h3
        rw [e] at HCS
        clear h1 h2 h3 hR hR0 hg hs hn hl1 hl2 e
        go_enter Try.func32, Try.ntmps32
        go_wp2_with (first | (go_at_call 57; (with_reducible refine HK.out.mono ?_); rintro e w1 ⟨u, rfl, hu, hr, hf⟩; have HU := Lib.hid hu; have HR1 := Lib.hid hr; have HF1 := Lib.hid hf; have HE1 := Lib.hid ((hf.block _ (blk_lt HE0.out) HNE.out).trans HE0.out); clear hr hf hu) | (go_at_call 57; (with_reducible refine (HK2.out _ HR1.out).mono ?_); rintro e w2 ⟨u2, rfl, hu2, hr, hf⟩; have HU2 := Lib.hid (own_fr HU.out hf (fun b hb e => absurd (World.ownsRow.lt HU.out b hb).1 (by rw [e]; have := HG.out; simp; omega))); have HV2 := Lib.hid hu2; obtain ⟨A, c, rfl⟩ := own_slice HU2.out; obtain ⟨B, d, rfl⟩ := own_slice HV2.out; have HF2 := Lib.hid hf; have hz : w.heap.size < w2.heap.size := Nat.lt_of_lt_of_le (blk_lt HE1.out) hf.size; have HB3 := Lib.hid (below_alloc (Below.refl w2.heap.size w2) (.cells #[.slice A xs.length c, .slice B ys.length d] 26)); have HR3 := Lib.hid (hr.below HB3.out); have HU3 := Lib.hid (pw_own_below HU2.out HB3.out); have HV3 := Lib.hid (pw_own_below HV2.out HB3.out); have E := (hf.block _ (blk_lt HE1.out) HNE.out).trans HE1.out; have HE3 := Lib.hid ((HB3.out.block _ (blk_lt E)).trans E); have HGn := Lib.hid (World.alloc_heap_new w2 (.cells #[.slice A xs.length c, .slice B ys.length d] 26)); clear E hr hf hu2) | (go_at_call 27; (with_reducible refine (HCS.out _ A c B d (own_CI HU3.out).2.2 (own_CI HU3.out).2.1 (own_CI HV3.out).2.2 (own_CI HV3.out).2.1).mono ?_); rintro e w4 ⟨rfl, hb⟩; have HB4 := Lib.hid hb; have HR4 := Lib.hid (HR3.out.below hb); have HU4 := Lib.hid (pw_own_below HU3.out hb); have HV4 := Lib.hid (pw_own_below HV3.out hb); have E := (hb.block _ (blk_lt HE3.out)).trans HE3.out; have HE4 := Lib.hid E; have a0 := blk_cell E 0; have a1 := blk_cell E 1; have a2 := blk_frozen E 0; have a3 := blk_frozen E 1; have E2 := (hb.block _ (blk_lt HGn.out)).trans HGn.out; have b0 := blk_cell E2 0; have b1 := blk_cell E2 1; simp only [List.getElem?_toArray, List.getElem?_cons_zero, List.getElem?_cons_succ] at a0 a1 b0 b1; clear E E2 hb))
        have HF4 := Lib.hid (((((Fr.of_below HB0.out).trans HF1.out (fun _ _ h => h)).trans HF2.out (fun _ _ h => h)).trans (T := fun _ => False) (Fr.of_below HB3.out) (fun _ _ h => h.elim)).trans (T := fun _ => False) (Fr.of_below HB4.out) (fun _ _ h => h.elim))
        have F := blk_set HE4.out 0 (.slice A xs.length c)
        have G := blk_set F 1 (.slice B ys.length d)
        simp only [List.setIfInBounds_toArray, List.set_cons_zero, List.set_cons_succ] at G
        have y0 := blk_cell G 0
        have y1 := blk_cell G 1
        simp only [List.getElem?_toArray, List.getElem?_cons_zero, List.getElem?_cons_succ] at y0 y1
        have hfs := ((Fr.refl (fun i => i = w.heap.size) w4).set ⟨w.heap.size, 0, none⟩ (.slice A xs.length c) (fun _ => rfl)).set ⟨w.heap.size, 1, none⟩ (.slice B ys.length d) (fun _ => rfl)
        have hu5 := own_fr HU4.out hfs (fun b hb e => own_ne HU4.out HE4.out (by decide) (by rw [← e]; exact hb.symm))
        have hv5 := own_fr HV4.out hfs (fun b hb e => own_ne HV4.out HE4.out (by decide) (by rw [← e]; exact hb.symm))
        refine bodyPost_ret (v := .tuple #[.agg #[.slice A xs.length c, .slice B ys.length d], .int .i64 0]) (by simp [results, Try.results32, go_sem, y0, y1]) rfl ⟨_, _, _, rfl, own_less hu5 (by simp), own_less hv5 (by have := hz; have := HF1.out.size; simp at this; omega), HR4.out.fr hfs (fun e => HNE.out e.symm) (fun b hb e => absurd (HV.out b hb) (by rw [e]; exact Nat.lt_irrefl _)), fun _ => by omega, ?_⟩
        exact (HF4.out.set _ _ (fun h => absurd h (Nat.lt_irrefl _))).set _ _ (fun h => absurd h (Nat.lt_irrefl _))

set_option maxRecDepth 100000 in
set_option maxHeartbeats 4000000 in
theorem DecSig33_any (w : World) (g base : Nat) (v : Value) (bs : List Int) (p : Nat) (hR : RefIs w g base v bs p) (hsm : bs.length < 140737488355328) :
    Calls Try.prog 33 #[.pointer (some ⟨g, 0, none⟩)] w fun e w' => ∃ u u2 q, e = .returned (.tuple #[.agg #[u, u2], .int .i64 (decG bs p).2.2.1]) ∧ w'.ownsRow w.heap.size 3 1 u (decG bs p).1.length (nums .i64 (decG bs p).1) ∧
      w'.ownsRow w.heap.size 3 1 u2 (decG bs p).2.1.length (nums .i64 (decG bs p).2.1) ∧ RefIs w' g base v bs q ∧ ((decG bs p).2.2.1 = 0 → q = p + (decG bs p).2.2.2) ∧ Fr (fun i => i = g) w w' := by
  have hg : g < w.heap.size := blk_lt hR.blk
  have hB0 := below_alloc (Below.refl w.heap.size w) (.cells #[.slice none 0 0, .slice none 0 0] 26)
  have hE0 := World.alloc_heap_new w (.cells #[.slice none 0 0, .slice none 0 0] 26)
  have hR0 := hR.below hB0
  have HV : Hid (∀ b, v.ownBlock = some b → b < w.heap.size) := Lib.hid (fun b hb => (World.ownsRow.lt hR.own b hb).2)
  have HG := Lib.hid hg
  have HE0 := Lib.hid hE0
  have HB0 := Lib.hid hB0
  have HNE : Hid (w.heap.size ≠ g) := Lib.hid (Nat.ne_of_gt hg)
  clear hB0 hE0
  cases h1 : (typesR bs p 64).1
  · rw [decG_no1 h1]
    have HK := Lib.hid (d47_no _ g base v bs p hR0 hsm h1)
    clear h1 hR hR0 hg
    go_enter Try.func33, Try.ntmps33
    go_wp2_with (go_at_call 47; refine HK.out.mono ?_; rintro e w1 ⟨A, n, c, q, rfl, hr, hf⟩; have HR1 := Lib.hid hr; have HF1 := Lib.hid hf; have E := (hf.block _ (blk_lt HE0.out) HNE.out).trans HE0.out; have HE1 := Lib.hid E; have a0 := blk_cell E 0; have a1 := blk_cell E 1; have a2 := blk_frozen E 0; have a3 := blk_frozen E 1; simp only [List.getElem?_toArray, List.getElem?_cons_zero, List.getElem?_cons_succ] at a0 a1; clear E hr hf)
    have F := blk_set HE1.out 0 (.slice none 0 0)
    have G := blk_set F 1 (.slice none 0 0)
    simp only [List.setIfInBounds_toArray, List.set_cons_zero, List.set_cons_succ] at G
    have y0 := blk_cell G 0
    have y1 := blk_cell G 1
    simp only [List.getElem?_toArray, List.getElem?_cons_zero, List.getElem?_cons_succ] at y0 y1
    have hfs := ((Fr.refl (fun i => i = w.heap.size) w1).set ⟨w.heap.size, 0, none⟩ (.slice none 0 0) (fun _ => rfl)).set ⟨w.heap.size, 1, none⟩ (.slice none 0 0) (fun _ => rfl)
    refine bodyPost_ret (v := .tuple #[.agg #[.slice none 0 0, .slice none 0 0], .int .i64 61]) (by simp [results, Try.results33, go_sem, y0, y1]) rfl ⟨_, _, q, rfl, World.ownsRow_nil _ _ _ _, World.ownsRow_nil _ _ _ _, HR1.out.fr hfs (fun e => HNE.out e.symm) (fun b hb e => absurd (HV.out b hb) (by rw [e]; exact Nat.lt_irrefl _)), fun h => absurd h (by decide), ?_⟩
    exact (((Fr.of_below HB0.out).trans HF1.out (fun _ _ h => h)).set _ _ (fun h => absurd h (Nat.lt_irrefl _))).set _ _ (fun h => absurd h (Nat.lt_irrefl _))
  · cases h2 : (typesR bs (p + (typesR bs p 64).2.2) 64).1
    · rw [decG_no2 h2]
      have HK := Lib.hid (d47_yes _ g base v bs p hR0 hsm h1)
      have HK2 := Lib.hid (fun W (h : RefIs W g base v bs (p + (typesR bs p 64).2.2)) => d47_no W g base v bs _ h hsm h2)
      generalize typesR bs p 64 = T1 at *
      obtain ⟨o1, xs, k1⟩ := T1
      simp only at HK HK2
      clear h1 h2 hR hR0 hg
      go_enter Try.func33, Try.ntmps33
      go_wp2_with (first | (go_at_call 47; (with_reducible refine HK.out.mono ?_); rintro e w1 ⟨u, rfl, hu, hr, hf⟩; obtain ⟨A, c, rfl⟩ := own_slice hu; have HR1 := Lib.hid hr; have HF1 := Lib.hid hf; have HE1 := Lib.hid ((hf.block _ (blk_lt HE0.out) HNE.out).trans HE0.out); clear hr hf hu) | (go_at_call 47; (with_reducible refine (HK2.out _ HR1.out).mono ?_); rintro e w2 ⟨B, n, d, q, rfl, hr, hf⟩; have HF2 := Lib.hid hf; have hz : w.heap.size < w2.heap.size := Nat.lt_of_lt_of_le (blk_lt HE1.out) hf.size; have HR2 := Lib.hid hr; have E := (hf.block _ (blk_lt HE1.out) HNE.out).trans HE1.out; have HE2 := Lib.hid E; have a0 := blk_cell E 0; have a1 := blk_cell E 1; have a2 := blk_frozen E 0; have a3 := blk_frozen E 1; simp only [List.getElem?_toArray, List.getElem?_cons_zero, List.getElem?_cons_succ] at a0 a1; clear E hr hf))
      have HF3 := Lib.hid (((Fr.of_below HB0.out).trans HF1.out (fun _ _ h => h)).trans HF2.out (fun _ _ h => h))
      have F := blk_set HE2.out 0 (.slice none 0 0)
      have G := blk_set F 1 (.slice none 0 0)
      simp only [List.setIfInBounds_toArray, List.set_cons_zero, List.set_cons_succ] at G
      have hfs := ((Fr.refl (fun i => i = w.heap.size) w2).set ⟨w.heap.size, 0, none⟩ (.slice none 0 0) (fun _ => rfl)).set ⟨w.heap.size, 1, none⟩ (.slice none 0 0) (fun _ => rfl)
      have hft := (HF3.out.set ⟨w.heap.size, 0, none⟩ (.slice none 0 0) (fun h => absurd h (Nat.lt_irrefl _))).set ⟨w.heap.size, 1, none⟩ (.slice none 0 0) (fun h => absurd h (Nat.lt_irrefl _))
      have hr5 := HR2.out.fr hfs (fun e => HNE.out e.symm) (fun b hb e => absurd (HV.out b hb) (by rw [e]; exact Nat.lt_irrefl _))
      generalize (w2.setCell ⟨w.heap.size, 0, none⟩ (.slice none 0 0)).setCell ⟨w.heap.size, 1, none⟩ (.slice none 0 0) = w5 at *
      have hba := below_alloc (Below.refl w5.heap.size w5) (.cells #[.slice A xs.length c, .slice B n d] 26)
      have G2 := (hba.block _ (blk_lt G)).trans G
      have hr6 := hr5.below hba
      have hf6 := hft.trans (T := fun _ => False) (Fr.of_below hba) (fun _ _ h => h.elim)
      generalize w5.alloc (.cells #[.slice A xs.length c, .slice B n d] 26) = w6 at *
      have y0 := blk_cell G2 0
      have y1 := blk_cell G2 1
      simp only [List.getElem?_toArray, List.getElem?_cons_zero, List.getElem?_cons_succ] at y0 y1
      exact bodyPost_ret (v := .tuple #[.agg #[.slice none 0 0, .slice none 0 0], .int .i64 61]) (by simp [results, Try.results33, go_sem, y0, y1]) rfl ⟨_, _, q, rfl, World.ownsRow_nil _ _ _ _, World.ownsRow_nil _ _ _ _, hr6, fun h => absurd h (by decide), hf6⟩
    · have HK := Lib.hid (d47_yes _ g base v bs p hR0 hsm h1)
      have HK2 := Lib.hid (fun W (h : RefIs W g base v bs (p + (typesR bs p 64).2.2)) => d47_yes W g base v bs _ h hsm h2)
      have hl1 := typesR_len bs p 64 (by omega) (by omega)
      have hl2 := typesR_len bs (p + (typesR bs p 64).2.2) 64 (by omega) (by omega)
      have hs := fun h3 => decG_yes h1 h2 h3
      have hn := fun h3 => decG_no3 (bs := bs) (p := p) h3
      generalize typesR bs p 64 = T1 at *
      obtain ⟨o1, xs, k1⟩ := T1
      simp only at HK HK2 hl1 hl2 hs hn h2
      generalize typesR bs (p + k1) 64 = T2 at *
      obtain ⟨o2, ys, k2⟩ := T2
      simp only at HK2 hl2 hs hn
      have HCS := Lib.hid (fun (W : World) (A : Option Addr) (c : Nat) (B : Option Addr) (d : Nat) (hC : (Kd.int .i64).C W A xs.length xs) (hc : xs.length ≤ c) (hD : (Kd.int .i64).C W B ys.length ys) (hd : ys.length ≤ d) => cs37 W A c xs B d ys hC hc hD hd (by omega) (by omega))
      cases h3 : sigOk xs ys
      · rw [hn h3]
        have e : chkG xs ys = 61 := by unfold chkG; rw [h3]; rfl
        rw [e] at HCS
        clear h1 h2 h3 hR hR0 hg hs hn hl1 hl2 e
        go_enter Try.func33, Try.ntmps33
        go_wp2_with (first | (go_at_call 47; (with_reducible refine HK.out.mono ?_); rintro e w1 ⟨u, rfl, hu, hr, hf⟩; have HU := Lib.hid hu; have HR1 := Lib.hid hr; have HF1 := Lib.hid hf; have HE1 := Lib.hid ((hf.block _ (blk_lt HE0.out) HNE.out).trans HE0.out); clear hr hf hu) | (go_at_call 47; (with_reducible refine (HK2.out _ HR1.out).mono ?_); rintro e w2 ⟨u2, rfl, hu2, hr, hf⟩; have HU2 := Lib.hid (own_fr HU.out hf (fun b hb e => absurd (World.ownsRow.lt HU.out b hb).1 (by rw [e]; have := HG.out; simp; omega))); have HV2 := Lib.hid hu2; obtain ⟨A, c, rfl⟩ := own_slice HU2.out; obtain ⟨B, d, rfl⟩ := own_slice HV2.out; have HF2 := Lib.hid hf; have hz : w.heap.size < w2.heap.size := Nat.lt_of_lt_of_le (blk_lt HE1.out) hf.size; have HB3 := Lib.hid (below_alloc (Below.refl w2.heap.size w2) (.cells #[.slice A xs.length c, .slice B ys.length d] 26)); have HR3 := Lib.hid (hr.below HB3.out); have HU3 := Lib.hid (pw_own_below HU2.out HB3.out); have HV3 := Lib.hid (pw_own_below HV2.out HB3.out); have E := (hf.block _ (blk_lt HE1.out) HNE.out).trans HE1.out; have HE3 := Lib.hid ((HB3.out.block _ (blk_lt E)).trans E); clear E hr hf hu2) | (go_at_call 37; (with_reducible refine (HCS.out _ A c B d (own_CI HU3.out).2.2 (own_CI HU3.out).2.1 (own_CI HV3.out).2.2 (own_CI HV3.out).2.1).mono ?_); rintro e w4 ⟨rfl, hb⟩; have HB4 := Lib.hid hb; have HR4 := Lib.hid (HR3.out.below hb); have E := (hb.block _ (blk_lt HE3.out)).trans HE3.out; have HE4 := Lib.hid E; have a0 := blk_cell E 0; have a1 := blk_cell E 1; have a2 := blk_frozen E 0; have a3 := blk_frozen E 1; simp only [List.getElem?_toArray, List.getElem?_cons_zero, List.getElem?_cons_succ] at a0 a1; clear E hb))
        have HF4 := Lib.hid (((((Fr.of_below HB0.out).trans HF1.out (fun _ _ h => h)).trans HF2.out (fun _ _ h => h)).trans (T := fun _ => False) (Fr.of_below HB3.out) (fun _ _ h => h.elim)).trans (T := fun _ => False) (Fr.of_below HB4.out) (fun _ _ h => h.elim))
        have F := blk_set HE4.out 0 (.slice none 0 0)
        have G := blk_set F 1 (.slice none 0 0)
        simp only [List.setIfInBounds_toArray, List.set_cons_zero, List.set_cons_succ] at G
        have y0 := blk_cell G 0
        have y1 := blk_cell G 1
        simp only [List.getElem?_toArray, List.getElem?_cons_zero, List.getElem?_cons_succ] at y0 y1
        have hfs := ((Fr.refl (fun i => i = w.heap.size) w4).set ⟨w.heap.size, 0, none⟩ (.slice none 0 0) (fun _ => rfl)).set ⟨w.heap.size, 1, none⟩ (.slice none 0 0) (fun _ => rfl)
        refine bodyPost_ret (v := .tuple #[.agg #[.slice none 0 0, .slice none 0 0], .int .i64 61]) (by simp [results, Try.results33, go_sem, y0, y1]) rfl ⟨_, _, _, rfl, World.ownsRow_nil _ _ _ _, World.ownsRow_nil _ _ _ _, HR4.out.fr hfs (fun e => HNE.out e.symm) (fun b hb e => absurd (HV.out b hb) (by rw [e]; exact Nat.lt_irrefl _)), fun h => absurd h (by decide), ?_⟩
        exact (HF4.out.set _ _ (fun h => absurd h (Nat.lt_irrefl _))).set _ _ (fun h => absurd h (Nat.lt_irrefl _))
      · rw [hs h3]
        have e : chkG xs ys = 0 := chkG_zero.2 h3
        rw [e] at HCS
        clear h1 h2 h3 hR hR0 hg hs hn hl1 hl2 e
        go_enter Try.func33, Try.ntmps33
        go_wp2_with (first | (go_at_call 47; (with_reducible refine HK.out.mono ?_); rintro e w1 ⟨u, rfl, hu, hr, hf⟩; have HU := Lib.hid hu; have HR1 := Lib.hid hr; have HF1 := Lib.hid hf; have HE1 := Lib.hid ((hf.block _ (blk_lt HE0.out) HNE.out).trans HE0.out); clear hr hf hu) | (go_at_call 47; (with_reducible refine (HK2.out _ HR1.out).mono ?_); rintro e w2 ⟨u2, rfl, hu2, hr, hf⟩; have HU2 := Lib.hid (own_fr HU.out hf (fun b hb e => absurd (World.ownsRow.lt HU.out b hb).1 (by rw [e]; have := HG.out; simp; omega))); have HV2 := Lib.hid hu2; obtain ⟨A, c, rfl⟩ := own_slice HU2.out; obtain ⟨B, d, rfl⟩ := own_slice HV2.out; have HF2 := Lib.hid hf; have hz : w.heap.size < w2.heap.size := Nat.lt_of_lt_of_le (blk_lt HE1.out) hf.size; have HB3 := Lib.hid (below_alloc (Below.refl w2.heap.size w2) (.cells #[.slice A xs.length c, .slice B ys.length d] 26)); have HR3 := Lib.hid (hr.below HB3.out); have HU3 := Lib.hid (pw_own_below HU2.out HB3.out); have HV3 := Lib.hid (pw_own_below HV2.out HB3.out); have E := (hf.block _ (blk_lt HE1.out) HNE.out).trans HE1.out; have HE3 := Lib.hid ((HB3.out.block _ (blk_lt E)).trans E); have HGn := Lib.hid (World.alloc_heap_new w2 (.cells #[.slice A xs.length c, .slice B ys.length d] 26)); clear E hr hf hu2) | (go_at_call 37; (with_reducible refine (HCS.out _ A c B d (own_CI HU3.out).2.2 (own_CI HU3.out).2.1 (own_CI HV3.out).2.2 (own_CI HV3.out).2.1).mono ?_); rintro e w4 ⟨rfl, hb⟩; have HB4 := Lib.hid hb; have HR4 := Lib.hid (HR3.out.below hb); have HU4 := Lib.hid (pw_own_below HU3.out hb); have HV4 := Lib.hid (pw_own_below HV3.out hb); have E := (hb.block _ (blk_lt HE3.out)).trans HE3.out; have HE4 := Lib.hid E; have a0 := blk_cell E 0; have a1 := blk_cell E 1; have a2 := blk_frozen E 0; have a3 := blk_frozen E 1; have E2 := (hb.block _ (blk_lt HGn.out)).trans HGn.out; have b0 := blk_cell E2 0; have b1 := blk_cell E2 1; simp only [List.getElem?_toArray, List.getElem?_cons_zero, List.getElem?_cons_succ] at a0 a1 b0 b1; clear E E2 hb))
        have HF4 := Lib.hid (((((Fr.of_below HB0.out).trans HF1.out (fun _ _ h => h)).trans HF2.out (fun _ _ h => h)).trans (T := fun _ => False) (Fr.of_below HB3.out) (fun _ _ h => h.elim)).trans (T := fun _ => False) (Fr.of_below HB4.out) (fun _ _ h => h.elim))
        have F := blk_set HE4.out 0 (.slice A xs.length c)
        have G := blk_set F 1 (.slice B ys.length d)
        simp only [List.setIfInBounds_toArray, List.set_cons_zero, List.set_cons_succ] at G
        have y0 := blk_cell G 0
        have y1 := blk_cell G 1
        simp only [List.getElem?_toArray, List.getElem?_cons_zero, List.getElem?_cons_succ] at y0 y1
        have hfs := ((Fr.refl (fun i => i = w.heap.size) w4).set ⟨w.heap.size, 0, none⟩ (.slice A xs.length c) (fun _ => rfl)).set ⟨w.heap.size, 1, none⟩ (.slice B ys.length d) (fun _ => rfl)
        have hu5 := own_fr HU4.out hfs (fun b hb e => own_ne HU4.out HE4.out (by decide) (by rw [← e]; exact hb.symm))
        have hv5 := own_fr HV4.out hfs (fun b hb e => own_ne HV4.out HE4.out (by decide) (by rw [← e]; exact hb.symm))
        refine bodyPost_ret (v := .tuple #[.agg #[.slice A xs.length c, .slice B ys.length d], .int .i64 0]) (by simp [results, Try.results33, go_sem, y0, y1]) rfl ⟨_, _, _, rfl, own_less hu5 (by simp), own_less hv5 (by have := hz; have := HF1.out.size; simp at this; omega), HR4.out.fr hfs (fun e => HNE.out e.symm) (fun b hb e => absurd (HV.out b hb) (by rw [e]; exact Nat.lt_irrefl _)), fun _ => by omega, ?_⟩
        exact (HF4.out.set _ _ (fun h => absurd h (Nat.lt_irrefl _))).set _ _ (fun h => absurd h (Nat.lt_irrefl _))
end Go.Proofs.Ytacmajlbaenjfaa
