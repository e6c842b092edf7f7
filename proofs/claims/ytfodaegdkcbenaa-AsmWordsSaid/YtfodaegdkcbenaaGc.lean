/- AsmWords: asm.lines' iterator yields the words of the lines that have any. -/
import Derived.Test.YtfodaegdkcbenaaGb
import Derived.RangeFuncLeaves
import Derived.RangeFuncNested
namespace Go.Proofs.Ytfodaegdkcbenaa
open Go.RowKit Go.Shelf Go.Proofs.YtfodaegdkcbenaaW.PrintWords Go.Proofs.YtfodaegdkcbenaaW.PrintLast Go.Proofs.YtfodaegdkcbenaaW.PrintMore
attribute [local go_sem] Oper.semAt_some wide_fn wide_depth

theorem wpIn_scope_straight {F : Fence} {n : Nat} {P : Program} {Q : Exit → Act → World → Prop} {a : Act} {w : World} {c : Code} (h : c.wpIn F n P (Exit.noGoto Q) a w) : (Code.scope c).wpIn F n P Q a w := by
  intro b k cs hro hb hr
  have h0 : (lone (b.atR a (.code (.scope c) :: k)) cs w).fenced P F := fenced_calm hb hr rfl
  have h1 : step P (lone (b.atR a (.code (.scope c) :: k)) cs w) = .next (lone (b.atR a (.code c :: .inScope c :: k)) cs w) :=
    step_lone_go (by simp [stepG, stepG.exec, Frame.atR])
  have h2 : ∀ a w, step P (lone (b.atR a (.inScope c :: k)) cs w) = .next (lone (b.atR a k) cs w) := fun _ _ =>
    step_lone_go (by simp [stepG, stepG.exec, Frame.atR])
  obtain ⟨e, a₁, w₁, hq, harr⟩ := h b (.inScope c :: k) cs hro hb hr
  have hx : ∀ id, exitTo id (.inScope c :: k) = exitTo id k := fun id => by simp [exitTo]
  cases e with
  | normal => exact ⟨.normal, a₁, w₁, hq, .head h0 h1 (StepsIn.trans harr (.one (fenced_calm hb hr rfl) (h2 _ _)))⟩
  | exit id => exact ⟨.exit id, a₁, w₁, hq, fun k' hk => .head h0 h1 (harr.1 k' (by rw [hx]; exact hk)), fun hr' hk => let ⟨k₁, h3, h4⟩ := harr.2 hr' (by rw [hx]; exact hk); ⟨k₁, h3, .head h0 h1 h4⟩⟩
  | goto l => exact hq.elim
  | ret => exact ⟨_, a₁, w₁, hq, .of_steps (.one h0 h1) harr⟩
  | panic ch => exact ⟨_, a₁, w₁, hq, .of_steps (.one h0 h1) harr⟩
  | outgrown => exact ⟨_, a₁, w₁, hq, .of_steps (.one h0 h1) harr⟩

theorem lines16_any (s : ByteArray) (w : World) : Calls Try.prog 16 #[.string s] w fun e w' => e = .returned (.func (.func 19) #[] #[.pointer (some ⟨w.heap.size, 0, none⟩)]) ∧ w' = w.alloc (.cells #[.string s] 9) := by
  go_enter Try.func16, Try.ntmps16
  go_wp2
  go_ret
  exact ⟨rfl, rfl⟩
theorem lines9_any (s : ByteArray) (w : World) : Calls Try.prog 9 #[.string s] w fun e w' => e = .returned (.func (.func 15) #[] #[.pointer (some ⟨w.heap.size, 0, none⟩)]) ∧ w' = w.alloc (.cells #[.string s] 9) := by
  go_enter Try.func9, Try.ntmps9
  go_wp2
  go_ret
  exact ⟨rfl, rfl⟩

theorem srow_read {W : World} {base : Nat} {u : Value} {ws : List (List UInt8)} (h : SRow W base u ws) : ∃ A c, u = .slice A (strs ws).length c ∧ (strs ws).length ≤ c ∧ Kd.string.C W A (strs ws).length (strs ws) := by
  have hR : Kd.R Kd.string 9 W base (fun _ => True) u (strs ws) := Kd.R_of_own h (fun _ _ => trivial)
  exact Kd.R_reads hR

/-- A line with its words, as lines hands it on. -/
abbrev Ln := Int × Value × List (List UInt8)
def lnEnc (x : Ln) : Array Value := #[.int .i64 x.1, x.2.1]
/-- x may come behind pre. -/
def LnAdm (t : List UInt8) (B : Nat) (pre : List Ln) (x : Ln) (W : World) : Prop :=
  B + 5 ≤ W.heap.size ∧ (∃ base, B + 5 ≤ base ∧ SRow W base x.2.1 x.2.2) ∧ (pre ++ [x]).map (·.2.2) <+: wlines (pieces t)
def LnOwn (B : Nat) (i : Nat) : Prop := B ≤ i ∧ i < B + 5

/-- What holds behind the pieces pre. -/
def LnI (J : List Ln → World → Prop) (l B : Nat) (pre : List ByteArray) (W : World) : Prop :=
  (∃ p, J p W ∧ p.map (·.2.2) = wlines (pre.map (·.data.toList))) ∧ W.heap[B]? = some (.cells #[.func (.yield l) #[] #[]] 45 (0, 0)) ∧ W.heap[B + 1]? = some (.cells #[.int .i64 pre.length] 3 (0, 0))

theorem LnI.fr {J : List Ln → World → Prop} {l B : Nat} {pre : List ByteArray} {X Y : World} {S : Nat → Prop} (hJ : ∀ s X Y, J s X → Fr (LnOwn B) X Y → J s Y) (h : LnI J l B pre X) (hf : Fr S X Y)
    (h0 : ¬ S B) (h1 : ¬ S (B + 1)) (hS : ∀ i, i < X.heap.size → S i → LnOwn B i) : LnI J l B pre Y := by
  obtain ⟨⟨p, hp, e⟩, b0, b1⟩ := h
  exact ⟨⟨p, hJ _ _ _ hp (hf.mono hS), e⟩, hf.at b0 h0, hf.at b1 h1⟩

theorem wd_own {B i : Nat} (h : Wd (fun i => i = B + 2) (B + 3) i) : B + 2 ≤ i ∧ i < B + 5 := by
  rcases h with h | h | h <;> omega

theorem pieces_count (s : List UInt8) : (pieces s).length ≤ s.length := by
  have key : ∀ (s cur : List UInt8), (piecesA cur s).length ≤ s.length + (if cur = [] then 0 else 1) := by
    intro s
    induction s with
    | nil => intro cur; rw [piecesA]; unfold pend; split <;> simp
    | cons c cs ih =>
      intro cur
      rw [piecesA]
      split
      · have := ih []
        simp at this ⊢
        omega
      · have := ih (cur ++ [c])
        simp at this ⊢
        omega
  have := key s []
  simp at this
  exact this
theorem piece_len (s : List UInt8) : ∀ p ∈ pieces s, p.length ≤ s.length := by
  have key : ∀ (s cur : List UInt8), ∀ p ∈ piecesA cur s, p.length ≤ cur.length + s.length := by
    intro s
    induction s with
    | nil => intro cur p hp; rw [piecesA] at hp; unfold pend at hp; split at hp <;> simp at hp; subst hp; simp
    | cons c cs ih =>
      intro cur p hp
      rw [piecesA] at hp
      split at hp
      · rcases List.mem_cons.1 hp with rfl | hp
        · simp
        · have := ih [] p hp; simp at this ⊢; omega
      · have := ih _ p hp; simp at this ⊢; omega
  intro p hp
  have := key s [] p hp
  simp at this
  exact this

set_option maxRecDepth 100000 in
set_option maxHeartbeats 4000000 in
theorem lines15_seq (n b0 B : Nat) (s : ByteArray) (w : World) (hs : s.size ≤ 1000000) (hw : w.heap[b0]? = some (.cells #[.string s] 9 (0, 0))) :
    SeqG Fence.wide n Try.prog 15 #[.pointer (some ⟨b0, 0, none⟩)] lnEnc (LnAdm s.data.toList B) (LnOwn B) (fun xs => xs.map (·.2.2) = wlines (pieces s.data.toList)) (fun _ => True) B w := by
  intro l J Jx W hB hbel hJ hJx hY h0
  subst hB
  have hb0 := (hbel.block b0 (Array.getElem?_eq_some_iff.1 hw).1).trans hw
  have HJ := Lib.hid hJ
  have HJx := Lib.hid hJx
  have HY := Lib.hid hY
  clear hJ hJx hY hw hbel
  have hc0 := blk_cell hb0 0
  have hlt0 := blk_lt hb0
  have hlt1 : b0 < W.heap.size + 1 := by omega
  simp only [List.getElem?_toArray, List.getElem?_cons_zero] at hc0
  refine callsIn_wide.2 ((callsIn_wide (n := 9)).1 ?_)
  refine callsIn_of_wp_marks Try.func15 rfl trivial ?_ rfl
  simp only [Try.ntmps15, List.size_toArray, List.length_cons, List.length_nil, Nat.reduceAdd, Nat.reduceSub, Array.replicate_succ, Array.replicate_zero, List.push_toArray, List.append_toArray, List.nil_append, List.cons_append]
  gi_wp2
  refine wpIn_scope_straight ?_
  gi_wp2
  refine wpIn_label ?_
  gi_wp2_with (gi_at_call 16; refine (callsIn_wide.2 (lines16_any s _)).mono ?_; rintro e w' ⟨rfl, rfl⟩)
  have hB1 := (((Below.refl W.heap.size W).alloc (Nat.le_refl _) (.cells #[.func (.yield l) #[] #[]] 45)).alloc (by simp) (.cells #[.int .i64 0] 3)).alloc (by simp; omega) (.cells #[.string s] 9)
  have bx0 : (((W.alloc (.cells #[.func (.yield l) #[] #[]] 45)).alloc (.cells #[.int .i64 0] 3)).alloc (.cells #[.string s] 9)).heap[W.heap.size]? = some (.cells #[.func (.yield l) #[] #[]] 45 (0, 0)) :=
    ((Boxed.new W 45 (.func (.yield l) #[] #[])).alloc (.cells #[.int .i64 0] 3)).alloc (.cells #[.string s] 9)
  have bx1 : (((W.alloc (.cells #[.func (.yield l) #[] #[]] 45)).alloc (.cells #[.int .i64 0] 3)).alloc (.cells #[.string s] 9)).heap[W.heap.size + 1]? = some (.cells #[.int .i64 0] 3 (0, 0)) := by
    have := (Boxed.new (W.alloc (.cells #[.func (.yield l) #[] #[]] 45)) 3 (.int .i64 0)).alloc (.cells #[.string s] 9)
    rw [World.size_alloc] at this
    exact this
  have bx2 : (((W.alloc (.cells #[.func (.yield l) #[] #[]] 45)).alloc (.cells #[.int .i64 0] 3)).alloc (.cells #[.string s] 9)).heap[W.heap.size + 2]? = some (.cells #[.string s] 9 (0, 0)) := by
    have := Boxed.new ((W.alloc (.cells #[.func (.yield l) #[] #[]] 45)).alloc (.cells #[.int .i64 0] 3)) 9 (.string s)
    rw [World.size_alloc, World.size_alloc] at this
    exact this
  have hsz3 : (((W.alloc (.cells #[.func (.yield l) #[] #[]] 45)).alloc (.cells #[.int .i64 0] 3)).alloc (.cells #[.string s] 9)).heap.size = W.heap.size + 3 := by simp
  have hJ3 : J [] (((W.alloc (.cells #[.func (.yield l) #[] #[]] 45)).alloc (.cells #[.int .i64 0] 3)).alloc (.cells #[.string s] 9)) := HJ.out _ _ _ h0 (Fr.of_below hB1)
  generalize hw3 : ((W.alloc (.cells #[.func (.yield l) #[] #[]] 45)).alloc (.cells #[.int .i64 0] 3)).alloc (.cells #[.string s] 9) = w3 at *
  clear hw3 hB1 hc0 hb0 h0
  have HS3 := Lib.hid hsz3
  clear hsz3
  have hin : LnI J l W.heap.size [] w3 := ⟨⟨[], hJ3, rfl⟩, bx0, bx1⟩
  clear hJ3 bx0 bx1
  have e3 := HS3.out
  refine range_g rfl (by omega) (gf := 19) (lb := #[.pointer (some ⟨W.heap.size + 1 + 1, 0, none⟩)]) rfl trivial (enters_of Try.func19 (by kernel_rfl) rfl)
    (lines19_seq (9 - 1) (W.heap.size + 2) (w3.heap.size + 2) s w3 (by omega) bx2) (by omega) (by omega) (fun _ => rfl)
    (LnI J l W.heap.size) (fun c _ V => c = .ret ∧ ∃ p, Jx p V) ?hI ?hIx hin (fun _ _ _ _ h _ => h)
    (fun x => { tmps := #[.func (.yield l) #[] #[], .pointer (some ⟨b0, 0, none⟩), .pointer (some ⟨W.heap.size, 0, none⟩), .pointer (some ⟨W.heap.size + 1, 0, none⟩), .string x, undef, .string s, .func (.func 19) #[] #[.pointer (some ⟨W.heap.size + 1 + 1, 0, none⟩)], .string x, undef, undef, undef, undef, undef, undef, undef, undef, undef, undef, undef, undef], defers := [] }) ?hassign ?hbody ?hdone ?hstop
  case hI =>
    intro pre X Y h hf
    rw [e3] at hf
    exact h.fr HJ.out hf (fun h => by have := wd_own h; omega) (fun h => by have := wd_own h; omega) (fun i _ h => by have := wd_own h; exact ⟨by omega, by omega⟩)
  case hIx =>
    rintro c pre X Y ⟨rfl, p, hp⟩ hf
    rw [e3] at hf
    exact ⟨rfl, p, HJx.out _ _ _ hp (hf.mono (fun i _ h => by have := wd_own h; exact ⟨by omega, by omega⟩))⟩
  case hassign =>
    intro k x V K hK
    gi_wp2
    exact hK
  case hbody =>
    intro k pre x V hV hI hadm
    obtain ⟨⟨p, hp, hpe⟩, b1, b2⟩ := hI
    have hcnt : pre.length + 1 ≤ 1000000 := by
      have h1 := hadm.length_le
      have h2 := pieces_count s.data.toList
      simp at h1 h2
      omega
    have hx : x.size ≤ 1000000 := by
      have h1 := piece_len s.data.toList x.data.toList (hadm.subset (by simp))
      simp at h1
      omega
    have hWL : (pre ++ [x]).map (·.data.toList) = pre.map (·.data.toList) ++ [x.data.toList] := by simp
    have HWL := Lib.hid hWL
    have c2 := blk_cell b2 0
    have f2 := blk_frozen b2 0
    simp only [List.getElem?_toArray, List.getElem?_cons_zero] at c2
    have HPE := Lib.hid hpe
    have HAD := Lib.hid hadm
    have hlt : W.heap.size + 1 < V.heap.size := by omega
    have HE3 := Lib.hid e3
    clear hWL hpe hadm bx2 hin e3
    have hp2 : J p (V.setCell ⟨W.heap.size + 1, 0, none⟩ (.int .i64 ((pre.length : Int) + 1))) := HJ.out _ _ _ hp (Fr.set (S := LnOwn W.heap.size) (Fr.refl _ _) _ _ (fun _ => ⟨by simp, by simp⟩))
    have d1 : (V.setCell ⟨W.heap.size + 1, 0, none⟩ (.int .i64 ((pre.length : Int) + 1))).heap[W.heap.size]? = some (.cells #[.func (.yield l) #[] #[]] 45 (0, 0)) := blk_far b1 (by simp) _
    have d2 : (V.setCell ⟨W.heap.size + 1, 0, none⟩ (.int .i64 ((pre.length : Int) + 1))).heap[W.heap.size + 1]? = some (.cells #[.int .i64 ((pre.length : Int) + 1)] 3 (0, 0)) := blk_set b2 0 _
    have dF : Fr (fun i => i = W.heap.size + 1) V (V.setCell ⟨W.heap.size + 1, 0, none⟩ (.int .i64 ((pre.length : Int) + 1))) := Fr.set (S := fun i => i = W.heap.size + 1) (Fr.refl _ _) _ _ (fun _ => rfl)
    have HP2 := Lib.hid hp2
    have D1 := Lib.hid d1
    have D2 := Lib.hid d2
    have DF := Lib.hid dF
    clear hp2 d1 d2 dF hp b1 b2
    gi_wp2_with fail
    refine (CallsIn.inRound k (callsIn_wide.2 (Words5_any _ x hx))).mono ?_
    generalize V.setCell ⟨W.heap.size + 1, 0, none⟩ (.int .i64 ((pre.length : Int) + 1)) = V2 at *
    rintro e w1 ⟨u, rfl, hu, hb⟩
    have hp3 : J p w1 := HJ.out _ _ _ HP2.out (Fr.of_below hb)
    have hbF : Fr (fun _ => False) V2 w1 := Fr.of_below hb
    have e1 : w1.heap[W.heap.size]? = some (.cells #[.func (.yield l) #[] #[]] 45 (0, 0)) := hbF.at D1.out id
    have e2 : w1.heap[W.heap.size + 1]? = some (.cells #[.int .i64 ((pre.length : Int) + 1)] 3 (0, 0)) := hbF.at D2.out id
    have hVw : Fr (fun i => i = W.heap.size + 1) V w1 := DF.out.trans hbF (fun _ _ h => h.elim)
    have HU := Lib.hid hu
    have hz2 : W.heap.size + 5 ≤ V2.heap.size := by have := DF.out.size; have := HE3.out; omega
    have hz1 : W.heap.size + 5 ≤ w1.heap.size := by have := hb.size; omega
    have k1 : KpO (fun i => i = W.heap.size + 2) V w1 := KpO.of_fr hVw (fun i (hi : i = W.heap.size + 2) (h : i = W.heap.size + 1) => by omega)
    have k2 : Kept2 w3.heap.size V w1 := ⟨hVw.block _ (by omega) (fun (h : _ = _) => by have := HE3.out; omega), hVw.block _ (by omega) (fun (h : _ = _) => by have := HE3.out; omega)⟩
    have K1 := Lib.hid k1
    have K2 := Lib.hid k2
    have HW := Lib.hid hVw
    clear k1 k2 hVw hbF D1 D2 DF HP2 hb
    by_cases hw0 : wordsL x.data.toList = []
    · rw [hw0] at hu
      obtain ⟨A, c, rfl, hc, hC⟩ := srow_read hu
      rw [show (strs []).length = 0 from rfl]
      have HN : Hid (p.map (·.2.2) = wlines ((pre ++ [x]).map (·.data.toList))) := Lib.hid (by rw [HWL.out, wlines_append, wlines_none _ hw0, List.append_nil]; exact HPE.out)
      clear hw0 hu hc hC HU
      have E1 := Lib.hid e1
      have E2 := Lib.hid e2
      clear e1 e2
      gi_wp2
      refine ⟨K2.out, K1.out, ⟨p, hp3, HN.out⟩, E1.out, ?_⟩
      simpa using E2.out
    · obtain ⟨A, c, rfl, hc, hC⟩ := srow_read hu
      have hlen : 0 < (strs (wordsL x.data.toList)).length := by rw [strs_length]; exact List.length_pos_iff.2 hw0
      have hb0 : (((strs (wordsL x.data.toList)).length : Int) == 0) = false := beq_eq_false_iff_ne.2 (by omega)
      have HN : Hid (wlines ((pre ++ [x]).map (·.data.toList)) = p.map (·.2.2) ++ [wordsL x.data.toList]) := Lib.hid (by rw [HWL.out, wlines_append, wlines_one _ hw0]; rw [HPE.out])
      have hAd : LnAdm s.data.toList W.heap.size p (((pre.length : Int) + 1, .slice A (strs (wordsL x.data.toList)).length c, wordsL x.data.toList) : Ln) w1 := by
        refine ⟨hz1, ⟨_, hz2, HU.out⟩, ?_⟩
        obtain ⟨r, hr⟩ := HAD.out
        refine ⟨wlines r, ?_⟩
        rw [List.map_append, List.map_cons, List.map_nil, ← HN.out, ← hr, wlines_append]
      obtain ⟨fn, tmps, assign, body, hy, hR⟩ := HY.out p _ w1 hp3 hAd
      have hR' := roundIn_wide (m := 6) k hR
      have c1 := blk_cell e1 0
      have c2 := blk_cell e2 0
      simp only [List.getElem?_toArray, List.getElem?_cons_zero] at c1 c2
      have E1 := Lib.hid e1
      have E2 := Lib.hid e2
      clear e1 e2 hw0 hu hc hC HU hAd hR hlen
      generalize wordsL x.data.toList = ws at *
      unfold lnEnc at hy
      simp only at hy
      generalize (strs ws).length = nw at *
      gi_wp2
      refine hR'.mono ?_
      rintro e W4 (⟨rfl, hJ4, hk4⟩ | ⟨rfl, hJx4, hk4⟩)
      all_goals
        have k4 : KpO (fun i => i = W.heap.size + 2) V W4 := K1.out.trans ⟨hk4.size, fun i (hi : i = W.heap.size + 2) hl => hk4.same i ⟨by omega, by omega⟩ hl⟩
        have q : Kept2 w3.heap.size V W4 := ⟨(hk4.same _ (by have := HE3.out; exact ⟨by omega, by omega⟩) (by have := HE3.out; omega)).trans K2.out.d, (hk4.same _ (by have := HE3.out; exact ⟨by omega, by omega⟩) (by have := HE3.out; omega)).trans K2.out.l⟩
        have g1 := hk4.at ⟨by omega, by omega⟩ E1.out
        have g2 := hk4.at ⟨by omega, by omega⟩ E2.out
        have G1 := Lib.hid g1
        have G2 := Lib.hid g2
        have QQ := Lib.hid q
        have K4 := Lib.hid k4
        clear g1 g2 q k4 hk4
      · gi_wp2
        refine ⟨QQ.out, K4.out, ⟨p ++ [_], hJ4, ?_⟩, G1.out, ?_⟩
        · rw [HN.out, List.map_append, List.map_cons, List.map_nil]
        · simpa using G2.out
      · gi_wp2
        exact ⟨QQ.out, K4.out, rfl, _, hJx4⟩
  case hdone =>
    rintro xs V hxs ⟨⟨p, hp, hpe⟩, b1, b2⟩ hD
    have HP := Lib.hid (hpe.trans (by rw [hxs]))
    have HJp := Lib.hid (HJ.out _ _ (V.putObj w3.heap.size (.deferred none)) hp ((Fr.putObj V _ _).mono (fun i _ h => by exact ⟨by omega, by omega⟩)))
    clear hpe hxs b1 b2
    gi_wp2
    rw [Exit.noGoto_normal]
    refine ⟨by simp, .inl ⟨_, _, rfl, run_takeDeferred hD, ?_⟩⟩
    exact ⟨_, results_none rfl _ _ _, ⟨_, rfl⟩, .inl ⟨p, HP.out, HJp.out⟩⟩
  case hstop =>
    rintro c pre V _ ⟨rfl, p, hp⟩ hD
    have HJp := Lib.hid (HJx.out _ _ (V.putObj w3.heap.size (.deferred none)) hp ((Fr.putObj V _ _).mono (fun i _ h => by exact ⟨by omega, by omega⟩)))
    gi_wp2
    rw [Exit.noGoto_ret]
    refine ⟨by simp, .inl ⟨_, _, rfl, run_takeDeferred hD, ?_⟩⟩
    exact ⟨_, results_none rfl _ _ _, ⟨_, rfl⟩, .inr ⟨p, trivial, HJp.out⟩⟩
end Go.Proofs.Ytfodaegdkcbenaa
