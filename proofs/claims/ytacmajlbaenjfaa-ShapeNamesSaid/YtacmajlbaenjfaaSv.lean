/- ReadSignature: the text's halves, plain; two builders. -/
import Derived.Test.YtacmajlbaenjfaaSu
import Derived.LaidEqlPtr
namespace Go.Proofs.Ytacmajlbaenjfaa
open Go.RowKit Go.Shelf Go.Proofs.YtacmajlbaenjfaaW.PrintWords Go.Proofs.YtacmajlbaenjfaaW.PrintLast Go.Proofs.YtacmajlbaenjfaaW.PrintMore

/-- What stands ahead of the arrow, behind it; whether there is one. -/
def cutA : List UInt8 → List UInt8
  | [] => []
  | c :: t => if c = 62 then [] else c :: cutA t
def cutB : List UInt8 → List UInt8
  | [] => []
  | c :: t => if c = 62 then t else cutB t
def hasA : List UInt8 → Bool
  | [] => false
  | c :: t => c == 62 || hasA t
theorem cutA_none : ∀ (p : List UInt8), hasA p = false → cutA p = p ∧ cutB p = []
  | [], _ => ⟨rfl, rfl⟩
  | c :: t, h => by
    simp only [hasA, Bool.or_eq_false_iff, beq_eq_false_iff_ne] at h
    obtain ⟨h1, h2⟩ := cutA_none t h.2
    simp only [cutA, cutB]
    rw [if_neg h.1, if_neg h.1, h1, h2]
    exact ⟨rfl, rfl⟩
theorem cut_on : ∀ (p : List UInt8) (c : UInt8), hasA p = true → cutA (p ++ [c]) = cutA p ∧ cutB (p ++ [c]) = cutB p ++ [c] ∧ hasA (p ++ [c]) = true
  | [], _, h => by cases h
  | d :: t, c, h => by
    simp only [List.cons_append, cutA, cutB, hasA]
    by_cases hd : d = 62
    · rw [if_pos hd, if_pos hd, if_pos hd, if_pos hd]; simp [hd]
    · have ht : hasA t = true := by simpa [hasA, hd] using h
      obtain ⟨h1, h2, h3⟩ := cut_on t c ht
      rw [if_neg hd, if_neg hd, if_neg hd, if_neg hd, h1, h2, h3]; simp
theorem cut_arrow : ∀ (p : List UInt8), hasA p = false → cutA (p ++ [62]) = p ∧ cutB (p ++ [62]) = [] ∧ hasA (p ++ [62]) = true
  | [], _ => ⟨rfl, rfl, rfl⟩
  | d :: t, h => by
    simp only [hasA, Bool.or_eq_false_iff, beq_eq_false_iff_ne] at h
    obtain ⟨h1, h2, h3⟩ := cut_arrow t h.2
    simp only [List.cons_append, cutA, cutB, hasA]
    rw [if_neg h.1, if_neg h.1, h1, h2, h3]; simp
theorem cut_no : ∀ (p : List UInt8) (c : UInt8), hasA p = false → c ≠ 62 → hasA (p ++ [c]) = false
  | [], c, _, hc => by simp [hasA, hc]
  | d :: t, c, h, hc => by
    simp only [hasA, Bool.or_eq_false_iff, beq_eq_false_iff_ne] at h
    simp only [List.cons_append, hasA, cut_no t c h.2 hc]
    simp [h.1]
theorem cut_all : ∀ (p : List UInt8), hasA p = true → p = cutA p ++ 62 :: cutB p
  | [], h => by cases h
  | d :: t, h => by
    simp only [cutA, cutB]
    by_cases hd : d = 62
    · rw [if_pos hd, if_pos hd, hd]; rfl
    · have ht : hasA t = true := by simpa [hasA, hd] using h
      rw [if_neg hd, if_neg hd, List.cons_append, ← cut_all t ht]
theorem cut_len (p : List UInt8) (h : hasA p = true) : (cutA p).length + (cutB p).length + 1 = p.length := by
  have := congrArg List.length (cut_all p h)
  rw [List.length_append, List.length_cons] at this
  omega
def low (b : UInt8) : Bool := decide (b.toNat < 128)
theorem ltB_low {b : UInt8} (h : ltB b = true) : low b = true := by
  unfold low
  rw [decide_eq_true_iff]
  rcases Nat.lt_or_ge b.toNat 128 with h1 | h1
  · exact h1
  · rw [ltB_high b h1] at h; cases h
/-- What ReadSignature answers: both lists, the error. -/
def readG (l : List UInt8) : List Int × List Int × Int :=
  if hasA l = true ∧ (typesT (cutA l)).2 = 0 ∧ (typesT (cutB l)).2 = 0 ∧ sigOk (typesT (cutA l)).1 (typesT (cutB l)).1 = true then ((typesT (cutA l)).1, (typesT (cutB l)).1, 0) else ([], [], 61)
theorem typesT_all {l : List UInt8} (h : (typesT l).2 = 0) : l.all ltB = true := by
  unfold typesT at h
  split at h
  · rename_i h1; exact h1.1
  · simp at h
theorem readG_high {l : List UInt8} (h : l.all low = false) : readG l = ([], [], 61) := by
  unfold readG
  rw [if_neg]
  rintro ⟨h1, h2, h3, _⟩
  have h4 : l.all low = true := by
    rw [List.all_eq_true]
    intro x hx
    rw [cut_all l h1] at hx
    rcases List.mem_append.1 hx with hx | hx
    · exact ltB_low (List.all_eq_true.1 (typesT_all h2) x hx)
    · rcases List.mem_cons.1 hx with rfl | hx
      · decide
      · exact ltB_low (List.all_eq_true.1 (typesT_all h3) x hx)
  rw [h] at h4; cases h4

/-- What both builders hold, behind k bytes of the text l. -/
def Heard (l : List UInt8) (k : Nat) (at_ : Bool) (La Lb : List UInt8) : Prop :=
  La.length + Lb.length ≤ 4 * k ∧
  (((l.take k).all low = true ∧ La = cutA (l.take k) ∧ Lb = cutB (l.take k) ∧ at_ = hasA (l.take k)) ∨ (l.all low = false ∧ (La.all ltB && Lb.all ltB) = false))
theorem enc_low {c : UInt8} (h : low c = true) : Lib.encodeRune (c.toNat : Int) = [c] := by
  unfold low at h
  rw [decide_eq_true_iff] at h
  unfold Lib.encodeRune
  rw [Lib.encodeRuneZ_one (by omega) (by omega)]
  simp
theorem enc_high {r : Int} (h0 : 128 ≤ r) : (Lib.encodeRune r).all ltB = false := by
  have key : ∀ x : Int, 128 ≤ x → x < 256 → ltB x.toNat.toUInt8 = false := fun x hx hy => ltB_high _ (by
    have : x.toNat.toUInt8.toNat = x.toNat % 256 := rfl
    rw [this]; omega)
  unfold Lib.encodeRune Lib.encodeRuneZ
  rw [if_neg (by omega)]
  split
  · rw [List.map_cons, List.all_cons, key _ (by omega) (by omega)]; rfl
  · split
    · rw [List.map_cons, List.all_cons, key _ (by omega) (by omega)]; rfl
    · split
      · rw [List.map_cons, List.all_cons, key _ (by omega) (by omega)]; rfl
      · rw [List.map_cons, List.all_cons, key _ (by omega) (by omega)]; rfl
theorem enc_len (r : Int) : (Lib.encodeRune r).length ≤ 4 := by
  have := (Lib.runeCells_le r).2
  rwa [Lib.runeCells_length] at this
theorem all_low_not {l : List UInt8} {k : Nat} (h : k < l.length) (hc : low (l[k]) = false) : l.all low = false := by
  rw [Bool.eq_false_iff]
  intro h1
  have := List.all_eq_true.1 h1 (l[k]) (List.getElem_mem _)
  rw [hc] at this; cases this
theorem Heard.start (l : List UInt8) : Heard l 0 false [] [] := ⟨by simp, .inl ⟨rfl, rfl, rfl, rfl⟩⟩
/-- One low byte more: the arrow, the first one. -/
theorem Heard.arrow {l : List UInt8} {k : Nat} {La : List UInt8} (h : Heard l k false La []) (hk : k < l.length) (hc : l[k] = 62) : Heard l (k + 1) true La [] := by
  obtain ⟨h0, h⟩ := h
  refine ⟨by omega, ?_⟩
  rcases h with ⟨h1, rfl, h3, h4⟩ | ⟨h1, h2⟩
  · obtain ⟨g1, g2, g3⟩ := cut_arrow _ h4.symm
    have e : l.take (k + 1) = l.take k ++ [62] := by rw [List.take_succ_eq_append_getElem hk, hc]
    refine .inl ⟨by rw [e, List.all_append, h1]; rfl, ?_, by rw [e, g2], by rw [e, g3]⟩
    rw [e, g1, (cutA_none _ h4.symm).1]
  · exact .inr ⟨h1, h2⟩
theorem Heard.first {l : List UInt8} {k : Nat} {La : List UInt8} (h : Heard l k false La []) (hk : k < l.length) (hl : low (l[k]) = true) (hc : l[k] ≠ 62) : Heard l (k + 1) false (La ++ [l[k]]) [] := by
  obtain ⟨h0, h⟩ := h
  refine ⟨by simp at h0 ⊢; omega, ?_⟩
  rcases h with ⟨h1, rfl, h3, h4⟩ | ⟨h1, h2⟩
  · have e : l.take (k + 1) = l.take k ++ [l[k]] := List.take_succ_eq_append_getElem hk
    have g := cut_no _ (l[k]) h4.symm hc
    have g0 := cutA_none _ h4.symm
    have g1 := cutA_none _ g
    refine .inl ⟨by rw [e, List.all_append, h1]; simp [hl], by rw [e, g1.1, g0.1], by rw [e, g1.2], by rw [e, g]⟩
  · exact .inr ⟨h1, by rw [List.all_append]; revert h2; cases La.all ltB <;> simp⟩
theorem Heard.second {l : List UInt8} {k : Nat} {La Lb : List UInt8} (h : Heard l k true La Lb) (hk : k < l.length) (hl : low (l[k]) = true) : Heard l (k + 1) true La (Lb ++ [l[k]]) := by
  obtain ⟨h0, h⟩ := h
  refine ⟨by simp at h0 ⊢; omega, ?_⟩
  rcases h with ⟨h1, rfl, rfl, h4⟩ | ⟨h1, h2⟩
  · have e : l.take (k + 1) = l.take k ++ [l[k]] := List.take_succ_eq_append_getElem hk
    obtain ⟨g1, g2, g3⟩ := cut_on _ (l[k]) h4.symm
    exact .inl ⟨by rw [e, List.all_append, h1]; simp [hl], by rw [e, g1], by rw [e, g2], by rw [e, g3]⟩
  · exact .inr ⟨h1, by rw [List.all_append]; revert h2; cases La.all ltB <;> cases Lb.all ltB <;> simp⟩
theorem Heard.high {l : List UInt8} {k k2 : Nat} {La Lb r1 r2 : List UInt8} {at_ : Bool} (h : Heard l k at_ La Lb) (hk : k < k2) (hl : l.all low = false) (hr : (r1.all ltB && r2.all ltB) = false) (hlen : r1.length + r2.length ≤ 4) : Heard l k2 at_ (La ++ r1) (Lb ++ r2) := by
  obtain ⟨h0, _⟩ := h
  refine ⟨by simp; omega, .inr ⟨hl, ?_⟩⟩
  rw [List.all_append, List.all_append]
  revert hr
  cases La.all ltB <;> cases Lb.all ltB <;> cases r1.all ltB <;> cases r2.all ltB <;> simp
theorem Heard.end_ {l : List UInt8} {at_ : Bool} {La Lb : List UInt8} (h : Heard l l.length at_ La Lb) :
    readG l = if at_ = true ∧ (typesT La).2 = 0 ∧ (typesT Lb).2 = 0 ∧ sigOk (typesT La).1 (typesT Lb).1 = true then ((typesT La).1, (typesT Lb).1, 0) else ([], [], 61) := by
  rcases h.2 with ⟨_, rfl, rfl, rfl⟩ | ⟨h1, h2⟩
  · rw [List.take_length]; rfl
  · rw [readG_high h1, if_neg]
    rintro ⟨_, h3, h4, _⟩
    rw [typesT_all h3, typesT_all h4] at h2
    cases h2

theorem BIs.fr {S : Nat → Prop} {W W' : World} {b base : Nat} {v : Value} {bs : List Value} (h : BIs W b base v bs) (hF : Fr S W W') (hb : ¬ S b) (hv : ∀ i, v.ownBlock = some i → ¬ S i) : BIs W' b base v bs := by
  have key : ∀ p, BAt W b base p v bs → BAt W' b base p v bs := fun p ⟨h1, h2⟩ => ⟨(hF.block b (blk_lt h1) hb).trans h1, ownF_fr h2 hF hv⟩
  exact h.elim (fun h => .inl (key _ h)) (fun h => .inr (key _ h))
theorem BIs.lt {W : World} {b base : Nat} {v : Value} {bs : List Value} (h : BIs W b base v bs) : b < W.heap.size := h.elim (fun h => blk_lt h.1) (fun h => blk_lt h.1)
theorem BIs.hi {W : World} {b base : Nat} {v : Value} {bs : List Value} (h : BIs W b base v bs) (i : Nat) (hi : v.ownBlock = some i) : i < W.heap.size :=
  h.elim (fun h => (h.2.lt i hi).2) (fun h => (h.2.lt i hi).2)
theorem BIs.ne {W : World} {b base : Nat} {v : Value} {bs : List Value} (h : BIs W b base v bs) {g : Nat} {o : Obj} (hg : W.heap[g]? = some o) (ho : ∀ c fz, o ≠ .cells c 5 fz) : v.ownBlock ≠ some g := by
  have key : W.ownsRowF base 5 1 v bs.length bs → v.ownBlock ≠ some g := by
    rintro ⟨_, h2⟩ e
    rcases h2 with ⟨rfl, _⟩ | ⟨g', cap, cur, fz, rfl, _, hg', _⟩
    · cases e
    · simp only [Value.ownBlock, Option.some.injEq] at e
      subst e
      rw [hg] at hg'
      cases hg'
      exact ho _ _ rfl
  exact h.elim (fun h => key h.2) (fun h => key h.2)
theorem fr_iterAt (w : World) (k : Nat) (s : ByteArray) (pos : Nat) : Fr (fun i => i = k) w (w.iterAt k s pos) :=
  ⟨rfl, rfl, rfl, by rw [Lib.iterAt_size]; exact Nat.le_refl _, fun i _ hn => Lib.iterAt_other w k i s pos hn⟩
theorem fr_freeze (w : World) (p : Addr) (n : Nat) : Fr (fun i => i = p.block) w (w.freeze p n) := by
  unfold World.freeze
  split
  · exact Fr.refl _ _
  · exact ⟨rfl, rfl, rfl, by simp, fun i hi hn => by simp only [Array.getElem?_modify]; rw [if_neg (fun e => hn e.symm)]⟩

set_option maxRecDepth 100000 in
set_option maxHeartbeats 2000000 in
theorem String59_any (w : World) (b base : Nat) (v : Value) (l : List UInt8) (h : BIs w b base v (Lib.byteCells l)) (hv : l = [] → v = .slice none 0 0) :
    Calls Try.prog 59 #[.pointer (some ⟨b, 0, none⟩)] w fun e w' => e = .returned (.string ⟨l.toArray⟩) ∧ Fr (fun i => v.ownBlock = some i) w w' := by
  obtain ⟨p, hbk, hown⟩ : ∃ p, BAt w b base p v (Lib.byteCells l) := h.elim (fun h => ⟨_, h⟩) (fun h => ⟨_, h⟩)
  by_cases h0 : l = []
  · subst h0
    obtain rfl := hv rfl
    have hUS : (Builtin.unsafeString_ #[129, 3] 9 #[.pointer none, .int .i64 0]).run Try.prog w.drew = .ok (.string .empty) w.drew := Lib.run_unsafeString_none w.drew _ _ _ none
    have c1 : w.drew.cell? ⟨b, 1, none⟩ = some (.slice none 0 0) := blk_cell (w := w.drew) hbk 1
    have hSD : (Builtin.unsafeSliceData_ #[23] 129 #[.slice none 0 0]).run Try.prog w.drew = .ok (.pointer none) w.drew := rfl
    clear hbk hown hv h
    go_enter Try.func59, Try.ntmps59
    go_wp2
    go_region
    all_goals (go_wp2; go_ret; exact ⟨rfl, (Fr.refl _ _).drew⟩)
  · have hl0 : l.length ≠ 0 := by simpa using h0
    rw [Lib.byteCells_length] at hown
    obtain ⟨g, cap, cur, fz, rfl, hbg, hg, hfz, hnc, hcm, hcs, htake⟩ : ∃ g cap cur fz, v = .slice (some ⟨g, 0, none⟩) l.length cap ∧ base ≤ g ∧ w.heap[g]? = some (.cells cur 5 fz) ∧ fz.2 ≤ l.length * 1 ∧ l.length ≤ cap ∧ cap ≤ maxLen ∧ cur.size = cap * 1 ∧ cur.toList.take (l.length * 1) = Lib.byteCells l := by
      rcases hown.2 with ⟨_, hz⟩ | ⟨g, cap, cur, fz, hv, r⟩
      · exact absurd hz hl0
      · exact ⟨g, cap, cur, fz, hv, r⟩
    have c1 : w.drew.cell? ⟨b, 1, none⟩ = some (.slice (some ⟨g, 0, none⟩) l.length cap) := blk_cell (w := w.drew) hbk 1
    have hSD : (Builtin.unsafeSliceData_ #[23] 129 #[.slice (some ⟨g, 0, none⟩) l.length cap]).run Try.prog w.drew = .ok (.pointer (some ⟨g, 0, none⟩)) w.drew :=
      Lib.run_unsafeSliceData_row _ _ _ _ _ _ (by omega)
    have hUS : (Builtin.unsafeString_ #[129, 3] 9 #[.pointer (some ⟨g, 0, none⟩), .int .i64 l.length]).run Try.prog w.drew = .ok (.string ⟨l.toArray⟩) (w.drew.freeze ⟨g, 0, none⟩ l.length) := by
      refine Lib.run_unsafeString_row w.drew 129 3 9 5 Try.lays169.t127 Try.Builder_Extra_169.cellsByte g cur.size (by have hg' : w.drew.heap[g]? = some (.cells cur 5 fz) := hg; simp [World.shape?, hg']) l h0 (by omega) (by unfold maxLen at hcm; omega) ?_
      intro j x hx
      have := hown.cells (g := g) rfl j (.int .u8 x.toNat) (by simp [Lib.byteCells, hx])
      exact this
    have hF : Fr (fun i => (Value.slice (some ⟨g, 0, none⟩) l.length cap).ownBlock = some i) w (w.drew.freeze ⟨g, 0, none⟩ l.length) :=
      ((Fr.refl (fun i => (Value.slice (some ⟨g, 0, none⟩) l.length cap).ownBlock = some i) w).drew).trans (fr_freeze w.drew ⟨g, 0, none⟩ l.length) (fun i _ e => by simp [Value.ownBlock, e])
    have HF := Lib.hid hF
    generalize w.drew.freeze ⟨g, 0, none⟩ l.length = w2 at *
    generalize l.length = n at *
    clear hbk hown hv h hl0 hbg hg hfz hnc hcm hcs htake hF h0
    go_enter Try.func59, Try.ntmps59
    go_wp2
    go_region
    all_goals (go_wp2; go_ret; exact ⟨rfl, HF.out⟩)
end Go.Proofs.Ytacmajlbaenjfaa
