/- The own law of ranges, where the loop's variable is boxed. -/
import Derived.Test.YtamagdnlicnefaaGreatDoorKnRb
namespace Go.Proofs.YtamagdnlicnefaaGreatDoor
open Go.RowKit
section
variable {F : Fence} {n : Nat} {P : Program}
theorem range_ga {α : Type} {g : Operand} {ps : Array Tmp} {assign body : Code} {Q : Exit → Act → World → Prop} {a : Act} {w : World}
    (hro : F.round = none) (h1 : 1 ≤ n) {gf : Nat} {lb : Array Value} (hg : a.eval g = .func (.func gf) #[] lb) (hFg : F.fn gf) (eg : ∀ args w, (callFunc gf args).run P w = .ok (.enter gf args) w)
    {encs : α → Array Value} {Adm : List α → α → World → Prop} {O : Nat → Prop} {S Sp : List α → Prop} (hseq : SeqG F (n - 1) P gf lb encs Adm O S Sp (w.heap.size + 2) w)
    (hOD : ¬ O w.heap.size) (hOL : ¬ O (w.heap.size + 1)) (hps : ∀ x, (encs x).size = ps.size)
    (I : List α → World → Prop) (Ix : Code → List α → World → Prop) (hI : ∀ s X Y, I s X → Fr (Wd O w.heap.size) X Y → I s Y) (hIx : ∀ c s X Y, Ix c s X → Fr (Wd O w.heap.size) X Y → Ix c s Y) (h0 : I [] w)
    (hAdm : ∀ pre x X Y, Adm pre x X → Fr (fun i => i = w.heap.size + 1) X Y → Adm pre x Y) (Ax : α → Act → World → Prop) (hAx : ∀ x a' X Y, Ax x a' X → Fr (fun i => i = w.heap.size + 1) X Y → Ax x a' Y)
    (hassign : ∀ (l : Nat) (pre : List α) (x : α) (W : World) (K : Act → World → Prop), w.heap.size + 2 ≤ W.heap.size → Adm pre x W → (∀ a' W', Below W.heap.size W W' → Ax x a' W' → K a' W') →
      assign.wpIn (F.inRound l) (n - 1 - 1) P (Exit.then K (fun _ _ _ => False)) { tmps := (ps.zip (encs x)).foldl (fun t (p, v) => t.setIfInBounds p v) a.tmps, defers := [] } W)
    (hbody : ∀ (l : Nat) (pre : List α) (x : α) (a' : Act) (W : World), w.heap.size + 2 ≤ W.heap.size → I pre W → Adm pre x W → Ax x a' W → body.wpIn (F.inRound l) (n - 1 - 1) P (postO w.heap.size O I Ix (pre ++ [x]) W) a' W)
    (hdone : ∀ (xs : List α) (W : World), S xs → I xs W → W.heap[w.heap.size]? = some (.deferred (some [])) → Q .normal { a with defers := { target := .collected w.heap.size, args := #[] } :: a.defers } W)
    (hstop : ∀ (c : Code) (pre : List α) (W : World), Sp pre → Ix c pre W → W.heap[w.heap.size]? = some (.deferred (some [])) → c.wpIn F n P Q { a with defers := { target := .collected w.heap.size, args := #[] } :: a.defers } W) :
    (Code.rangeFunc g ps assign body).wpIn F n P Q a w := by
  refine wpIn_rangeFunc ?_
  intro fn hfn
  rw [hro]
  obtain ⟨rec, hrec⟩ : ∃ rec : LoopState → Option Code → Loop, rec = fun st pe => { state := st, pending := pe, fn, tmps := a.tmps, params := ps, assign, body, defers := w.heap.size } := ⟨_, rfl⟩
  obtain ⟨W1, hW1⟩ : ∃ W1, (w.alloc (.deferred (some []))).alloc (.loop (rec .ready none)) = W1 := ⟨_, rfl⟩
  have hbk : Book W1 w.heap.size (rec .ready none) := by
    refine ⟨?_, ?_⟩
    · have := World.alloc_heap_new (w.alloc (.deferred (some []))) (.loop (rec .ready none))
      rwa [World.size_alloc, hW1] at this
    · rw [← hW1]; exact (Below.heap_alloc _ _ _ (by simp)).trans (World.alloc_heap_new w _)
  have hsz1 : W1.heap.size = w.heap.size + 2 := by rw [← hW1]; simp
  have hb1 : Below w.heap.size w W1 := by rw [← hW1]; exact ((Below.refl _ w).alloc (Nat.le_refl _) _).alloc (by simp) _
  have hI1 : I [] W1 := hI _ _ _ h0 (Fr.of_below hb1)
  have hput : ∀ (W : World) (r : Loop), Fr (Wd O w.heap.size) W (W.putObj (w.heap.size + 1) (.loop r)) := fun W r => (Fr.putObj W _ _).mono (fun i _ e => .inr (.inr e))
  have hputk : ∀ (W : World) (r : Loop), KpO O W (W.putObj (w.heap.size + 1) (.loop r)) := fun W r => KpO.of_fr (Fr.putObj W _ _) (fun i hi e => hOL (e ▸ hi))
  refine ⟨w.heap.size + 1, [{ target := .collected w.heap.size, args := #[] }], W1, { target := .fn (.func gf) lb, args := #[.func (.yield (w.heap.size + 1)) #[] #[]] }, W1, gf, #[.func (.yield (w.heap.size + 1)) #[] #[]] ++ lb, W1, ?_, ?_, ?_, ?_, fun _ => h1, ?_⟩
  · rw [← hW1, hrec]; exact run_enterLoop_outer _ _ _ _ _
  · simp only [resolve, hg]
    simp [go_sem]
  · intro f' hf'; simp [Target.leads] at hf'; subst hf'; exact hFg
  · simp [invoke, go_sem, eg]
  · refine (hseq (w.heap.size + 1) (fun pre W => I pre W ∧ Book W w.heap.size (rec .ready none)) (fun pre W => ∃ c, Ix c pre W ∧ Book W w.heap.size (rec .done (some c))) W1 hsz1 hb1
      (fun s A B hs hg' => ⟨hI s A B hs.1 (hg'.mono (fun i _ h => .inl h)), hs.2.fr hg' hOD hOL⟩)
      (fun s A B ⟨c, hc, hb⟩ hg' => ⟨c, hIx c s A B hc (hg'.mono (fun i _ h => .inl h)), hb.fr hg' hOD hOL⟩) ?_ ⟨hI1, hbk⟩).mono ?_
    · rintro pre x V ⟨hi, hb⟩ hadm
      have hy := run_yield (P := P) (args := encs x) hb.rec_ (by rw [hrec]; exact hps x)
      rw [hrec] at hy
      have hszV := (Array.getElem?_eq_some_iff.1 hb.rec_).1
      refine ⟨fn, _, assign, body, hy, roundIn_of_wpIn hfn (hassign (w.heap.size + 1) pre x V _ (by omega) hadm ?_)⟩
      intro a' U hbel hax
      have hfU : Fr (fun _ => False) V U := Fr.of_below hbel
      have hbV := hb
      replace hb := hb.fr hfU id id
      replace hi := hI _ _ _ hi (hfU.mono (fun _ _ h => h.elim))
      replace hadm := hAdm _ _ _ _ hadm (hfU.mono (fun _ _ h => h.elim))
      have hkU : KpO O V U := KpO.of_fr hfU (fun _ _ h => h)
      refine ⟨_, run_beginRound hb.rec_ (by rw [hrec]), ?_⟩
      have hbU := hb.put { rec .ready none with state := .busy }
      have hszU := (Array.getElem?_eq_some_iff.1 hbU.rec_).1
      refine wpIn_mono (hbody (w.heap.size + 1) pre x a' _ hszU (hI _ _ _ hi (hput _ _)) (hAdm _ _ _ _ hadm (Fr.putObj U _ _)) (hAx _ _ _ _ hax (Fr.putObj U _ _))) ?_
      have fin : ∀ (jump : Option Code) (W3 : World), Kept2 w.heap.size (U.putObj (w.heap.size + 1) (.loop { rec .ready none with state := .busy })) W3 →
          (Instr.endRound (w.heap.size + 1) jump).run P W3 = .ok (.bool jump.isNone) (W3.putObj (w.heap.size + 1) (.loop (rec (if jump.isNone then .ready else .done) jump))) ∧
          Book (W3.putObj (w.heap.size + 1) (.loop (rec (if jump.isNone then .ready else .done) jump))) w.heap.size (rec (if jump.isNone then .ready else .done) jump) := fun jump W3 hk3 => by
        have hb3 := hbU.kept hk3
        have hr := run_endRound (P := P) jump hb3.rec_
        refine ⟨?_, hb3.put _⟩
        rw [hrec] at hr ⊢
        exact hr
      rintro e a3 W3 hp
      have stop : ∀ c : Code, Kept2 w.heap.size (U.putObj (w.heap.size + 1) (.loop { rec .ready none with state := .busy })) W3 → Ix c (pre ++ [x]) W3 → ∃ c', Ix c' (pre ++ [x]) (W3.putObj (w.heap.size + 1) (.loop (rec (if (some c).isNone then .ready else .done) (some c)))) ∧ Book (W3.putObj (w.heap.size + 1) (.loop (rec (if (some c).isNone then .ready else .done) (some c)))) w.heap.size (rec .done (some c')) := fun c hk3 hi3 =>
        ⟨c, hIx _ _ _ _ hi3 (hput _ _), (fin (some c) W3 hk3).2⟩
      cases e with
      | normal =>
        obtain ⟨hk3, hkp3, hi3⟩ := hp
        obtain ⟨hr, hb4⟩ := fin none W3 hk3
        exact ⟨_, _, hr, .inl ⟨rfl, ⟨hI _ _ _ hi3 (hput _ _), hb4⟩, (hkU.trans ((hputk _ _).trans hkp3)).trans (hputk _ _)⟩⟩
      | ret => exact ⟨_, _, (fin (some .ret) W3 hp.1).1, .inr ⟨rfl, stop .ret hp.1 hp.2.2, (hkU.trans ((hputk _ _).trans hp.2.1)).trans (hputk _ _)⟩⟩
      | exit id => exact ⟨_, _, (fin (some (.exit id)) W3 hp.1).1, .inr ⟨rfl, stop (.exit id) hp.1 hp.2.2, (hkU.trans ((hputk _ _).trans hp.2.1)).trans (hputk _ _)⟩⟩
      | goto t => exact ⟨_, _, (fin (some (.goto t)) W3 hp.1).1, .inr ⟨rfl, stop (.goto t) hp.1 hp.2.2, (hkU.trans ((hputk _ _).trans hp.2.1)).trans (hputk _ _)⟩⟩
      | panic ch => exact hp.elim
      | outgrown => exact hp.elim
    · rintro e W2 ⟨⟨v, rfl⟩, (⟨xs, hS, hi, hb⟩ | ⟨pre, hSp, c, hi, hb⟩)⟩
      · have hr := run_endLoop (P := P) hb.rec_ (by rw [hrec]; simp)
        refine ⟨none, _, by rw [hrec] at hr; exact hr, ?_⟩
        exact hdone xs _ hS (hI _ _ _ hi (hput _ _)) ((World.putObj_heap_other (by omega)).trans hb.defs)
      · have hr := run_endLoop (P := P) hb.rec_ (by rw [hrec]; simp)
        refine ⟨some c, _, by rw [hrec] at hr; exact hr, ?_⟩
        exact hstop c pre _ hSp (hIx _ _ _ _ hi (hput _ _)) ((World.putObj_heap_other (by omega)).trans hb.defs)
end
end Go.Proofs.YtamagdnlicnefaaGreatDoor
