/- A range over a function whose iterator says, of what it hands on, how that hangs on what came before: a law of this seat's own. -/
import Derived.RangeFuncNested
import Derived.RangeFuncCalls
namespace Go.Proofs.Ytnomjjhocblkkaa
open Go.RowKit

/-- An iterator's contract: Adm pre x: x may come behind pre. -/
def SeqAdm {α : Type} (F : Fence) (n : Nat) (P : Program) (g : Nat) (lb : Array Value) (encs : α → Array Value) (Adm : List α → α → Prop) (Kp : World → World → Prop) (S Sp : List α → Prop) (w : World) : Prop :=
  ∀ (l : Nat) (J Jx : List α → World → Prop) (W : World), Below w.heap.size w W → AbidesFrom W.heap.size J → AbidesFrom W.heap.size Jx →
    (∀ pre x W1, J pre W1 → Adm pre x → YieldAt F (n - 1) P l (encs x) W1 fun e W' =>
      (e = .returned (.bool true) ∧ J (pre ++ [x]) W' ∧ Kp W1 W') ∨ (e = .returned (.bool false) ∧ Jx (pre ++ [x]) W')) →
    J [] W →
    CallsIn F n P g (#[.func (.yield l) #[] #[]] ++ lb) W fun e W' => (∃ v, e = .returned v) ∧ ((∃ xs, S xs ∧ J xs W') ∨ (∃ pre, Sp pre ∧ Jx pre W'))

section
variable {F : Fence} {n : Nat} {P : Program}

/-- The book-keeping of a loop: its record at l, the deferred calls of its rounds at D. -/
structure Book (W : World) (l D : Nat) (r : Loop) : Prop where
  rec_ : W.heap[l]? = some (.loop r)
  defs : W.heap[D]? = some (.deferred (some []))

theorem Book.walk {W W' : World} {l D : Nat} {r : Loop} {row : Option Nat} {B : Nat} (h : Book W l D r) (hg : W.grownBy W' row) (hr : ∀ k, row = some k → B ≤ k ∧ ∃ o : Obj, W.heap[k]? = some o ∧ o.isWalk = true) : Book W' l D r :=
  ⟨(grownBy_keeps hg (fun k e => (hr k e).2) h.rec_ rfl).trans h.rec_, (grownBy_keeps hg (fun k e => (hr k e).2) h.defs rfl).trans h.defs⟩

theorem Book.keep {W W' : World} {l D B : Nat} {r : Loop} (h : Book W l D r) (hk : KeepsFrom B W W') (hl : B ≤ l) (hD : B ≤ D) : Book W' l D r :=
  ⟨hk.same _ _ hl h.rec_ rfl, hk.same _ _ hD h.defs rfl⟩

theorem Book.put {W : World} {l D : Nat} {r : Loop} (h : Book W l D r) (hne : l ≠ D) (r' : Loop) : Book (W.putObj l (.loop r')) l D r' :=
  ⟨World.putObj_heap_same (Array.getElem?_eq_some_iff.1 h.rec_).1, (World.putObj_heap_other (by omega)).trans h.defs⟩

theorem range_adm {α : Type} {g : Operand} {ps : Array Tmp} {assign body : Code} {Q : Exit → Act → World → Prop} {a : Act} {w : World}
    (hro : F.round = none) (h1 : 1 ≤ n) {gf : Nat} {lb : Array Value} (hg : a.eval g = .func (.func gf) #[] lb) (hFg : F.fn gf) (eg : ∀ args w, (callFunc gf args).run P w = .ok (.enter gf args) w)
    {encs : α → Array Value} {Adm : List α → α → Prop} {Kp : World → World → Prop} {S Sp : List α → Prop} (hseq : SeqAdm F (n - 1) P gf lb encs Adm Kp S Sp w)
    (hKt : ∀ {A B C : World}, Kp A B → Kp B C → Kp A C) (hKb : ∀ (W : World) (l : Nat) (o o' : Obj), w.heap.size ≤ l → W.heap[l]? = some o → o.isCells = false → o.isWalk = false → Kp W (W.putObj l o')) (hps : ∀ x, (encs x).size = ps.size)
    (I : List α → World → Prop) (Ix : Code → List α → World → Prop) (hI : OwnFrom w.heap.size I) (hIx : ∀ c, OwnFrom w.heap.size (Ix c)) (h0 : I [] w) (Ax : α → Act → World → Prop) (hAx : ∀ x a', OwnFrom w.heap.size (fun (_ : Unit) W => Ax x a' W))
    (hassign : ∀ (l : Nat) (pre : List α) (x : α) (W : World) (K : Act → World → Prop), I pre W → Adm pre x → (∀ a' W', KeepsFrom w.heap.size W W' → Kp W W' → I pre W' → Ax x a' W' → K a' W') →
      assign.wpIn (F.inRound l) (n - 1 - 1) P (Exit.then K (fun _ _ _ => False)) { tmps := (ps.zip (encs x)).foldl (fun t (p, v) => t.setIfInBounds p v) a.tmps, defers := [] } W)
    (hbody : ∀ (l : Nat) (pre : List α) (x : α) (a' : Act) (W : World), w.heap.size ≤ l → (∃ r, W.heap[l]? = some (.loop r)) → I pre W → Adm pre x → Ax x a' W → body.wpIn (F.inRound l) (n - 1 - 1) P (ownPostG w.heap.size Kp I Ix (pre ++ [x]) W) a' W)
    (hdone : ∀ (D : Nat) (xs : List α) (W : World), w.heap.size ≤ D → S xs → I xs W → W.heap[D]? = some (.deferred (some [])) → Q .normal { a with defers := { target := .collected D, args := #[] } :: a.defers } W)
    (hstop : ∀ (D : Nat) (c : Code) (pre : List α) (W : World), w.heap.size ≤ D → Sp pre → Ix c pre W → W.heap[D]? = some (.deferred (some [])) → c.wpIn F n P Q { a with defers := { target := .collected D, args := #[] } :: a.defers } W) :
    (Code.rangeFunc g ps assign body).wpIn F n P Q a w := by
  refine wpIn_rangeFunc ?_
  intro fn hfn
  rw [hro]
  obtain ⟨rec, hrec⟩ : ∃ rec : LoopState → Option Code → Loop, rec = fun st pe => { state := st, pending := pe, fn, tmps := a.tmps, params := ps, assign, body, defers := w.heap.size } := ⟨_, rfl⟩
  obtain ⟨L, hL⟩ : ∃ L, L = w.heap.size + 1 := ⟨_, rfl⟩
  have hLD : L ≠ w.heap.size := by omega
  obtain ⟨W1, hW1⟩ : ∃ W1, (w.alloc (.deferred (some []))).alloc (.loop (rec .ready none)) = W1 := ⟨_, rfl⟩
  have hbk : Book W1 L w.heap.size (rec .ready none) := by
    refine ⟨?_, ?_⟩
    · have := World.alloc_heap_new (w.alloc (.deferred (some []))) (.loop (rec .ready none))
      rwa [World.size_alloc, hW1, ← hL] at this
    · rw [← hW1]; exact (Below.heap_alloc _ _ _ (by simp)).trans (World.alloc_heap_new w _)
  have hsz1 : W1.heap.size = w.heap.size + 2 := by rw [← hW1]; simp
  have hI1 : I [] W1 := by rw [← hW1]; exact hI.alloc _ (hI.alloc _ h0)
  have hb1 : Below w.heap.size w W1 := by rw [← hW1]; exact ((Below.refl _ w).alloc (Nat.le_refl _) _).alloc (by simp) _
  refine ⟨L, [{ target := .collected w.heap.size, args := #[] }], W1, { target := .fn (.func gf) lb, args := #[.func (.yield L) #[] #[]] }, W1, gf, #[.func (.yield L) #[] #[]] ++ lb, W1, ?_, ?_, ?_, ?_, fun _ => h1, ?_⟩
  · rw [← hW1, hrec, hL]; exact run_enterLoop_outer _ _ _ _ _
  · simp only [resolve, hg]
    simp [go_sem]
  · intro f' hf'; simp [Target.leads] at hf'; subst hf'; exact hFg
  · simp [invoke, go_sem, eg]
  · have far : ∀ {A : World} {row : Option Nat}, (∀ r, row = some r → W1.heap.size ≤ r ∧ ∃ o : Obj, A.heap[r]? = some o ∧ o.isWalk = true) → (∀ r, row = some r → w.heap.size ≤ r ∧ ∃ o : Obj, A.heap[r]? = some o ∧ o.isCells = false) :=
      fun hr r e => by obtain ⟨hB, o, ho, hw⟩ := hr r e; exact ⟨by omega, o, ho, Obj.not_cells_of_walk hw⟩
    refine (hseq L (fun pre W => I pre W ∧ Book W L w.heap.size (rec .ready none)) (fun pre W => ∃ c, Ix c pre W ∧ Book W L w.heap.size (rec .done (some c))) W1 hb1
      (fun s A B row hs hg' hr => ⟨hI s A B row hs.1 hg' (far hr), hs.2.walk hg' hr⟩)
      (fun s A B row ⟨c, hc, hb⟩ hg' hr => ⟨c, hIx c s A B row hc hg' (far hr), hb.walk hg' hr⟩) ?_ ⟨hI1, hbk⟩).mono ?_
    · rintro pre x W ⟨hi, hb⟩ hadm
      have hy := run_yield (P := P) (args := encs x) hb.rec_ (by rw [hrec]; exact hps x)
      rw [hrec] at hy
      refine ⟨fn, _, assign, body, hy, roundIn_of_wpIn hfn (hassign L pre x W _ hi hadm ?_)⟩
      intro a' V hkf hkp hia hax
      have hbV := hb.keep hkf (by omega) (Nat.le_refl _)
      refine ⟨_, run_beginRound hbV.rec_ (by rw [hrec]), ?_⟩
      have hbU := hbV.put hLD { rec .ready none with state := .busy }
      have hkU : Kp V (V.putObj L (.loop { rec .ready none with state := .busy })) := hKb _ _ _ _ (by omega) hbV.rec_ rfl rfl
      refine wpIn_mono (hbody L pre x a' _ (by omega) ⟨_, hbU.rec_⟩ (hI.putObj _ hia (by omega) hbV.rec_ rfl) hadm ((hAx x a').putObj (s := ()) _ hax (by omega) hbV.rec_ rfl)) ?_
      have fin : ∀ (jump : Option Code) (W3 : World), KeepsFrom w.heap.size (V.putObj L (.loop { rec .ready none with state := .busy })) W3 →
          (Instr.endRound L jump).run P W3 = .ok (.bool jump.isNone) (W3.putObj L (.loop (rec (if jump.isNone then .ready else .done) jump))) ∧ Book W3 L w.heap.size { rec .ready none with state := .busy } ∧
          Book (W3.putObj L (.loop (rec (if jump.isNone then .ready else .done) jump))) L w.heap.size (rec (if jump.isNone then .ready else .done) jump) := fun jump W3 hk3 => by
        have hb3 := hbU.keep hk3 (by omega) (Nat.le_refl _)
        have hr := run_endRound (P := P) jump hb3.rec_
        refine ⟨?_, hb3, hb3.put hLD _⟩
        rw [hrec] at hr ⊢
        exact hr
      rintro e a3 W3 hp
      have stop : ∀ c : Code, KeepsFrom w.heap.size (V.putObj L (.loop { rec .ready none with state := .busy })) W3 → Ix c (pre ++ [x]) W3 → ∃ c', Ix c' (pre ++ [x]) (W3.putObj L (.loop (rec (if (some c).isNone then .ready else .done) (some c)))) ∧ Book (W3.putObj L (.loop (rec (if (some c).isNone then .ready else .done) (some c)))) L w.heap.size (rec .done (some c')) := fun c hk3 hi3 => by
        obtain ⟨_, hb3, hb4⟩ := fin (some c) W3 hk3
        exact ⟨c, (hIx _).putObj _ hi3 (by omega) hb3.rec_ rfl, hb4⟩
      cases e with
      | normal =>
        obtain ⟨hk3, hkp3, hi3⟩ := hp
        obtain ⟨hr, hb3, hb4⟩ := fin none W3 hk3
        exact ⟨_, _, hr, .inl ⟨rfl, ⟨hI.putObj _ hi3 (by omega) hb3.rec_ rfl, hb4⟩, hKt hkp (hKt (hKt hkU hkp3) (hKb _ _ _ _ (by omega) hb3.rec_ rfl rfl))⟩⟩
      | ret => exact ⟨_, _, (fin (some .ret) W3 hp.1).1, .inr ⟨rfl, stop .ret hp.1 hp.2⟩⟩
      | exit id => exact ⟨_, _, (fin (some (.exit id)) W3 hp.1).1, .inr ⟨rfl, stop (.exit id) hp.1 hp.2⟩⟩
      | goto t => exact ⟨_, _, (fin (some (.goto t)) W3 hp.1).1, .inr ⟨rfl, stop (.goto t) hp.1 hp.2⟩⟩
      | panic ch => exact hp.elim
      | outgrown => exact hp.elim
    · rintro e W2 ⟨⟨v, rfl⟩, (⟨xs, hS, hi, hb⟩ | ⟨pre, hSp, c, hi, hb⟩)⟩
      · have hr := run_endLoop (P := P) hb.rec_ (by rw [hrec]; simp)
        refine ⟨none, _, by rw [hrec] at hr; exact hr, ?_⟩
        exact hdone _ xs _ (Nat.le_refl _) hS (hI.putObj _ hi (by omega) hb.rec_ rfl) ((World.putObj_heap_other (by omega)).trans hb.defs)
      · have hr := run_endLoop (P := P) hb.rec_ (by rw [hrec]; simp)
        refine ⟨some c, _, by rw [hrec] at hr; exact hr, ?_⟩
        exact hstop _ c pre _ (Nat.le_refl _) hSp ((hIx c).putObj _ hi (by omega) hb.rec_ rfl) ((World.putObj_heap_other (by omega)).trans hb.defs)
end
end Go.Proofs.Ytnomjjhocblkkaa
