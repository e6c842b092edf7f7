/- A range over a function whose iterator keeps cells of its own that turn: a law of this seat's own. -/
import Derived.RangeFuncNested
import Derived.RangeFuncCalls
import Derived.RangeFuncLeaves
namespace Go.Proofs.YtamagdnlicnefaaGreatDoor
open Go.RowKit

/-- W is w but for the blocks of S, and new ones. -/
structure Fr (S : Nat → Prop) (w W : World) : Prop where
  os : W.os = w.os
  tape : W.tape = w.tape
  output : W.output = w.output
  size : w.heap.size ≤ W.heap.size
  block : ∀ i, i < w.heap.size → ¬ S i → W.heap[i]? = w.heap[i]?

theorem Fr.refl (S : Nat → Prop) (w : World) : Fr S w w := ⟨rfl, rfl, rfl, Nat.le_refl _, fun _ _ _ => rfl⟩
theorem Fr.trans {S T : Nat → Prop} {a b c : World} (h : Fr S a b) (k : Fr T b c) (hT : ∀ i, i < a.heap.size → T i → S i) : Fr S a c :=
  ⟨k.os.trans h.os, k.tape.trans h.tape, k.output.trans h.output, Nat.le_trans h.size k.size, fun i hi hn => (k.block i (Nat.lt_of_lt_of_le hi h.size) (fun ht => hn (hT i hi ht))).trans (h.block i hi hn)⟩
theorem Fr.mono {S T : Nat → Prop} {a b : World} (h : Fr S a b) (hT : ∀ i, i < a.heap.size → S i → T i) : Fr T a b := ⟨h.os, h.tape, h.output, h.size, fun i hi hn => h.block i hi (fun hs => hn (hT i hi hs))⟩
theorem Fr.grown {S : Nat → Prop} {w W : World} {row : Option Nat} (h : w.grownBy W row) (hr : ∀ i, i < w.heap.size → row = some i → S i) : Fr S w W :=
  ⟨h.os, h.tape, h.output, h.size, fun i hi hn => h.block i hi (fun e => hn (hr i hi e.symm))⟩
theorem Fr.of_below {S : Nat → Prop} {w W : World} (h : Below w.heap.size w W) : Fr S w W := ⟨h.os, h.tape, h.output, h.size, fun i hi _ => h.block i hi⟩
theorem Fr.below {S : Nat → Prop} {w W : World} {B : Nat} (h : Fr S w W) (hB : B ≤ w.heap.size) (hS : ∀ i, i < B → ¬ S i) : Below B w W := ⟨h.os, h.tape, h.output, h.size, fun i hi => h.block i (Nat.lt_of_lt_of_le hi hB) (hS i hi)⟩
theorem Fr.alloc {S : Nat → Prop} {w W : World} (h : Fr S w W) (o : Obj) : Fr S w (W.alloc o) := h.trans (T := fun _ => False) (Fr.of_below ((Below.refl _ _).alloc (Nat.le_refl _) _)) (fun _ _ h => h.elim)
theorem Fr.drew {S : Nat → Prop} {w W : World} (h : Fr S w W) : Fr S w W.drew := ⟨h.os, h.tape, h.output, h.size, h.block⟩
theorem Fr.set {S : Nat → Prop} {w W : World} (h : Fr S w W) (p : Addr) (v : Value) (hp : p.block < w.heap.size → S p.block) : Fr S w (W.setCell p v) :=
  ⟨h.os, h.tape, h.output, by simpa using h.size, fun i hi hn => (Below.heap_setCell W p v i (fun e => hn (e ▸ hp (e ▸ hi)))).trans (h.block i hi hn)⟩
theorem Fr.putObj (W : World) (l : Nat) (o : Obj) : Fr (fun i => i = l) W (W.putObj l o) := Fr.grown (grownBy_putObj' W l o) (fun _ _ e => by cases e; rfl)
theorem Fr.at {S : Nat → Prop} {w W : World} {i : Nat} {o : Obj} (h : Fr S w W) (ho : w.heap[i]? = some o) (hi : ¬ S i) : W.heap[i]? = some o := (h.block i (Array.getElem?_eq_some_iff.1 ho).1 hi).trans ho

/-- The blocks of O lie as they lay. -/
structure KpO (O : Nat → Prop) (X Y : World) : Prop where
  size : X.heap.size ≤ Y.heap.size
  same : ∀ i, O i → i < X.heap.size → Y.heap[i]? = X.heap[i]?
theorem KpO.trans {O : Nat → Prop} {X Y Z : World} (h : KpO O X Y) (k : KpO O Y Z) : KpO O X Z := ⟨Nat.le_trans h.size k.size, fun i hi hl => (k.same i hi (Nat.lt_of_lt_of_le hl h.size)).trans (h.same i hi hl)⟩
theorem KpO.of_fr {O S : Nat → Prop} {X Y : World} (h : Fr S X Y) (hd : ∀ i, O i → ¬ S i) : KpO O X Y := ⟨h.size, fun i hi hl => h.block i hl (hd i hi)⟩
theorem KpO.at {O : Nat → Prop} {X Y : World} {i : Nat} {o : Obj} (h : KpO O X Y) (hi : O i) (ho : X.heap[i]? = some o) : Y.heap[i]? = some o := (h.same i hi (Array.getElem?_eq_some_iff.1 ho).1).trans ho

/-- An iterator's contract: its own blocks are O's; Adm pre x W: x may come behind pre, in W. -/
def SeqG {α : Type} (F : Fence) (n : Nat) (P : Program) (g : Nat) (lb : Array Value) (encs : α → Array Value) (Adm : List α → α → World → Prop) (O : Nat → Prop) (S Sp : List α → Prop) (B : Nat) (w : World) : Prop :=
  ∀ (l : Nat) (J Jx : List α → World → Prop) (W : World), W.heap.size = B → Below w.heap.size w W → (∀ s X Y, J s X → Fr O X Y → J s Y) → (∀ s X Y, Jx s X → Fr O X Y → Jx s Y) →
    (∀ pre x W1, J pre W1 → Adm pre x W1 → YieldAt F (n - 1) P l (encs x) W1 fun e W' =>
      (e = .returned (.bool true) ∧ J (pre ++ [x]) W' ∧ KpO O W1 W') ∨ (e = .returned (.bool false) ∧ Jx (pre ++ [x]) W' ∧ KpO O W1 W')) →
    J [] W →
    CallsIn F n P g (#[.func (.yield l) #[] #[]] ++ lb) W fun e W' => (∃ v, e = .returned v) ∧ ((∃ xs, S xs ∧ J xs W') ∨ (∃ pre, Sp pre ∧ Jx pre W'))

/-- The book-keeping of a loop: its record at D + 1, the deferred calls of its rounds at D. -/
structure Book (W : World) (D : Nat) (r : Loop) : Prop where
  rec_ : W.heap[D + 1]? = some (.loop r)
  defs : W.heap[D]? = some (.deferred (some []))
theorem Book.fr {S : Nat → Prop} {X Y : World} {D : Nat} {r : Loop} (h : Book X D r) (hf : Fr S X Y) (h1 : ¬ S D) (h2 : ¬ S (D + 1)) : Book Y D r := ⟨hf.at h.rec_ h2, hf.at h.defs h1⟩
theorem Book.put {W : World} {D : Nat} {r : Loop} (h : Book W D r) (r' : Loop) : Book (W.putObj (D + 1) (.loop r')) D r' :=
  ⟨World.putObj_heap_same (Array.getElem?_eq_some_iff.1 h.rec_).1, (World.putObj_heap_other (by omega)).trans h.defs⟩

/-- The two blocks of the book-keeping lie as they lay. -/
structure Kept2 (D : Nat) (W W' : World) : Prop where
  d : W'.heap[D]? = W.heap[D]?
  l : W'.heap[D + 1]? = W.heap[D + 1]?
theorem Book.kept {W W' : World} {D : Nat} {r : Loop} (h : Book W D r) (k : Kept2 D W W') : Book W' D r := ⟨k.l.trans h.rec_, k.d.trans h.defs⟩

def Wd (O : Nat → Prop) (D : Nat) (i : Nat) : Prop := O i ∨ i = D ∨ i = D + 1

/-- How the body of a round may be left. -/
def postO {α : Type} (D : Nat) (O : Nat → Prop) (I : List α → World → Prop) (Ix : Code → List α → World → Prop) (xs : List α) (W : World) : Exit → Act → World → Prop
  | .normal, _, W' => Kept2 D W W' ∧ KpO O W W' ∧ I xs W'
  | .ret, _, W' => Kept2 D W W' ∧ KpO O W W' ∧ Ix .ret xs W'
  | .exit id, _, W' => Kept2 D W W' ∧ KpO O W W' ∧ Ix (.exit id) xs W'
  | .goto t, _, W' => Kept2 D W W' ∧ KpO O W W' ∧ Ix (.goto t) xs W'
  | .panic _, _, _ => False
  | .outgrown, _, _ => False

section
variable {F : Fence} {n : Nat} {P : Program}
theorem range_g {α : Type} {g : Operand} {ps : Array Tmp} {assign body : Code} {Q : Exit → Act → World → Prop} {a : Act} {w : World}
    (hro : F.round = none) (h1 : 1 ≤ n) {gf : Nat} {lb : Array Value} (hg : a.eval g = .func (.func gf) #[] lb) (hFg : F.fn gf) (eg : ∀ args w, (callFunc gf args).run P w = .ok (.enter gf args) w)
    {encs : α → Array Value} {Adm : List α → α → World → Prop} {O : Nat → Prop} {S Sp : List α → Prop} (hseq : SeqG F (n - 1) P gf lb encs Adm O S Sp (w.heap.size + 2) w)
    (hOD : ¬ O w.heap.size) (hOL : ¬ O (w.heap.size + 1)) (hps : ∀ x, (encs x).size = ps.size)
    (I : List α → World → Prop) (Ix : Code → List α → World → Prop) (hI : ∀ s X Y, I s X → Fr (Wd O w.heap.size) X Y → I s Y) (hIx : ∀ c s X Y, Ix c s X → Fr (Wd O w.heap.size) X Y → Ix c s Y) (h0 : I [] w)
    (hAdm : ∀ pre x X Y, Adm pre x X → Fr (fun i => i = w.heap.size + 1) X Y → Adm pre x Y) (a₁ : α → Act)
    (hassign : ∀ (l : Nat) (x : α) (W : World) (K : Act → World → Prop), K (a₁ x) W →
      assign.wpIn (F.inRound l) (n - 1 - 1) P (Exit.then K (fun _ _ _ => False)) { tmps := (ps.zip (encs x)).foldl (fun t (p, v) => t.setIfInBounds p v) a.tmps, defers := [] } W)
    (hbody : ∀ (l : Nat) (pre : List α) (x : α) (W : World), w.heap.size + 2 ≤ W.heap.size → I pre W → Adm pre x W → body.wpIn (F.inRound l) (n - 1 - 1) P (postO w.heap.size O I Ix (pre ++ [x]) W) (a₁ x) W)
    (hdone : ∀ (xs : List α) (W : World), S xs → I xs W → W.heap[w.heap.size]? = some (.deferred (some [])) → Q .normal { a with defers := { target := .collected w.heap.size, args := #[] } :: a.defers } W)
    (hstop : ∀ (c : Code) (pre : List α) (W : World), Sp pre → Ix c pre W → W.heap[w.heap.size]? = some (.deferred (some [])) → c.wpIn F n P Q { a with defers := { target := .collected w.heap.size, args := #[] } :: a.defers } W) :
    (Code.rangeFunc g ps assign body).wpIn F n P Q a w := by
  refine wpIn_rangeFunc ?_
  intro fn hfn
  rw [hro]
  obtain ⟨rec, hrec⟩ : ∃ rec : LoopState → Option Code → Loop, rec = fun st pe => { state := st, pending := pe, fn, tmps := a.tmps, params := ps, assign, body, defers := w.heap.size } := ⟨_, rfl⟩
  obtain ⟨W1, hW1⟩ : ∃ W1, (w.alloc (.deferred (some []))).alloc (.loop (rec .ready none)) = W1 := ⟨_, rfl⟩
  have hbk : Book W1 w.heap.size (rec .ready none) := by
    refine ⟨?_, ?_⟩
    · have := World.alloc_heap_new (w.alloc (.deferred (some []))) (.loop (rec .ready none))
      rwa [World.size_alloc, hW1] at this
    · rw [← hW1]; exact (Below.heap_alloc _ _ _ (by simp)).trans (World.alloc_heap_new w _)
  have hsz1 : W1.heap.size = w.heap.size + 2 := by rw [← hW1]; simp
  have hb1 : Below w.heap.size w W1 := by rw [← hW1]; exact ((Below.refl _ w).alloc (Nat.le_refl _) _).alloc (by simp) _
  have hI1 : I [] W1 := hI _ _ _ h0 (Fr.of_below hb1)
  have hput : ∀ (W : World) (r : Loop), Fr (Wd O w.heap.size) W (W.putObj (w.heap.size + 1) (.loop r)) := fun W r => (Fr.putObj W _ _).mono (fun i _ e => .inr (.inr e))
  have hputk : ∀ (W : World) (r : Loop), KpO O W (W.putObj (w.heap.size + 1) (.loop r)) := fun W r => KpO.of_fr (Fr.putObj W _ _) (fun i hi e => hOL (e ▸ hi))
  refine ⟨w.heap.size + 1, [{ target := .collected w.heap.size, args := #[] }], W1, { target := .fn (.func gf) lb, args := #[.func (.yield (w.heap.size + 1)) #[] #[]] }, W1, gf, #[.func (.yield (w.heap.size + 1)) #[] #[]] ++ lb, W1, ?_, ?_, ?_, ?_, fun _ => h1, ?_⟩
  · rw [← hW1, hrec]; exact run_enterLoop_outer _ _ _ _ _
  · simp only [resolve, hg]
    simp [go_sem]
  · intro f' hf'; simp [Target.leads] at hf'; subst hf'; exact hFg
  · simp [invoke, go_sem, eg]
  · refine (hseq (w.heap.size + 1) (fun pre W => I pre W ∧ Book W w.heap.size (rec .ready none)) (fun pre W => ∃ c, Ix c pre W ∧ Book W w.heap.size (rec .done (some c))) W1 hsz1 hb1
      (fun s A B hs hg' => ⟨hI s A B hs.1 (hg'.mono (fun i _ h => .inl h)), hs.2.fr hg' hOD hOL⟩)
      (fun s A B ⟨c, hc, hb⟩ hg' => ⟨c, hIx c s A B hc (hg'.mono (fun i _ h => .inl h)), hb.fr hg' hOD hOL⟩) ?_ ⟨hI1, hbk⟩).mono ?_
    · rintro pre x V ⟨hi, hb⟩ hadm
      have hy := run_yield (P := P) (args := encs x) hb.rec_ (by rw [hrec]; exact hps x)
      rw [hrec] at hy
      refine ⟨fn, _, assign, body, hy, roundIn_of_wpIn hfn (hassign (w.heap.size + 1) x V _ ?_)⟩
      refine ⟨_, run_beginRound hb.rec_ (by rw [hrec]), ?_⟩
      have hbU := hb.put { rec .ready none with state := .busy }
      have hszU := (Array.getElem?_eq_some_iff.1 hbU.rec_).1
      refine wpIn_mono (hbody (w.heap.size + 1) pre x _ hszU (hI _ _ _ hi (hput _ _)) (hAdm _ _ _ _ hadm (Fr.putObj V _ _))) ?_
      have fin : ∀ (jump : Option Code) (W3 : World), Kept2 w.heap.size (V.putObj (w.heap.size + 1) (.loop { rec .ready none with state := .busy })) W3 →
          (Instr.endRound (w.heap.size + 1) jump).run P W3 = .ok (.bool jump.isNone) (W3.putObj (w.heap.size + 1) (.loop (rec (if jump.isNone then .ready else .done) jump))) ∧
          Book (W3.putObj (w.heap.size + 1) (.loop (rec (if jump.isNone then .ready else .done) jump))) w.heap.size (rec (if jump.isNone then .ready else .done) jump) := fun jump W3 hk3 => by
        have hb3 := hbU.kept hk3
        have hr := run_endRound (P := P) jump hb3.rec_
        refine ⟨?_, hb3.put _⟩
        rw [hrec] at hr ⊢
        exact hr
      rintro e a3 W3 hp
      have stop : ∀ c : Code, Kept2 w.heap.size (V.putObj (w.heap.size + 1) (.loop { rec .ready none with state := .busy })) W3 → Ix c (pre ++ [x]) W3 → ∃ c', Ix c' (pre ++ [x]) (W3.putObj (w.heap.size + 1) (.loop (rec (if (some c).isNone then .ready else .done) (some c)))) ∧ Book (W3.putObj (w.heap.size + 1) (.loop (rec (if (some c).isNone then .ready else .done) (some c)))) w.heap.size (rec .done (some c')) := fun c hk3 hi3 =>
        ⟨c, hIx _ _ _ _ hi3 (hput _ _), (fin (some c) W3 hk3).2⟩
      cases e with
      | normal =>
        obtain ⟨hk3, hkp3, hi3⟩ := hp
        obtain ⟨hr, hb4⟩ := fin none W3 hk3
        exact ⟨_, _, hr, .inl ⟨rfl, ⟨hI _ _ _ hi3 (hput _ _), hb4⟩, ((hputk _ _).trans hkp3).trans (hputk _ _)⟩⟩
      | ret => exact ⟨_, _, (fin (some .ret) W3 hp.1).1, .inr ⟨rfl, stop .ret hp.1 hp.2.2, ((hputk _ _).trans hp.2.1).trans (hputk _ _)⟩⟩
      | exit id => exact ⟨_, _, (fin (some (.exit id)) W3 hp.1).1, .inr ⟨rfl, stop (.exit id) hp.1 hp.2.2, ((hputk _ _).trans hp.2.1).trans (hputk _ _)⟩⟩
      | goto t => exact ⟨_, _, (fin (some (.goto t)) W3 hp.1).1, .inr ⟨rfl, stop (.goto t) hp.1 hp.2.2, ((hputk _ _).trans hp.2.1).trans (hputk _ _)⟩⟩
      | panic ch => exact hp.elim
      | outgrown => exact hp.elim
    · rintro e W2 ⟨⟨v, rfl⟩, (⟨xs, hS, hi, hb⟩ | ⟨pre, hSp, c, hi, hb⟩)⟩
      · have hr := run_endLoop (P := P) hb.rec_ (by rw [hrec]; simp)
        refine ⟨none, _, by rw [hrec] at hr; exact hr, ?_⟩
        exact hdone xs _ hS (hI _ _ _ hi (hput _ _)) ((World.putObj_heap_other (by omega)).trans hb.defs)
      · have hr := run_endLoop (P := P) hb.rec_ (by rw [hrec]; simp)
        refine ⟨some c, _, by rw [hrec] at hr; exact hr, ?_⟩
        exact hstop c pre _ hSp (hIx _ _ _ _ hi (hput _ _)) ((World.putObj_heap_other (by omega)).trans hb.defs)
end

/-- Under the wide fence a yield fits everywhere, in a round too. -/
theorem roundIn_wide {n m : Nat} {P : Program} {l : Nat} {f : FuncId} {tmps : Array Value} {assign body : Code} {w : World} {R : Ending → World → Prop} (k : Nat)
    (h : RoundIn Fence.wide n P l f tmps assign body w R) : RoundIn (Fence.wide.inRound k) m P l f tmps assign body w R := ⟨h.1, fun c cs _ => h.2 c cs (fun _ hd => by cases hd)⟩
theorem roundIn_wide0 {n m : Nat} {P : Program} {l : Nat} {f : FuncId} {tmps : Array Value} {assign body : Code} {w : World} {R : Ending → World → Prop}
    (h : RoundIn Fence.wide n P l f tmps assign body w R) : RoundIn Fence.wide m P l f tmps assign body w R := ⟨h.1, fun c cs _ => h.2 c cs (fun _ hd => by cases hd)⟩
end Go.Proofs.YtamagdnlicnefaaGreatDoor
