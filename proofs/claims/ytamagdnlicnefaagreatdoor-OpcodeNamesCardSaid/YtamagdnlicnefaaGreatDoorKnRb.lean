/- A range over a function whose iterator keeps cells of its own that turn: a law of this seat's own. -/
import Derived.RangeFuncCalls
import Derived.RangeFuncLeaves
import Derived.RangeFuncNested
namespace Go.Proofs.YtamagdnlicnefaaGreatDoor
open Go.RowKit

structure Fr (S : Nat → Prop) (w W : World) : Prop where
  os : W.os = w.os
  tape : W.tape = w.tape
  output : W.output = w.output
  size : w.heap.size ≤ W.heap.size
  block : ∀ i, i < w.heap.size → ¬ S i → W.heap[i]? = w.heap[i]?
theorem Fr.refl (S : Nat → Prop) (w : World) : Fr S w w := ⟨rfl, rfl, rfl, Nat.le_refl _, fun _ _ _ => rfl⟩
theorem Fr.trans {S T : Nat → Prop} {a b c : World} (h : Fr S a b) (k : Fr T b c) (hT : ∀ i, i < a.heap.size → T i → S i) : Fr S a c :=
  ⟨k.os.trans h.os, k.tape.trans h.tape, k.output.trans h.output, Nat.le_trans h.size k.size, fun i hi hn => (k.block i (Nat.lt_of_lt_of_le hi h.size) (fun ht => hn (hT i hi ht))).trans (h.block i hi hn)⟩
theorem Fr.mono {S T : Nat → Prop} {a b : World} (h : Fr S a b) (hT : ∀ i, i < a.heap.size → S i → T i) : Fr T a b := ⟨h.os, h.tape, h.output, h.size, fun i hi hn => h.block i hi (fun hs => hn (hT i hi hs))⟩
theorem Fr.grown {S : Nat → Prop} {w W : World} {row : Option Nat} (h : w.grownBy W row) (hr : ∀ i, i < w.heap.size → row = some i → S i) : Fr S w W :=
  ⟨h.os, h.tape, h.output, h.size, fun i hi hn => h.block i hi (fun e => hn (hr i hi e.symm))⟩
theorem Fr.of_below {S : Nat → Prop} {w W : World} (h : Below w.heap.size w W) : Fr S w W := ⟨h.os, h.tape, h.output, h.size, fun i hi _ => h.block i hi⟩
theorem Fr.below {S : Nat → Prop} {w W : World} {B : Nat} (h : Fr S w W) (hB : B ≤ w.heap.size) (hS : ∀ i, i < B → ¬ S i) : Below B w W := ⟨h.os, h.tape, h.output, h.size, fun i hi => h.block i (Nat.lt_of_lt_of_le hi hB) (hS i hi)⟩
theorem Fr.alloc {S : Nat → Prop} {w W : World} (h : Fr S w W) (o : Obj) : Fr S w (W.alloc o) := h.trans (T := fun _ => False) (Fr.of_below ((Below.refl _ _).alloc (Nat.le_refl _) _)) (fun _ _ h => h.elim)
theorem Fr.drew {S : Nat → Prop} {w W : World} (h : Fr S w W) : Fr S w W.drew := ⟨h.os, h.tape, h.output, h.size, h.block⟩
theorem Fr.set {S : Nat → Prop} {w W : World} (h : Fr S w W) (p : Addr) (v : Value) (hp : p.block < w.heap.size → S p.block) : Fr S w (W.setCell p v) :=
  ⟨h.os, h.tape, h.output, by simpa using h.size, fun i hi hn => (Below.heap_setCell W p v i (fun e => hn (e ▸ hp (e ▸ hi)))).trans (h.block i hi hn)⟩
theorem Fr.putObj (W : World) (l : Nat) (o : Obj) : Fr (fun i => i = l) W (W.putObj l o) := Fr.grown (grownBy_putObj' W l o) (fun _ _ e => by cases e; rfl)
theorem Fr.at {S : Nat → Prop} {w W : World} {i : Nat} {o : Obj} (h : Fr S w W) (ho : w.heap[i]? = some o) (hi : ¬ S i) : W.heap[i]? = some o := (h.block i (Array.getElem?_eq_some_iff.1 ho).1 hi).trans ho
structure KpO (O : Nat → Prop) (X Y : World) : Prop where
  size : X.heap.size ≤ Y.heap.size
  same : ∀ i, O i → i < X.heap.size → Y.heap[i]? = X.heap[i]?
theorem KpO.trans {O : Nat → Prop} {X Y Z : World} (h : KpO O X Y) (k : KpO O Y Z) : KpO O X Z := ⟨Nat.le_trans h.size k.size, fun i hi hl => (k.same i hi (Nat.lt_of_lt_of_le hl h.size)).trans (h.same i hi hl)⟩
theorem KpO.of_fr {O S : Nat → Prop} {X Y : World} (h : Fr S X Y) (hd : ∀ i, O i → ¬ S i) : KpO O X Y := ⟨h.size, fun i hi hl => h.block i hl (hd i hi)⟩
theorem KpO.at {O : Nat → Prop} {X Y : World} {i : Nat} {o : Obj} (h : KpO O X Y) (hi : O i) (ho : X.heap[i]? = some o) : Y.heap[i]? = some o := (h.same i hi (Array.getElem?_eq_some_iff.1 ho).1).trans ho
def SeqG {α : Type} (F : Fence) (n : Nat) (P : Program) (g : Nat) (lb : Array Value) (encs : α → Array Value) (Adm : List α → α → World → Prop) (O : Nat → Prop) (S Sp : List α → Prop) (B : Nat) (w : World) : Prop :=
  ∀ (l : Nat) (J Jx : List α → World → Prop) (W : World), W.heap.size = B → Below w.heap.size w W → (∀ s X Y, J s X → Fr O X Y → J s Y) → (∀ s X Y, Jx s X → Fr O X Y → Jx s Y) →
    (∀ pre x W1, J pre W1 → Adm pre x W1 → YieldAt F (n - 1) P l (encs x) W1 fun e W' =>
      (e = .returned (.bool true) ∧ J (pre ++ [x]) W' ∧ KpO O W1 W') ∨ (e = .returned (.bool false) ∧ Jx (pre ++ [x]) W' ∧ KpO O W1 W')) →
    J [] W →
    CallsIn F n P g (#[.func (.yield l) #[] #[]] ++ lb) W fun e W' => (∃ v, e = .returned v) ∧ ((∃ xs, S xs ∧ J xs W') ∨ (∃ pre, Sp pre ∧ Jx pre W'))
structure Book (W : World) (D : Nat) (r : Loop) : Prop where
  rec_ : W.heap[D + 1]? = some (.loop r)
  defs : W.heap[D]? = some (.deferred (some []))
theorem Book.fr {S : Nat → Prop} {X Y : World} {D : Nat} {r : Loop} (h : Book X D r) (hf : Fr S X Y) (h1 : ¬ S D) (h2 : ¬ S (D + 1)) : Book Y D r := ⟨hf.at h.rec_ h2, hf.at h.defs h1⟩
theorem Book.put {W : World} {D : Nat} {r : Loop} (h : Book W D r) (r' : Loop) : Book (W.putObj (D + 1) (.loop r')) D r' :=
  ⟨World.putObj_heap_same (Array.getElem?_eq_some_iff.1 h.rec_).1, (World.putObj_heap_other (by omega)).trans h.defs⟩
structure Kept2 (D : Nat) (W W' : World) : Prop where
  d : W'.heap[D]? = W.heap[D]?
  l : W'.heap[D + 1]? = W.heap[D + 1]?
theorem Book.kept {W W' : World} {D : Nat} {r : Loop} (h : Book W D r) (k : Kept2 D W W') : Book W' D r := ⟨k.l.trans h.rec_, k.d.trans h.defs⟩
def Wd (O : Nat → Prop) (D : Nat) (i : Nat) : Prop := O i ∨ i = D ∨ i = D + 1
def postO {α : Type} (D : Nat) (O : Nat → Prop) (I : List α → World → Prop) (Ix : Code → List α → World → Prop) (xs : List α) (W : World) : Exit → Act → World → Prop
  | .normal, _, W' => Kept2 D W W' ∧ KpO O W W' ∧ I xs W'
  | .ret, _, W' => Kept2 D W W' ∧ KpO O W W' ∧ Ix .ret xs W'
  | .exit id, _, W' => Kept2 D W W' ∧ KpO O W W' ∧ Ix (.exit id) xs W'
  | .goto t, _, W' => Kept2 D W W' ∧ KpO O W W' ∧ Ix (.goto t) xs W'
  | .panic _, _, _ => False
  | .outgrown, _, _ => False
theorem roundIn_wide0 {n m : Nat} {P : Program} {l : Nat} {f : FuncId} {tmps : Array Value} {assign body : Code} {w : World} {R : Ending → World → Prop}
    (h : RoundIn Fence.wide n P l f tmps assign body w R) : RoundIn Fence.wide m P l f tmps assign body w R := ⟨h.1, fun c cs _ => h.2 c cs (fun _ hd => by cases hd)⟩
end Go.Proofs.YtamagdnlicnefaaGreatDoor
