/- What lies where there is a heap of the program: its block, its map, its rows; what leaves it as it is. -/
import Derived.Test.YtnomjjhocblkkaaHa
import Derived.Test.YtnomjjhocblkkaaPHeapSoundx3
import Derived.WalkKit
import Derived.Lib.Hide
import Derived.Laws.Cover3
import Derived.RangeFuncRecord
namespace Go.Proofs.Ytnomjjhocblkkaa
open Go.RowKit Go.Proofs.YtnomjjhocblkkaaW.PrintWords Go.Proofs.YtnomjjhocblkkaaW.PrintLast Go.Proofs.YtnomjjhocblkkaaW.PrintMore
open Go.Proofs.Ytnomjjhocblkkaa.PHeapSound

/-- W is w but for the blocks of S, and new ones. -/
structure Fr (S : Nat → Prop) (w W : World) : Prop where
  os : W.os = w.os
  tape : W.tape = w.tape
  output : W.output = w.output
  size : w.heap.size ≤ W.heap.size
  block : ∀ i, i < w.heap.size → ¬ S i → W.heap[i]? = w.heap[i]?

theorem Fr.refl (S : Nat → Prop) (w : World) : Fr S w w := ⟨rfl, rfl, rfl, Nat.le_refl _, fun _ _ _ => rfl⟩
theorem Fr.trans {S T : Nat → Prop} {a b c : World} (h : Fr S a b) (k : Fr T b c) (hT : ∀ i, i < a.heap.size → T i → S i) : Fr S a c :=
  ⟨k.os.trans h.os, k.tape.trans h.tape, k.output.trans h.output, Nat.le_trans h.size k.size, fun i hi hn => (k.block i (Nat.lt_of_lt_of_le hi h.size) (fun ht => hn (hT i hi ht))).trans (h.block i hi hn)⟩
theorem Fr.of_below {S : Nat → Prop} {w W : World} (h : Below w.heap.size w W) : Fr S w W := ⟨h.os, h.tape, h.output, h.size, fun i hi _ => h.block i hi⟩
theorem Fr.below {S : Nat → Prop} {w W : World} {B : Nat} (h : Fr S w W) (hB : B ≤ w.heap.size) (hS : ∀ i, i < B → ¬ S i) : Below B w W := ⟨h.os, h.tape, h.output, h.size, fun i hi => h.block i (Nat.lt_of_lt_of_le hi hB) (hS i hi)⟩
theorem Fr.mono {S T : Nat → Prop} {w W : World} (h : Fr S w W) (hT : ∀ i, S i → T i) : Fr T w W := ⟨h.os, h.tape, h.output, h.size, fun i hi hn => h.block i hi (fun hs => hn (hT i hs))⟩
theorem Fr.set {S : Nat → Prop} {w W : World} (h : Fr S w W) (p : Addr) (v : Value) (hp : p.block < w.heap.size → S p.block) : Fr S w (W.setCell p v) :=
  ⟨h.os, h.tape, h.output, by simpa using h.size, fun i hi hn => (Below.heap_setCell W p v i (fun e => hn (e ▸ hp (e ▸ hi)))).trans (h.block i hi hn)⟩
theorem Fr.drewN {S : Nat → Prop} {w W : World} (h : Fr S w W) (n : Nat) : Fr S w (W.drewN n) := h.trans (T := fun _ => False) (Fr.of_below (pw_below_drewN (Below.refl _ _) n)) (fun _ _ h => h.elim)

/-- A heap, as plain data: shapes, the quota, how many cells there are, each object's shape, the cells that were set. -/
structure HM where
  sh : List (List Int)
  quota : Int
  used : Int
  objs : List Int
  cs : List ((Int × Int) × (Int × Int))

/-- What the heap's block holds. -/
def hcells (S : Option Addr) (sc : Nat) (O : Option Addr) (oc : Nat) (m : Nat) (H : HM) : Array Value :=
  #[.slice S H.sh.length sc, .int .i64 H.quota, .int .i64 H.used, .slice O H.objs.length oc, .map (some m)]

/-- There is a heap at block g, its map at block m; its rows lie in blocks of R. -/
structure HOwn (base : Nat) (W : World) (g m : Nat) (H : HM) (R : Nat → Prop) : Prop where
  ex : ∃ S sc O oc es clock, W.heap[g]? = some (.cells (hcells S sc O oc m H) 69 (0, 0)) ∧ H.sh.length ≤ sc ∧ H.objs.length ≤ oc ∧
    Kd.F (Kd.slice 3 (Kd.int .i64)) W R S H.sh.length H.sh ∧ Kd.F (Kd.int .i64) W R O H.objs.length H.objs ∧ W.heap[m]? = some (.map es clock) ∧ Ents es H.cs
  ng : ¬ R g
  nm : ¬ R m
  lt : ∀ i, R i → i < W.heap.size
  lo : base ≤ g ∧ base ≤ m

theorem hb_lt {W : World} {g : Nat} {o : Obj} (h : W.heap[g]? = some o) : g < W.heap.size := (Array.getElem?_eq_some_iff.1 h).1

theorem HOwn.gm {base : Nat} {W : World} {g m : Nat} {H : HM} {R : Nat → Prop} (h : HOwn base W g m H R) : g ≠ m := by
  rintro rfl
  obtain ⟨S, sc, O, oc, es, clock, h1, _, _, _, _, h2, _⟩ := h.ex
  rw [h1] at h2; cases h2
theorem HOwn.glt {base : Nat} {W : World} {g m : Nat} {H : HM} {R : Nat → Prop} (h : HOwn base W g m H R) : g < W.heap.size ∧ m < W.heap.size := by
  obtain ⟨S, sc, O, oc, es, clock, h1, _, _, _, _, h2, _⟩ := h.ex
  exact ⟨hb_lt h1, hb_lt h2⟩

theorem F_fr {α : Type} {d : Kd α} {W W' : World} {R S : Nat → Prop} {A : Option Addr} {n : Nat} {xs : List α} (h : Kd.F d W R A n xs) (hF : Fr S W W') (hR : ∀ i, R i → ¬ S i) (hl : ∀ i, R i → i < W.heap.size) : Kd.F d W' R A n xs :=
  fun W'' hW => h W'' (fun k hk _ => (hW k hk (Nat.lt_of_lt_of_le (hl k hk) hF.size)).trans (hF.block k (hl k hk) (hR k hk)))

theorem HOwn.fr {base : Nat} {W W' : World} {g m : Nat} {H : HM} {R S : Nat → Prop} (h : HOwn base W g m H R) (hF : Fr S W W') (hg : ¬ S g) (hm : ¬ S m) (hR : ∀ i, R i → ¬ S i) : HOwn base W' g m H R := by
  obtain ⟨hgl, hml⟩ := h.glt
  obtain ⟨S', sc, O, oc, es, clock, h1, h2, h3, h4, h5, h6, h7⟩ := h.ex
  exact ⟨⟨S', sc, O, oc, es, clock, (hF.block g hgl hg).trans h1, h2, h3, F_fr h4 hF hR h.lt, F_fr h5 hF hR h.lt, (hF.block m hml hm).trans h6, h7⟩, h.ng, h.nm, fun i hi => Nat.lt_of_lt_of_le (h.lt i hi) hF.size, h.lo⟩

theorem HOwn.below {base : Nat} {W W' : World} {g m : Nat} {H : HM} {R : Nat → Prop} (h : HOwn base W g m H R) (hB : Below W.heap.size W W') : HOwn base W' g m H R :=
  h.fr (S := fun _ => False) (Fr.of_below hB) (fun e => e) (fun e => e) (fun _ _ e => e)

/-- What a walk is told of it. -/
theorem HOwn.now {base : Nat} {W : World} {g m : Nat} {H : HM} {R : Nat → Prop} (h : HOwn base W g m H R) :
    ∃ S sc O oc es clock, H.sh.length ≤ sc ∧ H.objs.length ≤ oc ∧ Kd.C (Kd.slice 3 (Kd.int .i64)) W S H.sh.length H.sh ∧ Kd.C (Kd.int .i64) W O H.objs.length H.objs ∧ W.heap[g]? = some (.cells (hcells S sc O oc m H) 69 (0, 0)) ∧ W.heap[m]? = some (.map es clock) ∧ Ents es H.cs ∧
      W.cell? ⟨g, 0, none⟩ = some (.slice S H.sh.length sc) ∧ W.cell? ⟨g, 1, none⟩ = some (.int .i64 H.quota) ∧ W.cell? ⟨g, 2, none⟩ = some (.int .i64 H.used) ∧ W.cell? ⟨g, 3, none⟩ = some (.slice O H.objs.length oc) ∧ W.cell? ⟨g, 4, none⟩ = some (.map (some m)) := by
  obtain ⟨S, sc, O, oc, es, clock, h1, h2, h3, h4, h5, h6, h7⟩ := h.ex
  refine ⟨S, sc, O, oc, es, clock, h2, h3, h4 W (fun _ _ _ => rfl), h5 W (fun _ _ _ => rfl), h1, h6, h7, ?_, ?_, ?_, ?_, ?_⟩ <;> (unfold World.cell?; rw [h1]; rfl)

theorem eqMap67 (m : Option Nat) (w : World) : (binOp .eql 67 (.map m) (.map none)).run Try.prog w = .ok (.bool m.isNone) w := by
  simp only [binOp]
  simp [run_equal_map_nil w 67 78 32 m Try.underlying67]
attribute [local go_sem] eqMap67

/-- none: of a heap, of nil, of an empty one. -/
theorem none_any {base : Nat} {w : World} {g m : Nat} {H : HM} {R : Nat → Prop} (h : HOwn base w g m H R) : Calls Try.prog 35 #[.pointer (some ⟨g, 0, none⟩)] w fun e w' => e = .returned (.bool false) ∧ w = w' := by
  obtain ⟨S, sc, O, oc, es, clock, _, _, _, _, _, _, _, _, _, _, _, h4⟩ := h.now
  go_enter Try.func35, Try.ntmps35
  go_wp2
  go_ret
  exact ⟨rfl, rfl⟩
theorem none_nil (w : World) : Calls Try.prog 35 #[.pointer none] w fun e w' => e = .returned (.bool true) ∧ w = w' := by
  go_enter Try.func35, Try.ntmps35
  go_wp2
  go_ret
  exact ⟨rfl, rfl⟩
theorem none_zero (w : World) (g : Nat) (h4 : w.cell? ⟨g, 4, none⟩ = some (.map none)) : Calls Try.prog 35 #[.pointer (some ⟨g, 0, none⟩)] w fun e w' => e = .returned (.bool true) ∧ w = w' := by
  go_enter Try.func35, Try.ntmps35
  go_wp2
  go_ret
  exact ⟨rfl, rfl⟩
end Go.Proofs.Ytnomjjhocblkkaa
