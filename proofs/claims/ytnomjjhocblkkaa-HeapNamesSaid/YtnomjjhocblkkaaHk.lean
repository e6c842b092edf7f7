/- Make: what it leaves of the heap. -/
import Derived.Test.YtnomjjhocblkkaaHj
import Derived.ArgAppend
namespace Go.Proofs.Ytnomjjhocblkkaa
open Go.RowKit Go.Shelf Go.Proofs.YtnomjjhocblkkaaW.PrintWords Go.Proofs.YtnomjjhocblkkaaW.PrintLast Go.Proofs.YtnomjjhocblkkaaW.PrintMore
open Go.Proofs.Ytnomjjhocblkkaa.PHeapSound

theorem HOwn.setUsed {base : Nat} {W : World} {g m : Nat} {H : HM} {R : Nat → Prop} (h : HOwn base W g m H R) (u : Int) :
    HOwn base (W.setCell ⟨g, 2, none⟩ (.int .i64 u)) g m { H with used := u } R := by
  obtain ⟨hgl, hml⟩ := h.glt
  have hgm := h.gm
  have hF : Fr (fun k => k = g) W (W.setCell ⟨g, 2, none⟩ (.int .i64 u)) := (Fr.refl _ _).set _ _ (fun _ => rfl)
  obtain ⟨S', sc, O, oc, es, clock, h1, h2, h3, h4, h5, h6, h7⟩ := h.ex
  exact ⟨⟨S', sc, O, oc, es, clock, by simpa [hcells] using blk_set h1 2 (.int .i64 u), h2, h3, F_fr h4 hF (fun i hi e => h.ng (e ▸ hi)) h.lt, F_fr h5 hF (fun i hi e => h.ng (e ▸ hi)) h.lt, (hF.block m hml (Ne.symm hgm)).trans h6, h7⟩,
    h.ng, h.nm, fun i hi => Nat.lt_of_lt_of_le (h.lt i hi) hF.size, h.lo⟩

theorem own_F {W : World} {lo : Nat} {A : Option Addr} {n c : Nat} {ys : List Int} (h : W.ownsRow lo 3 1 (.slice A n c) ys.length (nums .i64 ys)) :
    n = ys.length ∧ ys.length ≤ c ∧ Kd.F (Kd.int .i64) W (fun i => lo ≤ i ∧ i < W.heap.size) A ys.length ys := by
  have hR := Kd.R_of_own (h1 := fun _ => rfl) (ok := fun i => lo ≤ i ∧ i < W.heap.size) h (fun k hk => World.ownsRow.lt h k hk)
  obtain ⟨rfl, h2, _⟩ := Kd.R_reads' hR
  exact ⟨rfl, h2, Kd.R_F hR⟩

theorem HOwn.setObjs {base : Nat} {W : World} {g m lo : Nat} {H : HM} {R : Nat → Prop} (h : HOwn base W g m H R) {A : Option Addr} {n c : Nat} {ys : List Int} (hr : W.ownsRow lo 3 1 (.slice A n c) ys.length (nums .i64 ys)) (hg : g < lo) (hm : m < lo) :
    HOwn base (W.setCell ⟨g, 3, none⟩ (.slice A n c)) g m { H with objs := ys } (fun i => R i ∨ (lo ≤ i ∧ i < W.heap.size)) := by
  obtain ⟨hgl, hml⟩ := h.glt
  have hgm := h.gm
  obtain ⟨rfl, hc, hf⟩ := own_F hr
  have hF : Fr (fun k => k = g) W (W.setCell ⟨g, 3, none⟩ (.slice A ys.length c)) := (Fr.refl _ _).set _ _ (fun _ => rfl)
  obtain ⟨S', sc, O, oc, es, clock, h1, h2, h3, h4, h5, h6, h7⟩ := h.ex
  refine ⟨⟨S', sc, A, c, es, clock, by simpa [hcells] using blk_set h1 3 (.slice A ys.length c), h2, hc, Kd.F_mono (F_fr h4 hF (fun i hi e => h.ng (e ▸ hi)) h.lt) (fun _ hi => .inl hi), Kd.F_mono (F_fr hf hF (fun i hi e => ?_) (fun i hi => hi.2)) (fun _ hi => .inr hi), (hF.block m hml (Ne.symm hgm)).trans h6, h7⟩,
    fun e => e.elim h.ng (fun e => ?_), fun e => e.elim h.nm (fun e => ?_), fun i hi => Nat.lt_of_lt_of_le (hi.elim (h.lt i) (fun e => e.2)) hF.size, h.lo⟩ <;> omega

theorem Clip_any (A : Option Addr) (n c : Nat) (hn : n ≤ c) (w : World) : Calls Try.prog 36 #[.slice A n c] w fun e w' => e = .returned (.slice A n n) ∧ w = w' := by
  go_enter Try.func36, Try.ntmps36
  go_wp2
  go_ret
  exact ⟨rfl, rfl⟩

theorem one_set (W : World) (p : Addr) (v x : Value) (t : Nat) : ∀ j u, [x][j]? = some u → ((W.setCell p v).alloc (.cells #[x] t)).cell? ((⟨W.heap.size, 0, none⟩ : Addr).add j) = some u := by
  have h := cell_one_new (W.setCell p v) x t
  have e : (W.setCell p v).heap.size = W.heap.size := by simp
  rw [e] at h
  exact h

/-- A goal that the walk leaves alone. -/
structure Wrapped (p : Prop) : Prop where
  h : p

theorem hinfo3 : (Try.prog.info? 3).map (fun i => (i.zero, i.size, i.bytes)) = some (some (.int .i64 0), 1, 8) := by kernel_rfl

/-- What Make answers, and the heap behind it. -/
def makeC (H : HM) (n : Int) : Int := if n < 0 ∨ (H.sh.length : Int) ≤ n then 150 else if H.quota - H.used < (rd_L1 H.sh n).length then 151 else 0
def makeV (H : HM) (n : Int) : Int × Int := if makeC H n = 0 then (2, H.objs.length + 1) else (0, 0)
def makeH (H : HM) (n : Int) : HM := if makeC H n = 0 then { H with used := H.used + (rd_L1 H.sh n).length, objs := H.objs ++ [n] } else H

theorem olds_at {W : World} {O : Option Addr} {n : Nat} {xs : List Int} (h : (Kd.int .i64).C W O n xs) : (O = none → n = 0) ∧ ∀ b, O = some b → ∀ j u, (nums .i64 xs)[j]? = some u → W.cell? (b.add j) = some u := by
  have hr := Kd.reads_of_C (d := (0 : Int)) h
  refine ⟨fun e => ?_, ?_⟩
  · by_cases hn : 0 < n
    · obtain ⟨ad, e2, _⟩ := hr.2.2 hn
      rw [e] at e2; cases e2
    · omega
  · rintro b rfl j u hj
    obtain ⟨x, hx, rfl⟩ : ∃ x, xs[j]? = some x ∧ Value.int .i64 x = u := by simpa [nums] using hj
    obtain ⟨hl, hp⟩ := List.getElem?_eq_some_iff.1 hx
    have hlen := hr.1
    obtain ⟨ad, e2, hc⟩ := hr.2.2 (by omega)
    cases e2
    rw [hc j (by omega), List.getD_eq_getElem?_getD, hx]; rfl

theorem HOwn.forMake {base : Nat} {W : World} {g m : Nat} {H : HM} {R : Nat → Prop} (h : HOwn base W g m H R) :
    ∃ S sc O oc, H.sh.length ≤ sc ∧ H.objs.length ≤ oc ∧ Kd.C (Kd.slice 3 (Kd.int .i64)) W S H.sh.length H.sh ∧
      W.cell? ⟨g, 0, none⟩ = some (.slice S H.sh.length sc) ∧ W.cell? ⟨g, 1, none⟩ = some (.int .i64 H.quota) ∧ W.cell? ⟨g, 2, none⟩ = some (.int .i64 H.used) ∧ W.cell? ⟨g, 3, none⟩ = some (.slice O H.objs.length oc) ∧
      (O = none → H.objs.length = 0) ∧ ∀ W', Below W.heap.size W W' → ∀ u o b, O = some b → ∀ j u', (nums .i64 H.objs)[j]? = some u' → ((W'.setCell ⟨g, 2, none⟩ u).alloc o).cell? (b.add j) = some u' := by
  obtain ⟨S, sc, O, oc, es, clock, h1, h2, h3, h4, h5, h6, h7⟩ := h.ex
  refine ⟨S, sc, O, oc, h2, h3, Kd.F_now h4, ?_, ?_, ?_, ?_, (olds_at (Kd.F_now h5)).1, fun W' hB u o b hb j u' hj => ?_⟩
  · simpa [hcells] using blk_cell h1 0
  · simpa [hcells] using blk_cell h1 1
  · simpa [hcells] using blk_cell h1 2
  · simpa [hcells] using blk_cell h1 3
  · have hF : Fr (fun k => k = g) W (W'.setCell ⟨g, 2, none⟩ u) := (Fr.of_below hB).set _ _ (fun _ => rfl)
    exact (olds_at (Kd.C_alloc (Kd.F_now (F_fr h5 hF (fun i hi e => h.ng (e ▸ hi)) h.lt)) o)).2 b hb j u' hj

theorem HOwn.frozen {base : Nat} {W : World} {g m : Nat} {H : HM} {R : Nat → Prop} (h : HOwn base W g m H R) (j : Nat) : W.frozen? ⟨g, j, none⟩ = false := by
  obtain ⟨S, sc, O, oc, es, clock, h1, _⟩ := h.ex
  exact blk_frozen h1 j
end Go.Proofs.Ytnomjjhocblkkaa
