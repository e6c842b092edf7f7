/- OpcodeEffects' walk. -/
import Derived.Test.YtamagdnlicnefaaGreatDoorT1
import Derived.Test.YtamagdnlicnefaaGreatDoorSd
namespace Go.Proofs.YtamagdnlicnefaaGreatDoor
open Go.RowKit Go.Shelf Go.Proofs.YtamagdnlicnefaaGreatDoorW.PrintWords Go.Proofs.YtamagdnlicnefaaGreatDoorW.PrintLast Go.Proofs.YtamagdnlicnefaaGreatDoorW.PrintMore
open Go.Proofs.YtamagdnlicnefaaGreatDoor.PRef

/-- A row of numbers that reads as xs. -/
def IRow (W : World) (A : Option Addr) (c : Nat) (xs : List Int) : Prop := xs.length ≤ c ∧ (Kd.int .i64).C W A xs.length xs
theorem IRow.of {W : World} {base : Nat} {A : Option Addr} {n c : Nat} {xs : List Int} (h : W.ownsRow base 3 1 (.slice A n c) xs.length (nums .i64 xs)) : n = xs.length ∧ IRow W A c xs := by
  have : n = xs.length ∧ n ≤ c ∧ (Kd.int .i64).C W A xs.length xs := Kd.R_reads' (Kd.R_of_own (ok := fun _ => True) h (fun _ _ => trivial))
  exact ⟨this.1, by have h1 := this.1; have h2 := this.2.1; omega, this.2.2⟩
theorem IRow.below {W W' : World} {A : Option Addr} {c : Nat} {xs : List Int} (h : IRow W A c xs) (hb : Below W.heap.size W W') : IRow W' A c xs := ⟨h.1, Kd.C_below h.2 hb⟩
/-- Effect, its rows read. -/
theorem eff_rows (op a b : Int) (f : Bool) (tl ll : List Int) (hf : fixB op a b = f) (ht : effT true op a b = tl) (hl : effT false op a b = ll) (w : World) (hm : ∃ m, w.cell? ⟨0, 0, none⟩ = some (.int .i64 m)) : Calls Tryz.prog 7 #[.agg #[.int .i64 op, .int .i64 a, .int .i64 b]] w fun e w' => ∃ Au cu Av cv, e = .returned (.tuple #[.slice Au tl.length cu, .slice Av ll.length cv, .bool f]) ∧ IRow w' Au cu tl ∧ IRow w' Av cv ll ∧ Below w.heap.size w w' := by
  refine (Effect_any op a b w hm).mono ?_
  rintro e w' ⟨u, v, rfl, hu, hv, hb⟩
  rw [ht] at hu
  rw [hl] at hv
  obtain ⟨Au, cu, rfl⟩ := own_slice hu
  obtain ⟨Av, cv, rfl⟩ := own_slice hv
  exact ⟨Au, cu, Av, cv, by rw [hf], (IRow.of hu).2, (IRow.of hv).2, hb⟩
theorem own_IRow {W : World} {base n c : Nat} {A : Option Addr} {xs : List Int} (h : W.ownsRow base 3 1 (.slice A n c) xs.length (nums .i64 xs)) : IRow W A c xs := (IRow.of h).2
theorem R_own64 {w : World} {base : Nat} {v : Value} {xs : List Int} {ok : Nat → Prop} (h : Kd.R (Kd.int .i64) 3 w base ok v xs) : w.ownsRow base 3 1 v xs.length (nums .i64 xs) := Kd.own_of_R h
theorem rd_mem {xs : List Int} {k : Nat} (h : k < xs.length) : rd xs k ∈ xs := by
  have : rd xs k = xs[k] := by unfold rd; simp [List.getD, h]
  rw [this]
  exact List.getElem_mem h
theorem ints_same (w : World) (A : Option Addr) (c : Nat) (A' : Option Addr) (c' : Nat) (xs : List Int) (h : xs.length ≤ 2) (h1 : IRow w A c xs) (h2 : IRow w A' c' xs) : Calls Tryz.prog 13 #[.slice A xs.length c, .slice A' xs.length c'] w fun e w' => e = .returned (.bool true) ∧ Below w.heap.size w w' :=
  (backstayref02_Ints.calls 5 A c xs A' c' xs true w h1.2 h1.1 h2.2 h2.1 (ints_refl xs h)).mono fun _ _ ⟨h1, h2⟩ => ⟨h1, h2.below⟩

set_option maxRecDepth 100000 in
set_option maxHeartbeats 16000000 in
theorem effects_walk (op a b op' a' b' : Int) (w : World) (hV : RVars w) : Calls Tryz.prog 3 #[.agg #[.int .i64 op, .int .i64 a, .int .i64 b], .agg #[.int .i64 op', .int .i64 a', .int .i64 b']] w fun e w' => e = .returned (.bool true) ∧ Below w.heap.size w w' := by
  have hx0 := World.alloc_heap_new w (.cells #[.int .i64 op, .int .i64 a, .int .i64 b] 23)
  have hy0 := World.alloc_heap_new (w.alloc (.cells #[.int .i64 op, .int .i64 a, .int .i64 b] 23)) (.cells #[.int .i64 op', .int .i64 a', .int .i64 b'] 23)
  rw [World.size_alloc] at hy0
  have hb0 := below_alloc (below_alloc (Below.refl w.heap.size w) (.cells #[.int .i64 op, .int .i64 a, .int .i64 b] 23)) (.cells #[.int .i64 op', .int .i64 a', .int .i64 b'] 23)
  have hx1 := (Below.heap_alloc (w.alloc (.cells #[.int .i64 op, .int .i64 a, .int .i64 b] 23)) (.cells #[.int .i64 op', .int .i64 a', .int .i64 b'] 23) _ (blk_lt hx0)).trans hx0
  have HW0 := Lib.hid hb0
  have HXX := Lib.hid hx1
  have HYY := Lib.hid hy0
  clear hx0 hy0 hb0 hx1
  have HV := Lib.hid hV
  clear hV
  obtain ⟨tl, htl⟩ : ∃ tl, effT true op a b = tl := ⟨_, rfl⟩
  obtain ⟨ll, hll⟩ : ∃ ll, effT false op a b = ll := ⟨_, rfl⟩
  have h1 : tl.length ≤ 2 := by rw [← htl]; exact eff_len _ _ _ _
  have h2 : ll.length ≤ 2 := by rw [← hll]; exact eff_len _ _ _ _
  have h1i : ¬ (2 : Int) < (tl.length : Int) := by omega
  have h2i : ¬ (2 : Int) < (ll.length : Int) := by omega
  have HKN : Hid (∀ t ∈ tl ++ ll, knownT t = true) := Lib.hid (fun t ht => by
    rcases List.mem_append.1 ht with h | h
    · rw [← htl] at h; exact eff_known _ _ _ _ t h
    · rw [← hll] at h; exact eff_known _ _ _ _ t h)
  have HKK := Lib.hid (fun (t : Int) (h : t ∈ tl ++ ll) (W : World) => known_any t true (HKN.out t h).symm W)
  have HTL := Lib.hid htl
  have HLL := Lib.hid hll
  have HEF := Lib.hid (fun f (hf : fixB op a b = f) => eff_rows op a b f tl ll hf htl hll)
  obtain ⟨n, hn⟩ : ∃ n, (tl ++ ll).length = n := ⟨_, rfl⟩
  have hn4 : n ≤ 4 := by rw [← hn, List.length_append]; omega
  have HNN := Lib.hid hn
  clear htl hll HKN hn
  go_enter Tryz.func3, Tryz.ntmps3
  go_wp2_with fail
  generalize (w.alloc (.cells #[.int .i64 op, .int .i64 a, .int .i64 b] 23)).alloc (.cells #[.int .i64 op', .int .i64 a', .int .i64 b'] 23) = w0 at *
  have HQ : Hid (∀ W, Below w0.heap.size w0 W → W.cell? ⟨w.heap.size, 0, none⟩ = some (.int .i64 op) ∧ W.cell? ⟨w.heap.size, 1, none⟩ = some (.int .i64 a) ∧ W.cell? ⟨w.heap.size, 2, none⟩ = some (.int .i64 b) ∧ W.cell? ⟨w.heap.size + 1, 0, none⟩ = some (.int .i64 op') ∧ W.cell? ⟨w.heap.size + 1, 1, none⟩ = some (.int .i64 a') ∧ W.cell? ⟨w.heap.size + 1, 2, none⟩ = some (.int .i64 b')) := Lib.hid (fun W hW => by
    have hx := (hW.block _ (blk_lt HXX.out)).trans HXX.out
    have hy := (hW.block _ (blk_lt HYY.out)).trans HYY.out
    exact ⟨blk_cell hx 0, blk_cell hx 1, blk_cell hx 2, blk_cell hy 0, blk_cell hy 1, blk_cell hy 2⟩)
  have HRV : Hid (∀ W, Below w0.heap.size w0 W → RVars W) := Lib.hid (fun W hW => HV.out.below (below_step HW0.out hW))
  clear HXX HYY HV
  refine (alive6_any w0 (HRV.out w0 (Below.refl _ _)).tabs).mono ?_
  rintro e wn ⟨rfl, hb⟩
  have HB := Lib.hid hb
  clear hb
  have HC := Lib.hid (Check8_any op a b)
  have HD := Lib.hid (Ends9_any op a b)
  have HG := Lib.hid (Goes11_any op a b)
  cases hok : okB op a b
  · have hf : fixB op a b = false := by unfold fixB; rw [hok]; rfl
    have he : endsB op a b = false := by unfold endsB; rw [hok, Bool.and_false]
    have hg : goesB op a b = false := by unfold goesB; rw [hok, Bool.and_false]
    rw [hok] at HC
    rw [he] at HD
    rw [hg] at HG
    have HF := Lib.hid hf
    clear hok he hg hf
    obtain ⟨x0, x1, x2, y0, y1, y2⟩ := HQ.out _ HB.out
    go_wp2_with fail
    refine (HEF.out false HF.out _ (HRV.out _ HB.out).len).mono ?_
    rintro e wn ⟨Au, cu, Av, cv, rfl, hu, hv, hb⟩
    have HUV : Hid (∀ W, Below wn.heap.size wn W → IRow W Au cu tl ∧ IRow W Av cv ll) := Lib.hid (fun W h => ⟨hu.below h, hv.below h⟩)
    have HB_ := Lib.hid (below_step HB.out hb)
    clear HB
    have HB := HB_
    clear HB_ hb
    clear x0 x1 x2 y0 y1 y2
    clear hu hv HEF
    have HBN := Lib.hid (Below.refl wn.heap.size wn)
    obtain ⟨x0, x1, x2, y0, y1, y2⟩ := HQ.out _ HB.out
    go_wp2_with fail
    refine (HC.out _).mono ?_
    rintro e wz0 ⟨rfl, hb⟩
    have HB_ := Lib.hid (below_step HB.out hb)
    have HBN_ := Lib.hid (below_step HBN.out hb)
    clear HB HBN
    have HB := HB_
    have HBN := HBN_
    clear HB_ HBN_ hb
    clear x0 x1 x2 y0 y1 y2
    obtain ⟨x0, x1, x2, y0, y1, y2⟩ := HQ.out _ HB.out
    go_wp2_with fail
    refine (HD.out _).mono ?_
    rintro e wz ⟨rfl, hb⟩
    have HB_ := Lib.hid (below_step HB.out hb)
    have HBN_ := Lib.hid (below_step HBN.out hb)
    clear HB HBN
    have HB := HB_
    have HBN := HBN_
    clear HB_ HBN_ hb
    clear x0 x1 x2 y0 y1 y2
    have HBZ := HBN
    go_wp2_with (first | ((with_reducible refine gate_builtin (b := .append) (xs := #[.tmp 46, .tmp 47]) rfl ?_); at_builtin; refine Kd.R_append_rows (Kd.int .i64) (w0 := wz) (Rr := fun x cs => cs = [Value.int .i64 x]) wz.heap.size rfl (.tmp 46) (.tmp 47) 25 3 (.int .i64 0) 8 rfl Tryz.underlying25 info3 rfl (by decide) (by omega) (.slice (some ⟨wz.heap.size, 0, none⟩) 0 0) [] tl Au tl.length cu (fun _ => True) (fun _ => False) rfl rfl (Kd.R_of_own (World.ownsRow_made _ _ 0 (Nat.le_refl _) (by decide) rfl) (fun _ _ => trivial)) (Kd.C_below (HUV.out _ HBZ.out).1.2 (below_alloc (Below.refl _ wz) _)) (fun _ _ h => h) (fun _ h => h.elim) (fun _ _ => trivial) (below_alloc (Below.refl _ wz) _) (by simp) (by simp; omega) ?_; intro v3 w3 hR3 hB3 _ _; have HR3 := Lib.hid hR3; have HS3 := Lib.hid hB3; clear hR3 hB3) | ((with_reducible refine gate_builtin (b := .append) (xs := #[.tmp 48, .tmp 49]) rfl ?_); at_builtin; refine Kd.R_append_rows (Kd.int .i64) (w0 := wz) (Rr := fun x cs => cs = [Value.int .i64 x]) wz.heap.size rfl (.tmp 48) (.tmp 49) 25 3 (.int .i64 0) 8 rfl Tryz.underlying25 info3 rfl (by decide) (by omega) v3 ([] ++ tl) ll Av ll.length cv (fun _ => True) (fun _ => False) rfl rfl HR3.out (Kd.C_below (HUV.out _ HBZ.out).2.2 HS3.out) (fun _ _ h => h) (fun _ h => h.elim) (fun _ _ => trivial) HS3.out HS3.out.size (by simp; omega) ?_; intro v4 w4 hR4 hB4 _ _; have hO4 := R_own64 hR4; simp only [List.nil_append] at hO4; obtain ⟨A4, c4, hv4⟩ := own_slice hO4; rw [HNN.out] at hv4; rw [hv4] at hO4; subst hv4; have HO4 := Lib.hid (own_IRow hO4); have HS4 := Lib.hid hB4; clear hR4 hB4 hO4))
    have HO : Hid (∀ W, Below w4.heap.size w4 W → IRow W A4 c4 (tl ++ ll)) := Lib.hid (fun W h => HO4.out.below h)
    have HB4 := Lib.hid (below_step HB.out HS4.out)
    have HBN4 := Lib.hid (below_step HBN.out HS4.out)
    clear HO4 HS4 HR3 HS3 HB HBN
    go_loopw [52] (fun i W => ∃ k : Nat, i = .int .i64 k ∧ k ≤ n ∧ Hid (Below w4.heap.size w4 W)) (fun i _ => n - (intOf i).toNat)
    case atStart => exact ⟨0, rfl, by omega, Lib.hid (Below.refl _ _)⟩
    case round =>
      obtain ⟨k, rfl, hk, HBK⟩ := hrel
      by_cases hlt : k < n
      · have hlt2 : (k : Int) < (n : Int) := by omega
        have hC := (HO.out _ HBK.out).2
        rw [HNN.out] at hC
        obtain ⟨ad, rfl, e1⟩ := Kd.at_int hC (k : Int) (by omega) (by omega)
        rw [Int.toNat_natCast] at e1
        have HKT := Lib.hid (fun W => HKK.out (rd (tl ++ ll) k) (rd_mem (by rw [HNN.out]; exact hlt)) W)
        clear hC hlt
        generalize rd (tl ++ ll) k = t at *
        go_wp2_with (go_at_call 10; (with_reducible refine (HKT.out _).mono ?_); rintro e w5 ⟨rfl, mk, hmk⟩; have HB5 := Lib.hid (hmk ▸ pw_below_drewN HBK.out mk); clear hmk)
        refine ⟨⟨k + 1, rfl, by omega, HB5⟩, ?_⟩
        show n - ((k : Int) + 1).toNat < n - (k : Int).toNat
        omega
      · obtain rfl : k = n := by omega
        have HB := Lib.hid (below_step HB4.out HBK.out)
        have HBN := Lib.hid (below_step HBN4.out HBK.out)
        clear hlt hk HB4 HBN4 HO HKK HNN hn4 HBK
        obtain ⟨x0, x1, x2, y0, y1, y2⟩ := HQ.out _ HB.out
        go_wp2_with fail
        refine (HG.out _).mono ?_
        rintro e w6 ⟨rfl, hb⟩
        have HB_ := Lib.hid (below_step HB.out hb)
        have HBN_ := Lib.hid (below_step HBN.out hb)
        clear HB HBN
        have HB := HB_
        have HBN := HBN_
        clear HB_ HBN_ hb
        clear x0 x1 x2 y0 y1 y2
        obtain ⟨x0, x1, x2, y0, y1, y2⟩ := HQ.out _ HB.out
        go_wp2_with fail
        refine (HD.out _).mono ?_
        rintro e w7 ⟨rfl, hb⟩
        have HB_ := Lib.hid (below_step HB.out hb)
        have HBN_ := Lib.hid (below_step HBN.out hb)
        clear HB HBN
        have HB := HB_
        have HBN := HBN_
        clear HB_ HBN_ hb
        clear x0 x1 x2 y0 y1 y2
        obtain ⟨x0, x1, x2, y0, y1, y2⟩ := HQ.out _ HB.out
        by_cases ho : op' = op
        · have hoq : (op' != op) = false := by simp [ho]
          subst ho
          go_wp2_with fail
          refine (HC.out _).mono ?_
          rintro e w8 ⟨rfl, hb⟩
          have HB_ := Lib.hid (below_step HB.out hb)
          have HBN_ := Lib.hid (below_step HBN.out hb)
          clear HB HBN
          have HB := HB_
          have HBN := HBN_
          clear HB_ HBN_ hb
          go_wp2
          go_ret
          exact ⟨rfl, below_step HW0.out HB.out⟩
        · have hoq : (op' != op) = true := by simpa using ho
          clear ho
          go_wp2
          go_ret
          exact ⟨rfl, below_step HW0.out HB.out⟩
  · obtain ⟨fx, hf⟩ : ∃ fx, fixB op a b = fx := ⟨_, rfl⟩
    have HF := Lib.hid hf
    have HOK := Lib.hid hok
    rw [hok] at HC
    clear hf hok
    obtain ⟨x0, x1, x2, y0, y1, y2⟩ := HQ.out _ HB.out
    go_wp2_with fail
    refine (HEF.out fx HF.out _ (HRV.out _ HB.out).len).mono ?_
    rintro e wn ⟨Au, cu, Av, cv, rfl, hu, hv, hb⟩
    have HUV : Hid (∀ W, Below wn.heap.size wn W → IRow W Au cu tl ∧ IRow W Av cv ll) := Lib.hid (fun W h => ⟨hu.below h, hv.below h⟩)
    have HB_ := Lib.hid (below_step HB.out hb)
    clear HB
    have HB := HB_
    clear HB_ hb
    clear x0 x1 x2 y0 y1 y2
    clear hu hv HEF
    have HBN := Lib.hid (Below.refl wn.heap.size wn)
    obtain ⟨x0, x1, x2, y0, y1, y2⟩ := HQ.out _ HB.out
    go_wp2_with fail
    refine (HC.out _).mono ?_
    rintro e wz ⟨rfl, hb⟩
    have HB_ := Lib.hid (below_step HB.out hb)
    have HBN_ := Lib.hid (below_step HBN.out hb)
    clear HB HBN
    have HB := HB_
    have HBN := HBN_
    clear HB_ HBN_ hb
    clear x0 x1 x2 y0 y1 y2
    have HBZ := HBN
    go_wp2_with (first | ((with_reducible refine gate_builtin (b := .append) (xs := #[.tmp 46, .tmp 47]) rfl ?_); at_builtin; refine Kd.R_append_rows (Kd.int .i64) (w0 := wz) (Rr := fun x cs => cs = [Value.int .i64 x]) wz.heap.size rfl (.tmp 46) (.tmp 47) 25 3 (.int .i64 0) 8 rfl Tryz.underlying25 info3 rfl (by decide) (by omega) (.slice (some ⟨wz.heap.size, 0, none⟩) 0 0) [] tl Au tl.length cu (fun _ => True) (fun _ => False) rfl rfl (Kd.R_of_own (World.ownsRow_made _ _ 0 (Nat.le_refl _) (by decide) rfl) (fun _ _ => trivial)) (Kd.C_below (HUV.out _ HBZ.out).1.2 (below_alloc (Below.refl _ wz) _)) (fun _ _ h => h) (fun _ h => h.elim) (fun _ _ => trivial) (below_alloc (Below.refl _ wz) _) (by simp) (by simp; omega) ?_; intro v3 w3 hR3 hB3 _ _; have HR3 := Lib.hid hR3; have HS3 := Lib.hid hB3; clear hR3 hB3) | ((with_reducible refine gate_builtin (b := .append) (xs := #[.tmp 48, .tmp 49]) rfl ?_); at_builtin; refine Kd.R_append_rows (Kd.int .i64) (w0 := wz) (Rr := fun x cs => cs = [Value.int .i64 x]) wz.heap.size rfl (.tmp 48) (.tmp 49) 25 3 (.int .i64 0) 8 rfl Tryz.underlying25 info3 rfl (by decide) (by omega) v3 ([] ++ tl) ll Av ll.length cv (fun _ => True) (fun _ => False) rfl rfl HR3.out (Kd.C_below (HUV.out _ HBZ.out).2.2 HS3.out) (fun _ _ h => h) (fun _ h => h.elim) (fun _ _ => trivial) HS3.out HS3.out.size (by simp; omega) ?_; intro v4 w4 hR4 hB4 _ _; have hO4 := R_own64 hR4; simp only [List.nil_append] at hO4; obtain ⟨A4, c4, hv4⟩ := own_slice hO4; rw [HNN.out] at hv4; rw [hv4] at hO4; subst hv4; have HO4 := Lib.hid (own_IRow hO4); have HS4 := Lib.hid hB4; clear hR4 hB4 hO4))
    have HO : Hid (∀ W, Below w4.heap.size w4 W → IRow W A4 c4 (tl ++ ll)) := Lib.hid (fun W h => HO4.out.below h)
    have HB4 := Lib.hid (below_step HB.out HS4.out)
    have HBN4 := Lib.hid (below_step HBN.out HS4.out)
    clear HO4 HS4 HR3 HS3 HB HBN
    go_loopw [52] (fun i W => ∃ k : Nat, i = .int .i64 k ∧ k ≤ n ∧ Hid (Below w4.heap.size w4 W)) (fun i _ => n - (intOf i).toNat)
    case atStart => exact ⟨0, rfl, by omega, Lib.hid (Below.refl _ _)⟩
    case round =>
      obtain ⟨k, rfl, hk, HBK⟩ := hrel
      by_cases hlt : k < n
      · have hlt2 : (k : Int) < (n : Int) := by omega
        have hC := (HO.out _ HBK.out).2
        rw [HNN.out] at hC
        obtain ⟨ad, rfl, e1⟩ := Kd.at_int hC (k : Int) (by omega) (by omega)
        rw [Int.toNat_natCast] at e1
        have HKT := Lib.hid (fun W => HKK.out (rd (tl ++ ll) k) (rd_mem (by rw [HNN.out]; exact hlt)) W)
        clear hC hlt
        generalize rd (tl ++ ll) k = t at *
        go_wp2_with (go_at_call 10; (with_reducible refine (HKT.out _).mono ?_); rintro e w5 ⟨rfl, mk, hmk⟩; have HB5 := Lib.hid (hmk ▸ pw_below_drewN HBK.out mk); clear hmk)
        refine ⟨⟨k + 1, rfl, by omega, HB5⟩, ?_⟩
        show n - ((k : Int) + 1).toNat < n - (k : Int).toNat
        omega
      · obtain rfl : k = n := by omega
        have HB := Lib.hid (below_step HB4.out HBK.out)
        have HBN := Lib.hid (below_step HBN4.out HBK.out)
        clear hlt hk HB4 HBN4 HO HKK HNN hn4 HBK
        obtain ⟨x0, x1, x2, y0, y1, y2⟩ := HQ.out _ HB.out
        go_wp2_with fail
        refine (HG.out _).mono ?_
        rintro e w6 ⟨rfl, hb⟩
        have HB_ := Lib.hid (below_step HB.out hb)
        have HBN_ := Lib.hid (below_step HBN.out hb)
        clear HB HBN
        have HB := HB_
        have HBN := HBN_
        clear HB_ HBN_ hb
        clear x0 x1 x2 y0 y1 y2
        cases hg : goesB op a b
        · cases he : endsB op a b
          · rw [he] at HD
            clear he hg
            obtain ⟨x0, x1, x2, y0, y1, y2⟩ := HQ.out _ HB.out
            go_wp2_with fail
            refine (HD.out _).mono ?_
            rintro e w7 ⟨rfl, hb⟩
            have HB_ := Lib.hid (below_step HB.out hb)
            have HBN_ := Lib.hid (below_step HBN.out hb)
            clear HB HBN
            have HB := HB_
            have HBN := HBN_
            clear HB_ HBN_ hb
            clear x0 x1 x2 y0 y1 y2
            by_cases ho : op' = op
            rotate_left
            · have hoq : (op' != op) = true := by simpa using ho
              clear ho
              obtain ⟨x0, x1, x2, y0, y1, y2⟩ := HQ.out _ HB.out
              go_wp2
              go_ret
              exact ⟨rfl, below_step HW0.out HB.out⟩
            subst ho
            cases hok' : okB op' a' b'
            · have HC' : Hid (∀ W, Calls Tryz.prog 8 #[.agg #[.int .i64 op', .int .i64 a', .int .i64 b']] W fun e w' => e = .returned (.int .i64 40) ∧ Below W.heap.size W w') := Lib.hid (fun W => by have h := Check8_any op' a' b' W; rw [hok'] at h; exact h)
              clear hok'
              obtain ⟨x0, x1, x2, y0, y1, y2⟩ := HQ.out _ HB.out
              go_wp2_with fail
              refine (HC.out _).mono ?_
              rintro e w8 ⟨rfl, hb⟩
              have HB_ := Lib.hid (below_step HB.out hb)
              have HBN_ := Lib.hid (below_step HBN.out hb)
              clear HB HBN
              have HB := HB_
              have HBN := HBN_
              clear HB_ HBN_ hb
              clear x0 x1 x2 y0 y1 y2
              obtain ⟨x0, x1, x2, y0, y1, y2⟩ := HQ.out _ HB.out
              go_wp2_with fail
              refine (HC'.out _).mono ?_
              rintro e w9 ⟨rfl, hb⟩
              have HB_ := Lib.hid (below_step HB.out hb)
              have HBN_ := Lib.hid (below_step HBN.out hb)
              clear HB HBN
              have HB := HB_
              have HBN := HBN_
              clear HB_ HBN_ hb
              clear x0 x1 x2 y0 y1 y2
              go_wp2
              go_ret
              exact ⟨rfl, below_step HW0.out HB.out⟩
            have HC' : Hid (∀ W, Calls Tryz.prog 8 #[.agg #[.int .i64 op', .int .i64 a', .int .i64 b']] W fun e w' => e = .returned (.int .i64 0) ∧ Below W.heap.size W w') := Lib.hid (fun W => by have h := Check8_any op' a' b' W; rw [hok'] at h; exact h)
            obtain ⟨x0, x1, x2, y0, y1, y2⟩ := HQ.out _ HB.out
            go_wp2_with fail
            refine (HC.out _).mono ?_
            rintro e w8 ⟨rfl, hb⟩
            have HB_ := Lib.hid (below_step HB.out hb)
            have HBN_ := Lib.hid (below_step HBN.out hb)
            clear HB HBN
            have HB := HB_
            have HBN := HBN_
            clear HB_ HBN_ hb
            clear x0 x1 x2 y0 y1 y2
            obtain ⟨x0, x1, x2, y0, y1, y2⟩ := HQ.out _ HB.out
            go_wp2_with fail
            refine (HC'.out _).mono ?_
            rintro e w9 ⟨rfl, hb⟩
            have HB_ := Lib.hid (below_step HB.out hb)
            have HBN_ := Lib.hid (below_step HBN.out hb)
            clear HB HBN
            have HB := HB_
            have HBN := HBN_
            clear HB_ HBN_ hb
            clear x0 x1 x2 y0 y1 y2
            obtain ⟨tl', htl'⟩ : ∃ tl', effT true op' a' b' = tl' := ⟨_, rfl⟩
            obtain ⟨ll', hll'⟩ : ∃ ll', effT false op' a' b' = ll' := ⟨_, rfl⟩
            have HEF' := Lib.hid (eff_rows op' a' b' fx tl' ll' (by rw [← fix_same HOK.out hok']; exact HF.out) htl' hll')
            have hlt' : tl'.length = tl.length := by rw [← htl', ← HTL.out]; exact (len_same true HOK.out hok').symm
            have hll2 : ll'.length = ll.length := by rw [← hll', ← HLL.out]; exact (len_same false HOK.out hok').symm
            have HSAME : Hid (typedB op' a b a' b' = false → tl' = tl ∧ ll' = ll) := Lib.hid (fun h => ⟨by rw [← htl', ← HTL.out]; exact (eff_same true HOK.out hok' h).symm, by rw [← hll', ← HLL.out]; exact (eff_same false HOK.out hok' h).symm⟩)
            have HKI := Lib.hid (Kinds21_any op')
            clear hok' htl' hll' HC HC' HTL HLL HD HG HOK HF
            obtain ⟨x0, x1, x2, y0, y1, y2⟩ := HQ.out _ HB.out
            go_wp2_with fail
            refine (HEF'.out _ (HRV.out _ HB.out).len).mono ?_
            rintro e w10 ⟨Au', cu', Av', cv', rfl, hu, hv, hb⟩
            have HUV' : Hid (∀ W, Below w10.heap.size w10 W → IRow W Au' cu' tl' ∧ IRow W Av' cv' ll') := Lib.hid (fun W h => ⟨hu.below h, hv.below h⟩)
            have HB10 := Lib.hid (Below.refl w10.heap.size w10)
            have HB_ := Lib.hid (below_step HB.out hb)
            have HBN_ := Lib.hid (below_step HBN.out hb)
            clear HB HBN
            have HB := HB_
            have HBN := HBN_
            clear HB_ HBN_ hb
            clear x0 x1 x2 y0 y1 y2
            clear hu hv HEF'
            rw [hlt', hll2]
            obtain ⟨x0, x1, x2, y0, y1, y2⟩ := HQ.out _ HB.out
            go_wp2_with fail
            refine (HKI.out _).mono ?_
            rintro e w11 ⟨rfl, hb⟩
            have HB11 := Lib.hid (below_step HB10.out hb)
            have HB_ := Lib.hid (below_step HB.out hb)
            have HBN_ := Lib.hid (below_step HBN.out hb)
            clear HB HBN
            have HB := HB_
            have HBN := HBN_
            clear HB_ HBN_ hb
            clear x0 x1 x2 y0 y1 y2
            clear HB10 HKI
            by_cases k2 : ka op' = 2
            · have k2q : ((ka op' : Int) == 2) = true := by simp [k2]
              by_cases ea : a = a'
              · have eaq : (a != a') = false := by simp [ea]
                by_cases k3 : kb op' = 3
                · have k3q : ((kb op' : Int) == 3) = true := by simp [k3]
                  by_cases eb : b = b'
                  · have ebq : (b != b') = false := by simp [eb]
                    obtain ⟨rfl, rfl⟩ := HSAME.out (by unfold typedB; simp [ea, eb])
                    clear HSAME
                    obtain ⟨x0, x1, x2, y0, y1, y2⟩ := HQ.out _ HB.out
                    go_wp2_with fail
                    refine (ints_same _ Au cu Au' cu' _ (by omega) (HUV.out _ HBN.out).1 (HUV'.out _ HB11.out).1).mono ?_
                    rintro e w12 ⟨rfl, hb⟩
                    have HB12 := Lib.hid (below_step HB11.out hb)
                    have HB_ := Lib.hid (below_step HB.out hb)
                    have HBN_ := Lib.hid (below_step HBN.out hb)
                    clear HB HBN
                    have HB := HB_
                    have HBN := HBN_
                    clear HB_ HBN_ hb
                    clear x0 x1 x2 y0 y1 y2
                    go_wp2_with fail
                    refine (ints_same _ Av cv Av' cv' _ (by omega) (HUV.out _ HBN.out).2 (HUV'.out _ HB12.out).2).mono ?_
                    rintro e w13 ⟨rfl, hb⟩
                    have HB_ := Lib.hid (below_step HB.out hb)
                    have HBN_ := Lib.hid (below_step HBN.out hb)
                    clear HB HBN
                    have HB := HB_
                    have HBN := HBN_
                    clear HB_ HBN_ hb
                    go_wp2
                    go_ret
                    exact ⟨rfl, below_step HW0.out HB.out⟩
                  · have ebq : (b != b') = true := by simpa using eb
                    clear HSAME
                    obtain ⟨x0, x1, x2, y0, y1, y2⟩ := HQ.out _ HB.out
                    go_wp2
                    go_ret
                    exact ⟨rfl, below_step HW0.out HB.out⟩
                · have k3q : ((kb op' : Int) == 3) = false := by simp; omega
                  obtain ⟨rfl, rfl⟩ := HSAME.out (by unfold typedB; simp [ea, k3])
                  clear HSAME
                  obtain ⟨x0, x1, x2, y0, y1, y2⟩ := HQ.out _ HB.out
                  go_wp2_with fail
                  refine (ints_same _ Au cu Au' cu' _ (by omega) (HUV.out _ HBN.out).1 (HUV'.out _ HB11.out).1).mono ?_
                  rintro e w12 ⟨rfl, hb⟩
                  have HB12 := Lib.hid (below_step HB11.out hb)
                  have HB_ := Lib.hid (below_step HB.out hb)
                  have HBN_ := Lib.hid (below_step HBN.out hb)
                  clear HB HBN
                  have HB := HB_
                  have HBN := HBN_
                  clear HB_ HBN_ hb
                  clear x0 x1 x2 y0 y1 y2
                  go_wp2_with fail
                  refine (ints_same _ Av cv Av' cv' _ (by omega) (HUV.out _ HBN.out).2 (HUV'.out _ HB12.out).2).mono ?_
                  rintro e w13 ⟨rfl, hb⟩
                  have HB_ := Lib.hid (below_step HB.out hb)
                  have HBN_ := Lib.hid (below_step HBN.out hb)
                  clear HB HBN
                  have HB := HB_
                  have HBN := HBN_
                  clear HB_ HBN_ hb
                  go_wp2
                  go_ret
                  exact ⟨rfl, below_step HW0.out HB.out⟩
              · have eaq : (a != a') = true := by simpa using ea
                clear HSAME
                obtain ⟨x0, x1, x2, y0, y1, y2⟩ := HQ.out _ HB.out
                go_wp2
                go_ret
                exact ⟨rfl, below_step HW0.out HB.out⟩
            · have k2q : ((ka op' : Int) == 2) = false := by simp; omega
              by_cases k3 : kb op' = 3
              · have k3q : ((kb op' : Int) == 3) = true := by simp [k3]
                by_cases eb : b = b'
                · have ebq : (b != b') = false := by simp [eb]
                  obtain ⟨rfl, rfl⟩ := HSAME.out (by unfold typedB; simp [k2, eb])
                  clear HSAME
                  obtain ⟨x0, x1, x2, y0, y1, y2⟩ := HQ.out _ HB.out
                  go_wp2_with fail
                  refine (ints_same _ Au cu Au' cu' _ (by omega) (HUV.out _ HBN.out).1 (HUV'.out _ HB11.out).1).mono ?_
                  rintro e w12 ⟨rfl, hb⟩
                  have HB12 := Lib.hid (below_step HB11.out hb)
                  have HB_ := Lib.hid (below_step HB.out hb)
                  have HBN_ := Lib.hid (below_step HBN.out hb)
                  clear HB HBN
                  have HB := HB_
                  have HBN := HBN_
                  clear HB_ HBN_ hb
                  clear x0 x1 x2 y0 y1 y2
                  go_wp2_with fail
                  refine (ints_same _ Av cv Av' cv' _ (by omega) (HUV.out _ HBN.out).2 (HUV'.out _ HB12.out).2).mono ?_
                  rintro e w13 ⟨rfl, hb⟩
                  have HB_ := Lib.hid (below_step HB.out hb)
                  have HBN_ := Lib.hid (below_step HBN.out hb)
                  clear HB HBN
                  have HB := HB_
                  have HBN := HBN_
                  clear HB_ HBN_ hb
                  go_wp2
                  go_ret
                  exact ⟨rfl, below_step HW0.out HB.out⟩
                · have ebq : (b != b') = true := by simpa using eb
                  clear HSAME
                  obtain ⟨x0, x1, x2, y0, y1, y2⟩ := HQ.out _ HB.out
                  go_wp2
                  go_ret
                  exact ⟨rfl, below_step HW0.out HB.out⟩
              · have k3q : ((kb op' : Int) == 3) = false := by simp; omega
                obtain ⟨rfl, rfl⟩ := HSAME.out (by unfold typedB; simp [k2, k3])
                clear HSAME
                obtain ⟨x0, x1, x2, y0, y1, y2⟩ := HQ.out _ HB.out
                go_wp2_with fail
                refine (ints_same _ Au cu Au' cu' _ (by omega) (HUV.out _ HBN.out).1 (HUV'.out _ HB11.out).1).mono ?_
                rintro e w12 ⟨rfl, hb⟩
                have HB12 := Lib.hid (below_step HB11.out hb)
                have HB_ := Lib.hid (below_step HB.out hb)
                have HBN_ := Lib.hid (below_step HBN.out hb)
                clear HB HBN
                have HB := HB_
                have HBN := HBN_
                clear HB_ HBN_ hb
                clear x0 x1 x2 y0 y1 y2
                go_wp2_with fail
                refine (ints_same _ Av cv Av' cv' _ (by omega) (HUV.out _ HBN.out).2 (HUV'.out _ HB12.out).2).mono ?_
                rintro e w13 ⟨rfl, hb⟩
                have HB_ := Lib.hid (below_step HB.out hb)
                have HBN_ := Lib.hid (below_step HBN.out hb)
                clear HB HBN
                have HB := HB_
                have HBN := HBN_
                clear HB_ HBN_ hb
                go_wp2
                go_ret
                exact ⟨rfl, below_step HW0.out HB.out⟩
          · obtain ⟨rfl, h0⟩ : fx = true ∧ ll = [] := by have := ends_fix (.inr he); rw [HF.out] at this; rw [HLL.out] at this; exact this
            have hl0 : ¬ (0 : Int) < (ll.length : Int) := by rw [h0]; simp
            rw [he] at HD
            clear he hg h0
            obtain ⟨x0, x1, x2, y0, y1, y2⟩ := HQ.out _ HB.out
            go_wp2_with fail
            refine (HD.out _).mono ?_
            rintro e w7 ⟨rfl, hb⟩
            have HB_ := Lib.hid (below_step HB.out hb)
            have HBN_ := Lib.hid (below_step HBN.out hb)
            clear HB HBN
            have HB := HB_
            have HBN := HBN_
            clear HB_ HBN_ hb
            clear x0 x1 x2 y0 y1 y2
            by_cases ho : op' = op
            rotate_left
            · have hoq : (op' != op) = true := by simpa using ho
              clear ho
              obtain ⟨x0, x1, x2, y0, y1, y2⟩ := HQ.out _ HB.out
              go_wp2
              go_ret
              exact ⟨rfl, below_step HW0.out HB.out⟩
            subst ho
            cases hok' : okB op' a' b'
            · have HC' : Hid (∀ W, Calls Tryz.prog 8 #[.agg #[.int .i64 op', .int .i64 a', .int .i64 b']] W fun e w' => e = .returned (.int .i64 40) ∧ Below W.heap.size W w') := Lib.hid (fun W => by have h := Check8_any op' a' b' W; rw [hok'] at h; exact h)
              clear hok'
              obtain ⟨x0, x1, x2, y0, y1, y2⟩ := HQ.out _ HB.out
              go_wp2_with fail
              refine (HC.out _).mono ?_
              rintro e w8 ⟨rfl, hb⟩
              have HB_ := Lib.hid (below_step HB.out hb)
              have HBN_ := Lib.hid (below_step HBN.out hb)
              clear HB HBN
              have HB := HB_
              have HBN := HBN_
              clear HB_ HBN_ hb
              clear x0 x1 x2 y0 y1 y2
              obtain ⟨x0, x1, x2, y0, y1, y2⟩ := HQ.out _ HB.out
              go_wp2_with fail
              refine (HC'.out _).mono ?_
              rintro e w9 ⟨rfl, hb⟩
              have HB_ := Lib.hid (below_step HB.out hb)
              have HBN_ := Lib.hid (below_step HBN.out hb)
              clear HB HBN
              have HB := HB_
              have HBN := HBN_
              clear HB_ HBN_ hb
              clear x0 x1 x2 y0 y1 y2
              go_wp2
              go_ret
              exact ⟨rfl, below_step HW0.out HB.out⟩
            have HC' : Hid (∀ W, Calls Tryz.prog 8 #[.agg #[.int .i64 op', .int .i64 a', .int .i64 b']] W fun e w' => e = .returned (.int .i64 0) ∧ Below W.heap.size W w') := Lib.hid (fun W => by have h := Check8_any op' a' b' W; rw [hok'] at h; exact h)
            obtain ⟨x0, x1, x2, y0, y1, y2⟩ := HQ.out _ HB.out
            go_wp2_with fail
            refine (HC.out _).mono ?_
            rintro e w8 ⟨rfl, hb⟩
            have HB_ := Lib.hid (below_step HB.out hb)
            have HBN_ := Lib.hid (below_step HBN.out hb)
            clear HB HBN
            have HB := HB_
            have HBN := HBN_
            clear HB_ HBN_ hb
            clear x0 x1 x2 y0 y1 y2
            obtain ⟨x0, x1, x2, y0, y1, y2⟩ := HQ.out _ HB.out
            go_wp2_with fail
            refine (HC'.out _).mono ?_
            rintro e w9 ⟨rfl, hb⟩
            have HB_ := Lib.hid (below_step HB.out hb)
            have HBN_ := Lib.hid (below_step HBN.out hb)
            clear HB HBN
            have HB := HB_
            have HBN := HBN_
            clear HB_ HBN_ hb
            clear x0 x1 x2 y0 y1 y2
            obtain ⟨tl', htl'⟩ : ∃ tl', effT true op' a' b' = tl' := ⟨_, rfl⟩
            obtain ⟨ll', hll'⟩ : ∃ ll', effT false op' a' b' = ll' := ⟨_, rfl⟩
            have HEF' := Lib.hid (eff_rows op' a' b' true tl' ll' (by rw [← fix_same HOK.out hok']; exact HF.out) htl' hll')
            have hlt' : tl'.length = tl.length := by rw [← htl', ← HTL.out]; exact (len_same true HOK.out hok').symm
            have hll2 : ll'.length = ll.length := by rw [← hll', ← HLL.out]; exact (len_same false HOK.out hok').symm
            have HSAME : Hid (typedB op' a b a' b' = false → tl' = tl ∧ ll' = ll) := Lib.hid (fun h => ⟨by rw [← htl', ← HTL.out]; exact (eff_same true HOK.out hok' h).symm, by rw [← hll', ← HLL.out]; exact (eff_same false HOK.out hok' h).symm⟩)
            have HKI := Lib.hid (Kinds21_any op')
            clear hok' htl' hll' HC HC' HTL HLL HD HG HOK HF
            obtain ⟨x0, x1, x2, y0, y1, y2⟩ := HQ.out _ HB.out
            go_wp2_with fail
            refine (HEF'.out _ (HRV.out _ HB.out).len).mono ?_
            rintro e w10 ⟨Au', cu', Av', cv', rfl, hu, hv, hb⟩
            have HUV' : Hid (∀ W, Below w10.heap.size w10 W → IRow W Au' cu' tl' ∧ IRow W Av' cv' ll') := Lib.hid (fun W h => ⟨hu.below h, hv.below h⟩)
            have HB10 := Lib.hid (Below.refl w10.heap.size w10)
            have HB_ := Lib.hid (below_step HB.out hb)
            have HBN_ := Lib.hid (below_step HBN.out hb)
            clear HB HBN
            have HB := HB_
            have HBN := HBN_
            clear HB_ HBN_ hb
            clear x0 x1 x2 y0 y1 y2
            clear hu hv HEF'
            rw [hlt', hll2]
            obtain ⟨x0, x1, x2, y0, y1, y2⟩ := HQ.out _ HB.out
            go_wp2_with fail
            refine (HKI.out _).mono ?_
            rintro e w11 ⟨rfl, hb⟩
            have HB11 := Lib.hid (below_step HB10.out hb)
            have HB_ := Lib.hid (below_step HB.out hb)
            have HBN_ := Lib.hid (below_step HBN.out hb)
            clear HB HBN
            have HB := HB_
            have HBN := HBN_
            clear HB_ HBN_ hb
            clear x0 x1 x2 y0 y1 y2
            clear HB10 HKI
            by_cases k2 : ka op' = 2
            · have k2q : ((ka op' : Int) == 2) = true := by simp [k2]
              by_cases ea : a = a'
              · have eaq : (a != a') = false := by simp [ea]
                by_cases k3 : kb op' = 3
                · have k3q : ((kb op' : Int) == 3) = true := by simp [k3]
                  by_cases eb : b = b'
                  · have ebq : (b != b') = false := by simp [eb]
                    obtain ⟨rfl, rfl⟩ := HSAME.out (by unfold typedB; simp [ea, eb])
                    clear HSAME
                    obtain ⟨x0, x1, x2, y0, y1, y2⟩ := HQ.out _ HB.out
                    go_wp2_with fail
                    refine (ints_same _ Au cu Au' cu' _ (by omega) (HUV.out _ HBN.out).1 (HUV'.out _ HB11.out).1).mono ?_
                    rintro e w12 ⟨rfl, hb⟩
                    have HB12 := Lib.hid (below_step HB11.out hb)
                    have HB_ := Lib.hid (below_step HB.out hb)
                    have HBN_ := Lib.hid (below_step HBN.out hb)
                    clear HB HBN
                    have HB := HB_
                    have HBN := HBN_
                    clear HB_ HBN_ hb
                    clear x0 x1 x2 y0 y1 y2
                    go_wp2_with fail
                    refine (ints_same _ Av cv Av' cv' _ (by omega) (HUV.out _ HBN.out).2 (HUV'.out _ HB12.out).2).mono ?_
                    rintro e w13 ⟨rfl, hb⟩
                    have HB_ := Lib.hid (below_step HB.out hb)
                    have HBN_ := Lib.hid (below_step HBN.out hb)
                    clear HB HBN
                    have HB := HB_
                    have HBN := HBN_
                    clear HB_ HBN_ hb
                    go_wp2
                    go_ret
                    exact ⟨rfl, below_step HW0.out HB.out⟩
                  · have ebq : (b != b') = true := by simpa using eb
                    clear HSAME
                    obtain ⟨x0, x1, x2, y0, y1, y2⟩ := HQ.out _ HB.out
                    go_wp2
                    go_ret
                    exact ⟨rfl, below_step HW0.out HB.out⟩
                · have k3q : ((kb op' : Int) == 3) = false := by simp; omega
                  obtain ⟨rfl, rfl⟩ := HSAME.out (by unfold typedB; simp [ea, k3])
                  clear HSAME
                  obtain ⟨x0, x1, x2, y0, y1, y2⟩ := HQ.out _ HB.out
                  go_wp2_with fail
                  refine (ints_same _ Au cu Au' cu' _ (by omega) (HUV.out _ HBN.out).1 (HUV'.out _ HB11.out).1).mono ?_
                  rintro e w12 ⟨rfl, hb⟩
                  have HB12 := Lib.hid (below_step HB11.out hb)
                  have HB_ := Lib.hid (below_step HB.out hb)
                  have HBN_ := Lib.hid (below_step HBN.out hb)
                  clear HB HBN
                  have HB := HB_
                  have HBN := HBN_
                  clear HB_ HBN_ hb
                  clear x0 x1 x2 y0 y1 y2
                  go_wp2_with fail
                  refine (ints_same _ Av cv Av' cv' _ (by omega) (HUV.out _ HBN.out).2 (HUV'.out _ HB12.out).2).mono ?_
                  rintro e w13 ⟨rfl, hb⟩
                  have HB_ := Lib.hid (below_step HB.out hb)
                  have HBN_ := Lib.hid (below_step HBN.out hb)
                  clear HB HBN
                  have HB := HB_
                  have HBN := HBN_
                  clear HB_ HBN_ hb
                  go_wp2
                  go_ret
                  exact ⟨rfl, below_step HW0.out HB.out⟩
              · have eaq : (a != a') = true := by simpa using ea
                clear HSAME
                obtain ⟨x0, x1, x2, y0, y1, y2⟩ := HQ.out _ HB.out
                go_wp2
                go_ret
                exact ⟨rfl, below_step HW0.out HB.out⟩
            · have k2q : ((ka op' : Int) == 2) = false := by simp; omega
              by_cases k3 : kb op' = 3
              · have k3q : ((kb op' : Int) == 3) = true := by simp [k3]
                by_cases eb : b = b'
                · have ebq : (b != b') = false := by simp [eb]
                  obtain ⟨rfl, rfl⟩ := HSAME.out (by unfold typedB; simp [k2, eb])
                  clear HSAME
                  obtain ⟨x0, x1, x2, y0, y1, y2⟩ := HQ.out _ HB.out
                  go_wp2_with fail
                  refine (ints_same _ Au cu Au' cu' _ (by omega) (HUV.out _ HBN.out).1 (HUV'.out _ HB11.out).1).mono ?_
                  rintro e w12 ⟨rfl, hb⟩
                  have HB12 := Lib.hid (below_step HB11.out hb)
                  have HB_ := Lib.hid (below_step HB.out hb)
                  have HBN_ := Lib.hid (below_step HBN.out hb)
                  clear HB HBN
                  have HB := HB_
                  have HBN := HBN_
                  clear HB_ HBN_ hb
                  clear x0 x1 x2 y0 y1 y2
                  go_wp2_with fail
                  refine (ints_same _ Av cv Av' cv' _ (by omega) (HUV.out _ HBN.out).2 (HUV'.out _ HB12.out).2).mono ?_
                  rintro e w13 ⟨rfl, hb⟩
                  have HB_ := Lib.hid (below_step HB.out hb)
                  have HBN_ := Lib.hid (below_step HBN.out hb)
                  clear HB HBN
                  have HB := HB_
                  have HBN := HBN_
                  clear HB_ HBN_ hb
                  go_wp2
                  go_ret
                  exact ⟨rfl, below_step HW0.out HB.out⟩
                · have ebq : (b != b') = true := by simpa using eb
                  clear HSAME
                  obtain ⟨x0, x1, x2, y0, y1, y2⟩ := HQ.out _ HB.out
                  go_wp2
                  go_ret
                  exact ⟨rfl, below_step HW0.out HB.out⟩
              · have k3q : ((kb op' : Int) == 3) = false := by simp; omega
                obtain ⟨rfl, rfl⟩ := HSAME.out (by unfold typedB; simp [k2, k3])
                clear HSAME
                obtain ⟨x0, x1, x2, y0, y1, y2⟩ := HQ.out _ HB.out
                go_wp2_with fail
                refine (ints_same _ Au cu Au' cu' _ (by omega) (HUV.out _ HBN.out).1 (HUV'.out _ HB11.out).1).mono ?_
                rintro e w12 ⟨rfl, hb⟩
                have HB12 := Lib.hid (below_step HB11.out hb)
                have HB_ := Lib.hid (below_step HB.out hb)
                have HBN_ := Lib.hid (below_step HBN.out hb)
                clear HB HBN
                have HB := HB_
                have HBN := HBN_
                clear HB_ HBN_ hb
                clear x0 x1 x2 y0 y1 y2
                go_wp2_with fail
                refine (ints_same _ Av cv Av' cv' _ (by omega) (HUV.out _ HBN.out).2 (HUV'.out _ HB12.out).2).mono ?_
                rintro e w13 ⟨rfl, hb⟩
                have HB_ := Lib.hid (below_step HB.out hb)
                have HBN_ := Lib.hid (below_step HBN.out hb)
                clear HB HBN
                have HB := HB_
                have HBN := HBN_
                clear HB_ HBN_ hb
                go_wp2
                go_ret
                exact ⟨rfl, below_step HW0.out HB.out⟩
        · obtain ⟨rfl, h0⟩ : fx = true ∧ ll = [] := by have := ends_fix (.inl hg); rw [HF.out] at this; rw [HLL.out] at this; exact this
          have hl0 : ¬ (0 : Int) < (ll.length : Int) := by rw [h0]; simp
          clear hg h0
          by_cases ho : op' = op
          rotate_left
          · have hoq : (op' != op) = true := by simpa using ho
            clear ho
            obtain ⟨x0, x1, x2, y0, y1, y2⟩ := HQ.out _ HB.out
            go_wp2
            go_ret
            exact ⟨rfl, below_step HW0.out HB.out⟩
          subst ho
          cases hok' : okB op' a' b'
          · have HC' : Hid (∀ W, Calls Tryz.prog 8 #[.agg #[.int .i64 op', .int .i64 a', .int .i64 b']] W fun e w' => e = .returned (.int .i64 40) ∧ Below W.heap.size W w') := Lib.hid (fun W => by have h := Check8_any op' a' b' W; rw [hok'] at h; exact h)
            clear hok'
            obtain ⟨x0, x1, x2, y0, y1, y2⟩ := HQ.out _ HB.out
            go_wp2_with fail
            refine (HC.out _).mono ?_
            rintro e w8 ⟨rfl, hb⟩
            have HB_ := Lib.hid (below_step HB.out hb)
            have HBN_ := Lib.hid (below_step HBN.out hb)
            clear HB HBN
            have HB := HB_
            have HBN := HBN_
            clear HB_ HBN_ hb
            clear x0 x1 x2 y0 y1 y2
            obtain ⟨x0, x1, x2, y0, y1, y2⟩ := HQ.out _ HB.out
            go_wp2_with fail
            refine (HC'.out _).mono ?_
            rintro e w9 ⟨rfl, hb⟩
            have HB_ := Lib.hid (below_step HB.out hb)
            have HBN_ := Lib.hid (below_step HBN.out hb)
            clear HB HBN
            have HB := HB_
            have HBN := HBN_
            clear HB_ HBN_ hb
            clear x0 x1 x2 y0 y1 y2
            go_wp2
            go_ret
            exact ⟨rfl, below_step HW0.out HB.out⟩
          have HC' : Hid (∀ W, Calls Tryz.prog 8 #[.agg #[.int .i64 op', .int .i64 a', .int .i64 b']] W fun e w' => e = .returned (.int .i64 0) ∧ Below W.heap.size W w') := Lib.hid (fun W => by have h := Check8_any op' a' b' W; rw [hok'] at h; exact h)
          obtain ⟨x0, x1, x2, y0, y1, y2⟩ := HQ.out _ HB.out
          go_wp2_with fail
          refine (HC.out _).mono ?_
          rintro e w8 ⟨rfl, hb⟩
          have HB_ := Lib.hid (below_step HB.out hb)
          have HBN_ := Lib.hid (below_step HBN.out hb)
          clear HB HBN
          have HB := HB_
          have HBN := HBN_
          clear HB_ HBN_ hb
          clear x0 x1 x2 y0 y1 y2
          obtain ⟨x0, x1, x2, y0, y1, y2⟩ := HQ.out _ HB.out
          go_wp2_with fail
          refine (HC'.out _).mono ?_
          rintro e w9 ⟨rfl, hb⟩
          have HB_ := Lib.hid (below_step HB.out hb)
          have HBN_ := Lib.hid (below_step HBN.out hb)
          clear HB HBN
          have HB := HB_
          have HBN := HBN_
          clear HB_ HBN_ hb
          clear x0 x1 x2 y0 y1 y2
          obtain ⟨tl', htl'⟩ : ∃ tl', effT true op' a' b' = tl' := ⟨_, rfl⟩
          obtain ⟨ll', hll'⟩ : ∃ ll', effT false op' a' b' = ll' := ⟨_, rfl⟩
          have HEF' := Lib.hid (eff_rows op' a' b' true tl' ll' (by rw [← fix_same HOK.out hok']; exact HF.out) htl' hll')
          have hlt' : tl'.length = tl.length := by rw [← htl', ← HTL.out]; exact (len_same true HOK.out hok').symm
          have hll2 : ll'.length = ll.length := by rw [← hll', ← HLL.out]; exact (len_same false HOK.out hok').symm
          have HSAME : Hid (typedB op' a b a' b' = false → tl' = tl ∧ ll' = ll) := Lib.hid (fun h => ⟨by rw [← htl', ← HTL.out]; exact (eff_same true HOK.out hok' h).symm, by rw [← hll', ← HLL.out]; exact (eff_same false HOK.out hok' h).symm⟩)
          have HKI := Lib.hid (Kinds21_any op')
          clear hok' htl' hll' HC HC' HTL HLL HD HG HOK HF
          obtain ⟨x0, x1, x2, y0, y1, y2⟩ := HQ.out _ HB.out
          go_wp2_with fail
          refine (HEF'.out _ (HRV.out _ HB.out).len).mono ?_
          rintro e w10 ⟨Au', cu', Av', cv', rfl, hu, hv, hb⟩
          have HUV' : Hid (∀ W, Below w10.heap.size w10 W → IRow W Au' cu' tl' ∧ IRow W Av' cv' ll') := Lib.hid (fun W h => ⟨hu.below h, hv.below h⟩)
          have HB10 := Lib.hid (Below.refl w10.heap.size w10)
          have HB_ := Lib.hid (below_step HB.out hb)
          have HBN_ := Lib.hid (below_step HBN.out hb)
          clear HB HBN
          have HB := HB_
          have HBN := HBN_
          clear HB_ HBN_ hb
          clear x0 x1 x2 y0 y1 y2
          clear hu hv HEF'
          rw [hlt', hll2]
          obtain ⟨x0, x1, x2, y0, y1, y2⟩ := HQ.out _ HB.out
          go_wp2_with fail
          refine (HKI.out _).mono ?_
          rintro e w11 ⟨rfl, hb⟩
          have HB11 := Lib.hid (below_step HB10.out hb)
          have HB_ := Lib.hid (below_step HB.out hb)
          have HBN_ := Lib.hid (below_step HBN.out hb)
          clear HB HBN
          have HB := HB_
          have HBN := HBN_
          clear HB_ HBN_ hb
          clear x0 x1 x2 y0 y1 y2
          clear HB10 HKI
          by_cases k2 : ka op' = 2
          · have k2q : ((ka op' : Int) == 2) = true := by simp [k2]
            by_cases ea : a = a'
            · have eaq : (a != a') = false := by simp [ea]
              by_cases k3 : kb op' = 3
              · have k3q : ((kb op' : Int) == 3) = true := by simp [k3]
                by_cases eb : b = b'
                · have ebq : (b != b') = false := by simp [eb]
                  obtain ⟨rfl, rfl⟩ := HSAME.out (by unfold typedB; simp [ea, eb])
                  clear HSAME
                  obtain ⟨x0, x1, x2, y0, y1, y2⟩ := HQ.out _ HB.out
                  go_wp2_with fail
                  refine (ints_same _ Au cu Au' cu' _ (by omega) (HUV.out _ HBN.out).1 (HUV'.out _ HB11.out).1).mono ?_
                  rintro e w12 ⟨rfl, hb⟩
                  have HB12 := Lib.hid (below_step HB11.out hb)
                  have HB_ := Lib.hid (below_step HB.out hb)
                  have HBN_ := Lib.hid (below_step HBN.out hb)
                  clear HB HBN
                  have HB := HB_
                  have HBN := HBN_
                  clear HB_ HBN_ hb
                  clear x0 x1 x2 y0 y1 y2
                  go_wp2_with fail
                  refine (ints_same _ Av cv Av' cv' _ (by omega) (HUV.out _ HBN.out).2 (HUV'.out _ HB12.out).2).mono ?_
                  rintro e w13 ⟨rfl, hb⟩
                  have HB_ := Lib.hid (below_step HB.out hb)
                  have HBN_ := Lib.hid (below_step HBN.out hb)
                  clear HB HBN
                  have HB := HB_
                  have HBN := HBN_
                  clear HB_ HBN_ hb
                  go_wp2
                  go_ret
                  exact ⟨rfl, below_step HW0.out HB.out⟩
                · have ebq : (b != b') = true := by simpa using eb
                  clear HSAME
                  obtain ⟨x0, x1, x2, y0, y1, y2⟩ := HQ.out _ HB.out
                  go_wp2
                  go_ret
                  exact ⟨rfl, below_step HW0.out HB.out⟩
              · have k3q : ((kb op' : Int) == 3) = false := by simp; omega
                obtain ⟨rfl, rfl⟩ := HSAME.out (by unfold typedB; simp [ea, k3])
                clear HSAME
                obtain ⟨x0, x1, x2, y0, y1, y2⟩ := HQ.out _ HB.out
                go_wp2_with fail
                refine (ints_same _ Au cu Au' cu' _ (by omega) (HUV.out _ HBN.out).1 (HUV'.out _ HB11.out).1).mono ?_
                rintro e w12 ⟨rfl, hb⟩
                have HB12 := Lib.hid (below_step HB11.out hb)
                have HB_ := Lib.hid (below_step HB.out hb)
                have HBN_ := Lib.hid (below_step HBN.out hb)
                clear HB HBN
                have HB := HB_
                have HBN := HBN_
                clear HB_ HBN_ hb
                clear x0 x1 x2 y0 y1 y2
                go_wp2_with fail
                refine (ints_same _ Av cv Av' cv' _ (by omega) (HUV.out _ HBN.out).2 (HUV'.out _ HB12.out).2).mono ?_
                rintro e w13 ⟨rfl, hb⟩
                have HB_ := Lib.hid (below_step HB.out hb)
                have HBN_ := Lib.hid (below_step HBN.out hb)
                clear HB HBN
                have HB := HB_
                have HBN := HBN_
                clear HB_ HBN_ hb
                go_wp2
                go_ret
                exact ⟨rfl, below_step HW0.out HB.out⟩
            · have eaq : (a != a') = true := by simpa using ea
              clear HSAME
              obtain ⟨x0, x1, x2, y0, y1, y2⟩ := HQ.out _ HB.out
              go_wp2
              go_ret
              exact ⟨rfl, below_step HW0.out HB.out⟩
          · have k2q : ((ka op' : Int) == 2) = false := by simp; omega
            by_cases k3 : kb op' = 3
            · have k3q : ((kb op' : Int) == 3) = true := by simp [k3]
              by_cases eb : b = b'
              · have ebq : (b != b') = false := by simp [eb]
                obtain ⟨rfl, rfl⟩ := HSAME.out (by unfold typedB; simp [k2, eb])
                clear HSAME
                obtain ⟨x0, x1, x2, y0, y1, y2⟩ := HQ.out _ HB.out
                go_wp2_with fail
                refine (ints_same _ Au cu Au' cu' _ (by omega) (HUV.out _ HBN.out).1 (HUV'.out _ HB11.out).1).mono ?_
                rintro e w12 ⟨rfl, hb⟩
                have HB12 := Lib.hid (below_step HB11.out hb)
                have HB_ := Lib.hid (below_step HB.out hb)
                have HBN_ := Lib.hid (below_step HBN.out hb)
                clear HB HBN
                have HB := HB_
                have HBN := HBN_
                clear HB_ HBN_ hb
                clear x0 x1 x2 y0 y1 y2
                go_wp2_with fail
                refine (ints_same _ Av cv Av' cv' _ (by omega) (HUV.out _ HBN.out).2 (HUV'.out _ HB12.out).2).mono ?_
                rintro e w13 ⟨rfl, hb⟩
                have HB_ := Lib.hid (below_step HB.out hb)
                have HBN_ := Lib.hid (below_step HBN.out hb)
                clear HB HBN
                have HB := HB_
                have HBN := HBN_
                clear HB_ HBN_ hb
                go_wp2
                go_ret
                exact ⟨rfl, below_step HW0.out HB.out⟩
              · have ebq : (b != b') = true := by simpa using eb
                clear HSAME
                obtain ⟨x0, x1, x2, y0, y1, y2⟩ := HQ.out _ HB.out
                go_wp2
                go_ret
                exact ⟨rfl, below_step HW0.out HB.out⟩
            · have k3q : ((kb op' : Int) == 3) = false := by simp; omega
              obtain ⟨rfl, rfl⟩ := HSAME.out (by unfold typedB; simp [k2, k3])
              clear HSAME
              obtain ⟨x0, x1, x2, y0, y1, y2⟩ := HQ.out _ HB.out
              go_wp2_with fail
              refine (ints_same _ Au cu Au' cu' _ (by omega) (HUV.out _ HBN.out).1 (HUV'.out _ HB11.out).1).mono ?_
              rintro e w12 ⟨rfl, hb⟩
              have HB12 := Lib.hid (below_step HB11.out hb)
              have HB_ := Lib.hid (below_step HB.out hb)
              have HBN_ := Lib.hid (below_step HBN.out hb)
              clear HB HBN
              have HB := HB_
              have HBN := HBN_
              clear HB_ HBN_ hb
              clear x0 x1 x2 y0 y1 y2
              go_wp2_with fail
              refine (ints_same _ Av cv Av' cv' _ (by omega) (HUV.out _ HBN.out).2 (HUV'.out _ HB12.out).2).mono ?_
              rintro e w13 ⟨rfl, hb⟩
              have HB_ := Lib.hid (below_step HB.out hb)
              have HBN_ := Lib.hid (below_step HBN.out hb)
              clear HB HBN
              have HB := HB_
              have HBN := HBN_
              clear HB_ HBN_ hb
              go_wp2
              go_ret
              exact ⟨rfl, below_step HW0.out HB.out⟩
end Go.Proofs.YtamagdnlicnefaaGreatDoor
