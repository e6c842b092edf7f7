/- ShapeBoth's walk. -/
import Derived.Test.YtacmajlbaenjfaaTd
import Derived.Test.YtacmajlbaenjfaaSyb
namespace Go.Proofs.Ytacmajlbaenjfaa
open Go.RowKit Go.Shelf Go.Proofs.YtacmajlbaenjfaaW.PrintWords Go.Proofs.YtacmajlbaenjfaaW.PrintLast Go.Proofs.YtacmajlbaenjfaaW.PrintMore
open Go.Proofs.Ytacmajlbaenjfaa.PRef

theorem same28t (W : World) (A B A2 B2 : Option Addr) (c d c2 d2 : Nat) (xs ys : List Int) (hC : (Kd.int .i64).C W A xs.length xs) (hD : (Kd.int .i64).C W B ys.length ys) (hC2 : (Kd.int .i64).C W A2 xs.length xs) (hD2 : (Kd.int .i64).C W B2 ys.length ys) :
    Calls Try.prog 28 #[.agg #[.slice A xs.length c, .slice B ys.length d], .agg #[.slice A2 xs.length c2, .slice B2 ys.length d2]] W fun e w' => e = .returned (.bool true) ∧ Below W.heap.size W w' := by
  have h := Same28_any W A B A2 B2 c d c2 d2 xs ys xs ys hC hD hC2 hD2
  rw [decide_eq_true (rfl : xs = xs), decide_eq_true (rfl : ys = ys)] at h
  exact h
theorem encsig30k (W : World) (A B : Option Addr) (c d : Nat) (xs ys zs : List Int) (er : Int) (hC : (Kd.int .i64).C W A xs.length xs) (hD : (Kd.int .i64).C W B ys.length ys) (hx : xs.length ≤ 1000) (hy : ys.length ≤ 1000) (he : encG xs ys = (zs, er)) :
    Calls Try.prog 30 #[.agg #[.slice A xs.length c, .slice B ys.length d]] W fun e w' => ∃ A2 c2, e = .returned (.tuple #[.slice A2 zs.length c2, .int .i64 er]) ∧ w'.ownsRow W.heap.size 5 1 (.slice A2 zs.length c2) zs.length (nums .u8 zs) ∧ Below W.heap.size W w' := by
  have h := EncSig30_any W A B c d xs ys hC hD hx hy
  rw [he] at h
  refine h.mono ?_
  rintro e w' ⟨u, rfl, hu, hb⟩
  obtain ⟨A2, c2, rfl⟩ := own_slice hu
  exact ⟨A2, c2, rfl, hu, hb⟩
theorem decsig32k (W : World) (g base : Nat) (v : Value) (bs xs ys : List Int) (er : Int) (k : Nat) (hR : ReelIs W g base v bs 0) (he : decG bs 0 = (xs, ys, er, k)) :
    Calls Try.prog 32 #[.pointer (some ⟨g, 0, none⟩)] W fun e w' => ∃ A c B d p, e = .returned (.tuple #[.agg #[.slice A xs.length c, .slice B ys.length d], .int .i64 er]) ∧ (Kd.int .i64).C w' A xs.length xs ∧ (Kd.int .i64).C w' B ys.length ys ∧ ReelIs w' g base v bs p ∧ (er = 0 → p = k) ∧ Fr (fun i => i = g) W w' := by
  have h := DecSig32_any W g base v bs 0 hR
  rw [he] at h
  refine h.mono ?_
  rintro e w' ⟨u, u2, q, rfl, hu, hu2, hr, hq, hf⟩
  obtain ⟨A, c, rfl⟩ := own_slice hu
  obtain ⟨B, d, rfl⟩ := own_slice hu2
  exact ⟨A, c, B, d, q, rfl, (own_CI hu).2.2, (own_CI hu2).2.2, hr, fun e => (hq e).trans (Nat.zero_add _), hf⟩
theorem readsig34k (W : World) (s : ByteArray) (xs ys : List Int) (er : Int) (hs : s.size ≤ 240) (he : readG s.data.toList = (xs, ys, er)) :
    Calls Try.prog 34 #[.string s] W fun e w' => ∃ A c B d, e = .returned (.tuple #[.agg #[.slice A xs.length c, .slice B ys.length d], .int .i64 er]) ∧ (Kd.int .i64).C w' A xs.length xs ∧ (Kd.int .i64).C w' B ys.length ys ∧ Below W.heap.size W w' := by
  have h := ReadSig34_any W s hs
  rw [he] at h
  refine h.mono ?_
  rintro e w' ⟨u, u2, rfl, hu, hu2, hb⟩
  obtain ⟨A, c, rfl⟩ := own_slice hu
  obtain ⟨B, d, rfl⟩ := own_slice hu2
  exact ⟨A, c, B, d, rfl, (own_CI hu).2.2, (own_CI hu2).2.2, hb⟩
theorem show38s (W : World) (A B : Option Addr) (c d : Nat) (xs ys : List Int) (s : ByteArray) (hC : (Kd.int .i64).C W A xs.length xs) (hD : (Kd.int .i64).C W B ys.length ys) (hl : xs.length ≤ 1000) (hm : ys.length ≤ 1000) (he : (⟨(showG xs ys).toArray⟩ : ByteArray) = s) :
    Calls Try.prog 38 #[.agg #[.slice A xs.length c, .slice B ys.length d]] W fun e w' => e = .returned (.string s) ∧ Below W.heap.size W w' :=
  show38k W A B c d xs.length ys.length xs ys s hC hD hl hm he rfl rfl
theorem showG_len {xs ys : List Int} (h : sigOk xs ys = true) : (showG xs ys).length ≤ 65 := by
  have hl := sigOk_len h
  have hy : ∀ x ∈ ys, 1 ≤ x ∧ x ≤ 4 := fun x hx => by have := sigOk_res h x hx; omega
  unfold showG
  rw [if_pos h, textL_known (sigOk_args h) (by omega), textL_known hy (by omega)]
  simp
  omega
theorem encG_bytes {xs ys : List Int} (h : sigOk xs ys = true) : ∀ b ∈ (encG xs ys).1, 0 ≤ b ∧ b ≤ 255 := by
  have hl := sigOk_len h
  intro b hb
  unfold encG at hb
  rw [if_pos h] at hb
  rcases List.mem_append.1 hb with h1 | h1
  · exact packL_bytes (sigOk_args h) (by omega) b h1
  · exact packL_bytes (fun x hx => by have := sigOk_res h x hx; omega) (by omega) b h1

/-- What stands in every world from here on. -/
structure F0 (W : World) (n0 : Nat) (A B A1 : Option Addr) (c d : Nat) (xs ys bs : List Int) : Prop where
  a : (Kd.int .i64).C W A xs.length xs
  b : (Kd.int .i64).C W B ys.length ys
  e : (Kd.int .u8).C W A1 bs.length bs
  x : W.heap[n0]? = some (.cells #[.slice A xs.length c, .slice B ys.length d] 26 (0, 0))
theorem F0.below {W W' : World} {n0 : Nat} {A B A1 : Option Addr} {c d : Nat} {xs ys bs : List Int} (h : F0 W n0 A B A1 c d xs ys bs) (hb : Below W.heap.size W W') : F0 W' n0 A B A1 c d xs ys bs :=
  ⟨Kd.C_below h.a hb, Kd.C_below h.b hb, Kd.C_below h.e hb, (hb.block _ (blk_lt h.x)).trans h.x⟩
/-- A signature in a box. -/
structure FS (W : World) (n : Nat) (A B : Option Addr) (c d : Nat) (xs ys : List Int) : Prop where
  a : (Kd.int .i64).C W A xs.length xs
  b : (Kd.int .i64).C W B ys.length ys
  x : W.heap[n]? = some (.cells #[.slice A xs.length c, .slice B ys.length d] 26 (0, 0))
theorem FS.below {W W' : World} {n : Nat} {A B : Option Addr} {c d : Nat} {xs ys : List Int} (h : FS W n A B c d xs ys) (hb : Below W.heap.size W W') : FS W' n A B c d xs ys :=
  ⟨Kd.C_below h.a hb, Kd.C_below h.b hb, (hb.block _ (blk_lt h.x)).trans h.x⟩

set_option maxRecDepth 100000 in
set_option maxHeartbeats 8000000 in
theorem both_walk (A : Option Addr) (c : Nat) (xs : List Int) (B : Option Addr) (d : Nat) (ys : List Int) (A1 : Option Addr) (c1 : Nat) (bs : List Int) (s : ByteArray) (w : World) (hC : (Kd.int .i64).C w A xs.length xs) (hc : xs.length ≤ c)
    (hD : (Kd.int .i64).C w B ys.length ys) (hd : ys.length ≤ d) (hC1 : (Kd.int .u8).C w A1 bs.length bs) (hc1 : bs.length ≤ c1) (hb1 : ∀ b ∈ bs, 0 ≤ b ∧ b ≤ 255) :
    Calls Try.prog 7 #[.agg #[.slice A xs.length c, .slice B ys.length d], .slice A1 bs.length c1, .string s] w fun e w' => e = .returned (.bool true) ∧ Below w.heap.size w w' := by
  have hba := below_alloc (Below.refl w.heap.size w) (.cells #[.slice A xs.length c, .slice B ys.length d] 26)
  have hf0 : F0 (w.alloc (.cells #[.slice A xs.length c, .slice B ys.length d] 26)) w.heap.size A B A1 c d xs ys bs := ⟨Kd.C_below hC hba, Kd.C_below hD hba, Kd.C_below hC1 hba, World.alloc_heap_new _ _⟩
  have HF0 := Lib.hid hf0
  have HBase := Lib.hid hba
  have HCC : Hid (xs.length ≤ c ∧ ys.length ≤ d ∧ bs.length ≤ c1) := Lib.hid ⟨hc, hd, hc1⟩
  have HBY := Lib.hid hb1
  have HA := Lib.hid (fun W => alive26 W)
  clear hba hf0 hC hc hD hd hC1 hc1 hb1
  have HG := Lib.hid (fun (W : World) (h : F0 W w.heap.size A B A1 c d xs ys bs) => great9s W A c xs B d ys h.a HCC.out.1 h.b HCC.out.2.1)
  by_cases g1 : grG xs ys = 0
  case neg =>
    rw [grG_one g1] at HG
    clear g1
    go_enter Try.func7, Try.ntmps7
    go_wp2_with (first | (go_at_call 26; refine (HA.out _).mono ?_; rintro e w1 ⟨rfl, hb⟩; have HF1 := Lib.hid (HF0.out.below hb); have HB1 := Lib.hid (below_then HBase.out HBase.out.size hb); obtain ⟨q0, q1⟩ := pair_cells HF1.out.x; clear hb) | (go_at_call 9; (with_reducible refine (HG.out _ HF1.out).mono ?_); rintro e w2 ⟨rfl, hb⟩; have HB2 := Lib.hid (below_then HB1.out HB1.out.size hb); clear hb))
    go_ret
    exact ⟨rfl, HB2.out⟩
  case pos =>
  obtain ⟨gx, gy⟩ := grG_zero g1
  rw [g1] at HG
  clear g1
  by_cases g2 : bs.length ≤ 100
  case neg =>
    have g2i : (100 : Int) < (bs.length : Int) := by omega
    clear g2 gx gy
    go_enter Try.func7, Try.ntmps7
    go_wp2_with (first | (go_at_call 26; refine (HA.out _).mono ?_; rintro e w1 ⟨rfl, hb⟩; have HF1 := Lib.hid (HF0.out.below hb); have HB1 := Lib.hid (below_then HBase.out HBase.out.size hb); obtain ⟨q0, q1⟩ := pair_cells HF1.out.x; clear hb) | (go_at_call 9; (with_reducible refine (HG.out _ HF1.out).mono ?_); rintro e w2 ⟨rfl, hb⟩; have HB2 := Lib.hid (below_then HB1.out HB1.out.size hb); clear hb))
    go_ret
    exact ⟨rfl, HB2.out⟩
  case pos =>
  have g2i : ¬ (100 : Int) < (bs.length : Int) := by omega
  by_cases g3 : s.size ≤ 200
  case neg =>
    have g3i : (200 : Int) < (s.size : Int) := by omega
    clear g2 g3 gx gy
    go_enter Try.func7, Try.ntmps7
    go_wp2_with (first | (go_at_call 26; refine (HA.out _).mono ?_; rintro e w1 ⟨rfl, hb⟩; have HF1 := Lib.hid (HF0.out.below hb); have HB1 := Lib.hid (below_then HBase.out HBase.out.size hb); obtain ⟨q0, q1⟩ := pair_cells HF1.out.x; clear hb) | (go_at_call 9; (with_reducible refine (HG.out _ HF1.out).mono ?_); rintro e w2 ⟨rfl, hb⟩; have HB2 := Lib.hid (below_then HB1.out HB1.out.size hb); clear hb))
    go_ret
    exact ⟨rfl, HB2.out⟩
  case pos =>
  have g3i : ¬ (200 : Int) < (s.size : Int) := by omega
  have HL : Hid (xs.length ≤ 100 ∧ ys.length ≤ 100 ∧ bs.length ≤ 100 ∧ s.size ≤ 200) := Lib.hid ⟨gx, gy, g2, g3⟩
  clear g2 g3 gx gy
  obtain ⟨ps, qs, ed, kd, hdec⟩ : ∃ ps qs ed kd, decG bs 0 = (ps, qs, ed, kd) := ⟨_, _, _, _, rfl⟩
  have hrd := fun (h : ed = 0) => sig_read (bs := bs) HBY.out (by rw [hdec]; exact h)
  rw [hdec] at hrd
  simp only at hrd
  have hdl := decG_len bs 0
  rw [hdec] at hdl
  simp only at hdl
  obtain ⟨rs, ts, et, hrs⟩ : ∃ rs ts et, readG s.data.toList = (rs, ts, et) := ⟨_, _, _, rfl⟩
  have hsaid := sig_said (l := s.data.toList)
  have hrl := readG_len s.data.toList
  rw [hrs] at hsaid hrl
  simp only at hsaid hrl
  have HDec := Lib.hid (fun (W : World) (g base : Nat) (v : Value) (h : ReelIs W g base v bs 0) => decsig32k W g base v bs ps qs ed kd h hdec)
  have HRds := Lib.hid (fun (W : World) => readsig34k W s rs ts et (by have := HL.out; omega) hrs)
  have HRd := Lib.hid hrd
  have HSaid := Lib.hid hsaid
  have HDL := Lib.hid hdl
  have HRL := Lib.hid hrl
  clear hrd hsaid hdec hrs hdl hrl
  generalize hwb : w.alloc (.cells #[.slice A xs.length c, .slice B ys.length d] 26) = wb at HF0 HBase
  have HWB := Lib.hid hwb
  clear hwb
  have W0 := Lib.hid (Below.refl wb.heap.size wb)
  cases hok : sigOk xs ys
  · have he : encG xs ys = ([], 61) := by unfold encG; rw [hok]; rfl
    have HE := Lib.hid he
    clear he hok
    go_enter Try.func7, Try.ntmps7
    go_upto_region 1 with (fail)
    rw [HWB.out]
    obtain ⟨q0, q1⟩ := pair_cells HF0.out.x
    go_upto_region 11 with (first | (go_at_call 26; refine (HA.out _).mono ?_; rintro e w1 ⟨rfl, hb⟩; have HW_ := Lib.hid (below_then W0.out W0.out.size hb); clear W0 q0 q1; have W0 := HW_; obtain ⟨q0, q1⟩ := pair_cells (HF0.out.below W0.out).x; clear HW_; clear hb) | (go_at_call 9; (with_reducible refine (HG.out _ (HF0.out.below W0.out)).mono ?_); rintro e w2 ⟨rfl, hb⟩; have HW_ := Lib.hid (below_then W0.out W0.out.size hb); clear W0 q0 q1; have W0 := HW_; obtain ⟨q0, q1⟩ := pair_cells (HF0.out.below W0.out).x; clear HW_; clear hb) | (go_at_call 30; (with_reducible refine (encsig30k _ A B c d xs ys [] 61 (HF0.out.below W0.out).a (HF0.out.below W0.out).b (by have := HL.out; omega) (by have := HL.out; omega) HE.out).mono ?_); rintro e w3 ⟨A2, c2, rfl, hu, hb⟩; have HW_ := Lib.hid (below_then W0.out W0.out.size hb); clear W0 q0 q1; have W0 := HW_; obtain ⟨q0, q1⟩ := pair_cells (HF0.out.below W0.out).x; clear HW_; clear hu hb))
    clear q0 q1
    go_upto_region 12 with (go_at_call 13; (with_reducible refine (On_any A1 c1 bs _ (HF0.out.below W0.out).e (by have := HL.out; omega) HBY.out).mono ?_); rintro e w23 ⟨g2, vg2, rfl, hg, hr, hb⟩; have HG2 := Lib.hid (Nat.le_trans W0.out.size hg); have HR23 := Lib.hid hr; have HW_ := Lib.hid (below_then W0.out W0.out.size hb); clear W0; have W0 := HW_; clear HW_; clear hg hr hb)
    go_upto_region 13 with (go_at_call 32; (with_reducible refine (HDec.out _ _ _ _ HR23.out).mono ?_); rintro e w24 ⟨A24, c24, B24, d24, p24, rfl, hu, hv, hr, hp, hf⟩; have HU24 := Lib.hid (And.intro hu hv); have HR24 := Lib.hid hr; have HP24 := Lib.hid hp; have HW_ := Lib.hid (W0.out.trans (hf.below W0.out.size (fun i hi e => absurd hi (by have := HG2.out; omega)))); clear W0; have W0 := HW_; clear HW_ hu hv hr hp hf)
    have hba := below_alloc (Below.refl w24.heap.size w24) (.cells #[.slice A24 ps.length c24, .slice B24 qs.length d24] 26)
    have HFS25 : Hid (FS (w24.alloc (.cells #[.slice A24 ps.length c24, .slice B24 qs.length d24] 26)) w24.heap.size A24 B24 c24 d24 ps qs) := Lib.hid ⟨Kd.C_below HU24.out.1 hba, Kd.C_below HU24.out.2 hba, World.alloc_heap_new _ _⟩
    have HR25 := Lib.hid (HR24.out.below hba)
    have HW25 := Lib.hid (below_then W0.out W0.out.size hba)
    clear hba HU24 HR24 HR23 HG2 W0
    generalize w24.alloc (.cells #[.slice A24 ps.length c24, .slice B24 qs.length d24] 26) = w25 at *
    generalize w24.heap.size = n16 at *
    have W0 := HW25
    clear HW25
    by_cases he : ed = 0
    · subst he
      obtain ⟨e1, e2⟩ := HRd.out rfl
      have hpk := HP24.out rfl
      have hr25 := HR25.out
      rw [hpk] at hr25
      have HR25' := Lib.hid hr25
      have hle := hr25.le
      obtain ⟨us, hus⟩ : ∃ us, us = bs.take kd := ⟨_, rfl⟩
      have hep : encG ps qs = (us, 0) := by rw [hus, ← e1, ← e2]
      have HEP := Lib.hid hep
      have hln : us.length = kd := by rw [hus, List.length_take]; omega
      have HLN := Lib.hid hln
      have HUS := Lib.hid hus
      clear e1 e2 hep hln hus hpk hr25 HR25
      obtain ⟨q0, q1⟩ := pair_cells HFS25.out.x
      go_upto_region 15 with (go_at_call 30; (with_reducible refine (encsig30k w25 A24 B24 c24 d24 ps qs us 0 HFS25.out.a HFS25.out.b (by have := HDL.out; omega) (by have := HDL.out; omega) HEP.out).mono ?_); rintro e w26 ⟨A26, c26, rfl, hu, hb⟩; have HU26 := Lib.hid (row_C hu).2.2; have HR26 := Lib.hid (HR25'.out.below hb); have HW_ := Lib.hid (below_then W0.out W0.out.size hb); clear W0; have W0 := HW_; clear HW_; clear hu hb)
      clear q0 q1
      rw [HLN.out]
      obtain ⟨ib, hib, hib0, hib1, hib2⟩ := info_parts info5
      have hcut := cut_to (P := Try.prog) 23 5 .i64 Try.underlying23 hib A1 bs.length c1 (kd : Int) (by omega) (by omega) HCC.out.2.2
      rw [Int.toNat_natCast] at hcut
      have hcv1 : ∀ k, (convert 23 9 (.slice A26 kd c26)).run Try.prog (w26.drewN k) = .ok (.string (strOfNums us)) (w26.drewN k) := fun k => string_read (by have h := HU26.out; rw [HLN.out] at h; exact Kd.C_below h (pw_below_drewN (Below.refl _ _) k))
      have hcv2 : ∀ k, (convert 23 9 (.slice A1 kd c1)).run Try.prog (w26.drewN k) = .ok (.string (strOfNums us)) (w26.drewN k) := fun k => string_read (by have h := Kd.C_take (HF0.out.below (pw_below_drewN W0.out k)).e hle; rw [← HUS.out, HLN.out] at h; exact h)
      have HAt := Lib.hid (fun k => At_any (w26.drewN k) g2 _ _ _ _ (HR26.out.below (pw_below_drewN (Below.refl _ _) k)))
      clear hle
      go_quiet ((go_at_call 21; with_reducible refine quiet_same (HAt.out _)))
      have HW_ := Lib.hid (pw_below_drewN W0.out nq)
      clear W0 hcv1 hcv2 hcut HAt HR26 HU26
      have W0 := HW_
      clear HW_
      generalize w26.drewN nq = w27 at *
      go_upto_region 18 with (go_at_call 34; (with_reducible refine (HRds.out _).mono ?_); rintro e w28 ⟨A28, c28, B28, d28, rfl, hu, hv, hb⟩; have HU28 := Lib.hid (And.intro hu hv); have HW_ := Lib.hid (below_then W0.out W0.out.size hb); clear W0; have W0 := HW_; clear HW_; clear hu hv hb)
      have hba := below_alloc (Below.refl w28.heap.size w28) (.cells #[.slice A28 rs.length c28, .slice B28 ts.length d28] 26)
      have HFS29 : Hid (FS (w28.alloc (.cells #[.slice A28 rs.length c28, .slice B28 ts.length d28] 26)) w28.heap.size A28 B28 c28 d28 rs ts) := Lib.hid ⟨Kd.C_below HU28.out.1 hba, Kd.C_below HU28.out.2 hba, World.alloc_heap_new _ _⟩
      have HW29 := Lib.hid (below_then W0.out W0.out.size hba)
      clear hba HU28 W0
      generalize w28.alloc (.cells #[.slice A28 rs.length c28, .slice B28 ts.length d28] 26) = w29 at *
      generalize w28.heap.size = n20 at *
      have W0 := HW29
      clear HW29
      obtain ⟨q0, q1⟩ := pair_cells HFS29.out.x
      rcases HSaid.out with ⟨rfl, h2⟩ | ⟨rfl, rfl⟩
      · have hst2 := str_of s h2
        have HST2 := Lib.hid hst2
        clear h2 hst2
        go_wp2_with (go_at_call 38; (with_reducible refine (show38s w29 A28 B28 c28 d28 rs ts s HFS29.out.a HFS29.out.b (by have := HRL.out; omega) (by have := HRL.out; omega) HST2.out).mono ?_); rintro e w30 ⟨rfl, hb⟩; have HW_ := Lib.hid (below_then W0.out W0.out.size hb); clear W0; have W0 := HW_; clear HW_; clear hb)
        go_ret
        exact ⟨rfl, below_then HBase.out HBase.out.size W0.out⟩
      · go_wp2
        go_ret
        exact ⟨rfl, below_then HBase.out HBase.out.size W0.out⟩
    · have he' : ¬ ed = 0 := he
      clear he
      go_upto_region 18 with (go_at_call 34; (with_reducible refine (HRds.out _).mono ?_); rintro e w28 ⟨A28, c28, B28, d28, rfl, hu, hv, hb⟩; have HU28 := Lib.hid (And.intro hu hv); have HW_ := Lib.hid (below_then W0.out W0.out.size hb); clear W0; have W0 := HW_; clear HW_; clear hu hv hb)
      have hba := below_alloc (Below.refl w28.heap.size w28) (.cells #[.slice A28 rs.length c28, .slice B28 ts.length d28] 26)
      have HFS29 : Hid (FS (w28.alloc (.cells #[.slice A28 rs.length c28, .slice B28 ts.length d28] 26)) w28.heap.size A28 B28 c28 d28 rs ts) := Lib.hid ⟨Kd.C_below HU28.out.1 hba, Kd.C_below HU28.out.2 hba, World.alloc_heap_new _ _⟩
      have HW29 := Lib.hid (below_then W0.out W0.out.size hba)
      clear hba HU28 W0
      generalize w28.alloc (.cells #[.slice A28 rs.length c28, .slice B28 ts.length d28] 26) = w29 at *
      generalize w28.heap.size = n20 at *
      have W0 := HW29
      clear HW29
      obtain ⟨q0, q1⟩ := pair_cells HFS29.out.x
      rcases HSaid.out with ⟨rfl, h2⟩ | ⟨rfl, rfl⟩
      · have hst2 := str_of s h2
        have HST2 := Lib.hid hst2
        clear h2 hst2
        go_wp2_with (go_at_call 38; (with_reducible refine (show38s w29 A28 B28 c28 d28 rs ts s HFS29.out.a HFS29.out.b (by have := HRL.out; omega) (by have := HRL.out; omega) HST2.out).mono ?_); rintro e w30 ⟨rfl, hb⟩; have HW_ := Lib.hid (below_then W0.out W0.out.size hb); clear W0; have W0 := HW_; clear HW_; clear hb)
        go_ret
        exact ⟨rfl, below_then HBase.out HBase.out.size W0.out⟩
      · go_wp2
        go_ret
        exact ⟨rfl, below_then HBase.out HBase.out.size W0.out⟩
  · obtain ⟨zs, hzs⟩ : ∃ zs, (encG xs ys).1 = zs := ⟨_, rfl⟩
    obtain ⟨hdb, he0⟩ := sig_back hok bs
    have htx := sig_text hok
    have hzb := encG_bytes hok
    have hzl : zs.length ≤ 50 := by
      rw [← hzs]
      unfold encG
      rw [if_pos hok]
      show (packL xs ++ packL ys).length ≤ 50
      rw [List.length_append]
      have h1 := packL_len (xs := xs)
      have h2 := packL_len (xs := ys)
      omega
    rw [hzs] at hdb hzb
    have hze : encG xs ys = (zs, 0) := by rw [← hzs, ← he0]
    obtain ⟨m, hm⟩ : ∃ m, zs.length = m := ⟨_, rfl⟩
    rw [hm] at hdb hzl
    have HE := Lib.hid hze
    have HDB := Lib.hid hdb
    have HM := Lib.hid hm
    have HML := Lib.hid hzl
    have HZB := Lib.hid hzb
    have hst : (⟨(showG xs ys).toArray⟩ : ByteArray).size ≤ 240 := by
      show (showG xs ys).toArray.size ≤ _
      rw [List.size_toArray]
      have := showG_len hok
      omega
    obtain ⟨st, hstr⟩ : ∃ st : ByteArray, (⟨(showG xs ys).toArray⟩ : ByteArray) = st := ⟨_, rfl⟩
    have HSTR := Lib.hid hstr
    have htx2 : readG st.data.toList = (xs, ys, 0) := by rw [← hstr]; exact htx
    have HTX2 := Lib.hid htx2
    have hsts : st.size ≤ 240 := by rw [← hstr]; exact hst
    have HSTS := Lib.hid hsts
    clear hzs hdb he0 htx hzl hzb hze hm hok hst hstr htx2 hsts
    go_enter Try.func7, Try.ntmps7
    go_upto_region 1 with (fail)
    rw [HWB.out]
    obtain ⟨q0, q1⟩ := pair_cells HF0.out.x
    go_upto_region 6 with (first | (go_at_call 26; refine (HA.out _).mono ?_; rintro e w1 ⟨rfl, hb⟩; have HW_ := Lib.hid (below_then W0.out W0.out.size hb); clear W0 q0 q1; have W0 := HW_; obtain ⟨q0, q1⟩ := pair_cells (HF0.out.below W0.out).x; clear HW_; clear hb) | (go_at_call 9; (with_reducible refine (HG.out _ (HF0.out.below W0.out)).mono ?_); rintro e w1 ⟨rfl, hb⟩; have HW_ := Lib.hid (below_then W0.out W0.out.size hb); clear W0 q0 q1; have W0 := HW_; obtain ⟨q0, q1⟩ := pair_cells (HF0.out.below W0.out).x; clear HW_; clear hb) | (go_at_call 30; (with_reducible refine (encsig30k _ A B c d xs ys zs 0 (HF0.out.below W0.out).a (HF0.out.below W0.out).b (by have := HL.out; omega) (by have := HL.out; omega) HE.out).mono ?_); rintro e w2 ⟨A2, c2, rfl, hu, hb⟩; have HU := Lib.hid (row_C hu); have HW_ := Lib.hid (below_then W0.out W0.out.size hb); clear W0 q0 q1; have W0 := HW_; obtain ⟨q0, q1⟩ := pair_cells (HF0.out.below W0.out).x; clear HW_; clear hu hb))
    clear q0 q1
    go_upto_region 7 with (first | ((with_reducible refine gate_builtin (b := .append) (xs := #[.tmp 48, .tmp 49]) rfl ?_); at_builtin; refine Kd.R_append_rows (Kd.int .u8) (w0 := w2) (Rr := fun x cs => cs = [Value.int .u8 x]) w2.heap.size rfl (.tmp 48) (.tmp 49) 23 5 (.int .u8 0) 1 rfl Try.underlying23 info5 rfl (by decide) (by omega) (.slice (some ⟨w2.heap.size, 0, none⟩) 0 0) [] zs A2 zs.length c2 (fun _ => True) (fun _ => False) rfl rfl (Kd.R_of_own (World.ownsRow_made _ _ 0 (Nat.le_refl _) (by decide) rfl) (fun _ _ => trivial)) (Kd.C_below HU.out.2.2 (below_alloc (Below.refl _ w2) _)) (fun _ _ h => h) (fun _ h => h.elim) (fun _ _ => trivial) (below_alloc (Below.refl _ w2) _) (by simp) (by have := HM.out; have := HML.out; simp; omega) ?_; intro v3 w3 hR3 hB3 _ _; have HR3 := Lib.hid hR3; have HS3 := Lib.hid hB3; clear hR3 hB3) | ((with_reducible refine gate_builtin (b := .append) (xs := #[.tmp 50, .tmp 51]) rfl ?_); at_builtin; refine Kd.R_append_rows (Kd.int .u8) (w0 := w2) (Rr := fun x cs => cs = [Value.int .u8 x]) w2.heap.size rfl (.tmp 50) (.tmp 51) 23 5 (.int .u8 0) 1 rfl Try.underlying23 info5 rfl (by decide) (by omega) v3 ([] ++ zs) bs A1 bs.length c1 (fun _ => True) (fun _ => False) rfl rfl HR3.out ((HF0.out.below (below_then W0.out W0.out.size HS3.out)).e) (fun _ _ h => h) (fun _ h => h.elim) (fun _ _ => trivial) HS3.out HS3.out.size (by have := HM.out; have := HML.out; have := HL.out; simp; omega) ?_; intro v4 w4 hR4 hB4 _ _; have hO4 := R_own8 hR4; simp only [List.nil_append] at hO4; obtain ⟨A4, c4, rfl⟩ := own_slice hO4; have HO4 := Lib.hid hO4; have HS4 := Lib.hid hB4; clear hR4 hB4 hO4) | (go_at_call 13; (with_reducible refine (on13k A4 c4 _ (zs ++ bs) _ (row_C HO4.out).2.2 (by have := HM.out; have := HML.out; have := HL.out; rw [List.length_append]; omega) (fun b hb => (List.mem_append.1 hb).elim (HZB.out b) (HBY.out b)) (by first | rfl | (simp; done))).mono ?_); rintro e w5 ⟨g, vg, rfl, hg, hr, hb⟩; have HGg := Lib.hid hg; have HR5 := Lib.hid hr; have HS5 := Lib.hid (below_then HS4.out HS4.out.size hb); clear hg hr hb))
    go_upto_region 8 with (go_at_call 32; (with_reducible refine (decsig32k _ _ _ _ _ xs ys 0 m HR5.out HDB.out).mono ?_); rintro e w6 ⟨A6, c6, B6, d6, p6, rfl, hu, hv, hr, hp, hf⟩; have HU6 := Lib.hid (And.intro hu hv); have hp' := hp rfl; rw [hp'] at hr; have HR6 := Lib.hid hr; have HS6 := Lib.hid (HS5.out.trans (hf.below HS5.out.size (fun i hi e => absurd hi (by have := HGg.out; have := HS4.out.size; omega)))); clear hu hv hr hp hp' hf)
    have hba := below_alloc (Below.refl w6.heap.size w6) (.cells #[.slice A6 xs.length c6, .slice B6 ys.length d6] 26)
    have HFS7 : Hid (FS (w6.alloc (.cells #[.slice A6 xs.length c6, .slice B6 ys.length d6] 26)) w6.heap.size A6 B6 c6 d6 xs ys) := Lib.hid ⟨Kd.C_below HU6.out.1 hba, Kd.C_below HU6.out.2 hba, World.alloc_heap_new _ _⟩
    have HR7 := Lib.hid (HR6.out.below hba)
    have HW7 := Lib.hid (below_then (below_then W0.out W0.out.size HS6.out) (below_then W0.out W0.out.size HS6.out).size hba)
    clear hba HU6 HR6 HR5 HS3 HS4 HS5 HS6 HGg HO4 HR3 HU W0
    generalize w6.alloc (.cells #[.slice A6 xs.length c6, .slice B6 ys.length d6] 26) = w7 at *
    generalize w6.heap.size = n11 at *
    have W0 := HW7
    clear HW7
    obtain ⟨q0, q1⟩ := pair_cells (HF0.out.below W0.out).x
    go_upto_region 9 with (first | (go_at_call 38; (with_reducible refine (show38s _ A B c d xs ys st (HF0.out.below W0.out).a (HF0.out.below W0.out).b (by have := HL.out; omega) (by have := HL.out; omega) HSTR.out).mono ?_); rintro e w8 ⟨rfl, hb⟩; have HR8 := Lib.hid (HR7.out.below hb); have HFS8 := Lib.hid (HFS7.out.below hb); have HW_ := Lib.hid (below_then W0.out W0.out.size hb); clear W0 q0 q1; have W0 := HW_; obtain ⟨q0, q1⟩ := pair_cells (HF0.out.below W0.out).x; clear HW_; clear hb) | (go_at_call 34; (with_reducible refine (readsig34k _ st xs ys 0 HSTS.out HTX2.out).mono ?_); rintro e w9 ⟨A9, c9, B9, d9, rfl, hu, hv, hb⟩; have HU9 := Lib.hid (And.intro hu hv); have HR9 := Lib.hid (HR8.out.below hb); have HFS9 := Lib.hid (HFS8.out.below hb); have HW_ := Lib.hid (below_then W0.out W0.out.size hb); clear W0 q0 q1; have W0 := HW_; obtain ⟨q0, q1⟩ := pair_cells (HF0.out.below W0.out).x; clear HW_; clear hu hv hb))
    clear q0 q1
    have hba := below_alloc (Below.refl w9.heap.size w9) (.cells #[.slice A9 xs.length c9, .slice B9 ys.length d9] 26)
    have HFT10 : Hid (FS (w9.alloc (.cells #[.slice A9 xs.length c9, .slice B9 ys.length d9] 26)) w9.heap.size A9 B9 c9 d9 xs ys) := Lib.hid ⟨Kd.C_below HU9.out.1 hba, Kd.C_below HU9.out.2 hba, World.alloc_heap_new _ _⟩
    have HR10 := Lib.hid (HR9.out.below hba)
    have HFS10 := Lib.hid (HFS9.out.below hba)
    have HW10 := Lib.hid (below_then W0.out W0.out.size hba)
    clear hba HU9 HR7 HR8 HR9 HFS7 HFS8 HFS9 W0
    generalize w9.alloc (.cells #[.slice A9 xs.length c9, .slice B9 ys.length d9] 26) = w10 at *
    generalize w9.heap.size = n13 at *
    have W0 := HW10
    clear HW10
    obtain ⟨q0, q1⟩ := pair_cells (HF0.out.below W0.out).x
    obtain ⟨y0, y1⟩ := pair_cells HFS10.out.x
    rw [HM.out]
    go_upto_region 11 with (first | (go_at_call 28; (with_reducible refine (same28t w10 A6 B6 A B c6 d6 c d xs ys HFS10.out.a HFS10.out.b (HF0.out.below W0.out).a (HF0.out.below W0.out).b).mono ?_); rintro e w11 ⟨rfl, hb⟩; have HR11 := Lib.hid (HR10.out.below hb); have HFT11 := Lib.hid (HFT10.out.below hb); obtain ⟨x0, x1⟩ := pair_cells HFT11.out.x; have HW_ := Lib.hid (below_then W0.out W0.out.size hb); clear W0 q0 q1; have W0 := HW_; obtain ⟨q0, q1⟩ := pair_cells (HF0.out.below W0.out).x; clear HW_; clear hb) | (go_at_call 21; (with_reducible refine (At_any w11 g _ _ _ m HR11.out).mono ?_); rintro e w12 ⟨rfl, rfl⟩) | (go_at_call 28; (with_reducible refine (same28t w11 A9 B9 A B c9 d9 c d xs ys HFT11.out.a HFT11.out.b (HF0.out.below W0.out).a (HF0.out.below W0.out).b).mono ?_); rintro e w13 ⟨rfl, hb⟩; have HW_ := Lib.hid (below_then W0.out W0.out.size hb); clear W0 q0 q1; have W0 := HW_; obtain ⟨q0, q1⟩ := pair_cells (HF0.out.below W0.out).x; clear HW_; clear hb))
    clear y0 y1 x0 x1 HR10 HR11 HFS10 HFT10 HFT11 HE HDB HM HML HZB HSTR HTX2 HSTS
    clear q0 q1
    go_upto_region 12 with (go_at_call 13; (with_reducible refine (On_any A1 c1 bs _ (HF0.out.below W0.out).e (by have := HL.out; omega) HBY.out).mono ?_); rintro e w23 ⟨g2, vg2, rfl, hg, hr, hb⟩; have HG2 := Lib.hid (Nat.le_trans W0.out.size hg); have HR23 := Lib.hid hr; have HW_ := Lib.hid (below_then W0.out W0.out.size hb); clear W0; have W0 := HW_; clear HW_; clear hg hr hb)
    go_upto_region 13 with (go_at_call 32; (with_reducible refine (HDec.out _ _ _ _ HR23.out).mono ?_); rintro e w24 ⟨A24, c24, B24, d24, p24, rfl, hu, hv, hr, hp, hf⟩; have HU24 := Lib.hid (And.intro hu hv); have HR24 := Lib.hid hr; have HP24 := Lib.hid hp; have HW_ := Lib.hid (W0.out.trans (hf.below W0.out.size (fun i hi e => absurd hi (by have := HG2.out; omega)))); clear W0; have W0 := HW_; clear HW_ hu hv hr hp hf)
    have hba := below_alloc (Below.refl w24.heap.size w24) (.cells #[.slice A24 ps.length c24, .slice B24 qs.length d24] 26)
    have HFS25 : Hid (FS (w24.alloc (.cells #[.slice A24 ps.length c24, .slice B24 qs.length d24] 26)) w24.heap.size A24 B24 c24 d24 ps qs) := Lib.hid ⟨Kd.C_below HU24.out.1 hba, Kd.C_below HU24.out.2 hba, World.alloc_heap_new _ _⟩
    have HR25 := Lib.hid (HR24.out.below hba)
    have HW25 := Lib.hid (below_then W0.out W0.out.size hba)
    clear hba HU24 HR24 HR23 HG2 W0
    generalize w24.alloc (.cells #[.slice A24 ps.length c24, .slice B24 qs.length d24] 26) = w25 at *
    generalize w24.heap.size = n16 at *
    have W0 := HW25
    clear HW25
    by_cases he : ed = 0
    · subst he
      obtain ⟨e1, e2⟩ := HRd.out rfl
      have hpk := HP24.out rfl
      have hr25 := HR25.out
      rw [hpk] at hr25
      have HR25' := Lib.hid hr25
      have hle := hr25.le
      obtain ⟨us, hus⟩ : ∃ us, us = bs.take kd := ⟨_, rfl⟩
      have hep : encG ps qs = (us, 0) := by rw [hus, ← e1, ← e2]
      have HEP := Lib.hid hep
      have hln : us.length = kd := by rw [hus, List.length_take]; omega
      have HLN := Lib.hid hln
      have HUS := Lib.hid hus
      clear e1 e2 hep hln hus hpk hr25 HR25
      obtain ⟨q0, q1⟩ := pair_cells HFS25.out.x
      go_upto_region 15 with (go_at_call 30; (with_reducible refine (encsig30k w25 A24 B24 c24 d24 ps qs us 0 HFS25.out.a HFS25.out.b (by have := HDL.out; omega) (by have := HDL.out; omega) HEP.out).mono ?_); rintro e w26 ⟨A26, c26, rfl, hu, hb⟩; have HU26 := Lib.hid (row_C hu).2.2; have HR26 := Lib.hid (HR25'.out.below hb); have HW_ := Lib.hid (below_then W0.out W0.out.size hb); clear W0; have W0 := HW_; clear HW_; clear hu hb)
      clear q0 q1
      rw [HLN.out]
      obtain ⟨ib, hib, hib0, hib1, hib2⟩ := info_parts info5
      have hcut := cut_to (P := Try.prog) 23 5 .i64 Try.underlying23 hib A1 bs.length c1 (kd : Int) (by omega) (by omega) HCC.out.2.2
      rw [Int.toNat_natCast] at hcut
      have hcv1 : ∀ k, (convert 23 9 (.slice A26 kd c26)).run Try.prog (w26.drewN k) = .ok (.string (strOfNums us)) (w26.drewN k) := fun k => string_read (by have h := HU26.out; rw [HLN.out] at h; exact Kd.C_below h (pw_below_drewN (Below.refl _ _) k))
      have hcv2 : ∀ k, (convert 23 9 (.slice A1 kd c1)).run Try.prog (w26.drewN k) = .ok (.string (strOfNums us)) (w26.drewN k) := fun k => string_read (by have h := Kd.C_take (HF0.out.below (pw_below_drewN W0.out k)).e hle; rw [← HUS.out, HLN.out] at h; exact h)
      have HAt := Lib.hid (fun k => At_any (w26.drewN k) g2 _ _ _ _ (HR26.out.below (pw_below_drewN (Below.refl _ _) k)))
      clear hle
      go_quiet ((go_at_call 21; with_reducible refine quiet_same (HAt.out _)))
      have HW_ := Lib.hid (pw_below_drewN W0.out nq)
      clear W0 hcv1 hcv2 hcut HAt HR26 HU26
      have W0 := HW_
      clear HW_
      generalize w26.drewN nq = w27 at *
      go_upto_region 18 with (go_at_call 34; (with_reducible refine (HRds.out _).mono ?_); rintro e w28 ⟨A28, c28, B28, d28, rfl, hu, hv, hb⟩; have HU28 := Lib.hid (And.intro hu hv); have HW_ := Lib.hid (below_then W0.out W0.out.size hb); clear W0; have W0 := HW_; clear HW_; clear hu hv hb)
      have hba := below_alloc (Below.refl w28.heap.size w28) (.cells #[.slice A28 rs.length c28, .slice B28 ts.length d28] 26)
      have HFS29 : Hid (FS (w28.alloc (.cells #[.slice A28 rs.length c28, .slice B28 ts.length d28] 26)) w28.heap.size A28 B28 c28 d28 rs ts) := Lib.hid ⟨Kd.C_below HU28.out.1 hba, Kd.C_below HU28.out.2 hba, World.alloc_heap_new _ _⟩
      have HW29 := Lib.hid (below_then W0.out W0.out.size hba)
      clear hba HU28 W0
      generalize w28.alloc (.cells #[.slice A28 rs.length c28, .slice B28 ts.length d28] 26) = w29 at *
      generalize w28.heap.size = n20 at *
      have W0 := HW29
      clear HW29
      obtain ⟨q0, q1⟩ := pair_cells HFS29.out.x
      rcases HSaid.out with ⟨rfl, h2⟩ | ⟨rfl, rfl⟩
      · have hst2 := str_of s h2
        have HST2 := Lib.hid hst2
        clear h2 hst2
        go_wp2_with (go_at_call 38; (with_reducible refine (show38s w29 A28 B28 c28 d28 rs ts s HFS29.out.a HFS29.out.b (by have := HRL.out; omega) (by have := HRL.out; omega) HST2.out).mono ?_); rintro e w30 ⟨rfl, hb⟩; have HW_ := Lib.hid (below_then W0.out W0.out.size hb); clear W0; have W0 := HW_; clear HW_; clear hb)
        go_ret
        exact ⟨rfl, below_then HBase.out HBase.out.size W0.out⟩
      · go_wp2
        go_ret
        exact ⟨rfl, below_then HBase.out HBase.out.size W0.out⟩
    · have he' : ¬ ed = 0 := he
      clear he
      go_upto_region 18 with (go_at_call 34; (with_reducible refine (HRds.out _).mono ?_); rintro e w28 ⟨A28, c28, B28, d28, rfl, hu, hv, hb⟩; have HU28 := Lib.hid (And.intro hu hv); have HW_ := Lib.hid (below_then W0.out W0.out.size hb); clear W0; have W0 := HW_; clear HW_; clear hu hv hb)
      have hba := below_alloc (Below.refl w28.heap.size w28) (.cells #[.slice A28 rs.length c28, .slice B28 ts.length d28] 26)
      have HFS29 : Hid (FS (w28.alloc (.cells #[.slice A28 rs.length c28, .slice B28 ts.length d28] 26)) w28.heap.size A28 B28 c28 d28 rs ts) := Lib.hid ⟨Kd.C_below HU28.out.1 hba, Kd.C_below HU28.out.2 hba, World.alloc_heap_new _ _⟩
      have HW29 := Lib.hid (below_then W0.out W0.out.size hba)
      clear hba HU28 W0
      generalize w28.alloc (.cells #[.slice A28 rs.length c28, .slice B28 ts.length d28] 26) = w29 at *
      generalize w28.heap.size = n20 at *
      have W0 := HW29
      clear HW29
      obtain ⟨q0, q1⟩ := pair_cells HFS29.out.x
      rcases HSaid.out with ⟨rfl, h2⟩ | ⟨rfl, rfl⟩
      · have hst2 := str_of s h2
        have HST2 := Lib.hid hst2
        clear h2 hst2
        go_wp2_with (go_at_call 38; (with_reducible refine (show38s w29 A28 B28 c28 d28 rs ts s HFS29.out.a HFS29.out.b (by have := HRL.out; omega) (by have := HRL.out; omega) HST2.out).mono ?_); rintro e w30 ⟨rfl, hb⟩; have HW_ := Lib.hid (below_then W0.out W0.out.size hb); clear W0; have W0 := HW_; clear HW_; clear hb)
        go_ret
        exact ⟨rfl, below_then HBase.out HBase.out.size W0.out⟩
      · go_wp2
        go_ret
        exact ⟨rfl, below_then HBase.out HBase.out.size W0.out⟩
end Go.Proofs.Ytacmajlbaenjfaa
