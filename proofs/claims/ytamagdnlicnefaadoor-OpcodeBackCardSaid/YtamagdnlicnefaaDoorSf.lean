/- OpcodeBack's walk. -/
import Derived.Test.YtamagdnlicnefaaDoorSd
import Derived.Test.YtamagdnlicnefaaDoorSe
namespace Go.Proofs.YtamagdnlicnefaaDoor
open Go.RowKit Go.Shelf Go.Proofs.YtamagdnlicnefaaDoorW.PrintWords Go.Proofs.YtamagdnlicnefaaDoorW.PrintLast Go.Proofs.YtamagdnlicnefaaDoorW.PrintMore

theorem own_slice8 {w : World} {base n : Nat} {u : Value} {xs : List Int} (h : w.ownsRow base 5 1 u n (nums .u8 xs)) : ∃ A c, u = .slice A n c := by
  rcases h.2 with ⟨rfl, h0⟩ | ⟨g, cap, cur, rfl, _⟩
  · exact ⟨_, _, by rw [h0]⟩
  · exact ⟨_, _, rfl⟩
theorem R_own8 {w : World} {base : Nat} {v : Value} {xs : List Int} {ok : Nat → Prop} (h : Kd.R (Kd.int .u8) 5 w base ok v xs) : w.ownsRow base 5 1 v xs.length (nums .u8 xs) := Kd.own_of_R h
theorem on14k (A : Option Addr) (c n : Nat) (bs : List Int) (w : World) (hbs : (Kd.int .u8).C w A bs.length bs) (hl : bs.length ≤ 140737488355328) (hb : ∀ b ∈ bs, 0 ≤ b ∧ b ≤ 255) (hn : bs.length = n) :
    Calls Tryd.prog 14 #[.slice A n c] w fun e w' => ∃ g v, e = .returned (.pointer (some ⟨g, 0, none⟩)) ∧ w.heap.size ≤ g ∧ ReelIs w' g w.heap.size v bs 0 ∧ Below w.heap.size w w' := by
  subst hn
  exact On_any A c bs w hbs hl hb
/-- Decode, with what it reads spelled out. -/
theorem dec15 (W : World) (g base : Nat) (v : Value) (bs : List Int) (o2 a2 b2 : Int) (c2 k2 : Nat) (hR : ReelIs W g base v bs 0) (he : decR (rest bs 0) = ((o2, a2, b2), c2, k2)) :
    Calls Tryd.prog 15 #[.pointer (some ⟨g, 0, none⟩)] W fun e w' => e = .returned (.tuple #[.agg #[.int .i64 o2, .int .i64 a2, .int .i64 b2], .int .i64 c2]) ∧ ReelIs w' g base v bs k2 ∧ Fr (fun i => i = g) W w' := by
  have h := Decode15_any g base v bs 0 W hR
  rw [he] at h
  refine h.mono ?_
  rintro e w' ⟨rfl, h1, h2⟩
  rw [Nat.zero_add] at h1
  exact ⟨rfl, h1, h2⟩
theorem rest0 (bs : List Int) : rest bs 0 = bs.map Int.toNat := rfl
theorem rest_lt0 {bs : List Int} (hb : ∀ b ∈ bs, 0 ≤ b ∧ b ≤ 255) : ∀ b ∈ rest bs 0, b < 256 := by
  intro b h
  obtain ⟨x, hx, rfl⟩ := List.mem_map.1 h
  have := hb x hx
  omega
theorem map_back {l : List Int} (h : ∀ b ∈ l, 0 ≤ b ∧ b ≤ 255) : (l.map Int.toNat).map Int.ofNat = l := by
  rw [List.map_map]
  conv => rhs; rw [← List.map_id l]
  apply List.map_congr_left
  intro c hc
  have := h c hc
  simp only [Function.comp, id, Int.ofNat_eq_natCast]
  omega
/-- What is read of bytes has just these. -/
theorem said_bytes {bs : List Int} (hb : ∀ b ∈ bs, 0 ≤ b ∧ b ≤ 255) {o a b : Int} {c k : Nat} (he : decR (rest bs 0) = ((o, a, b), c, k)) (hc : c = 0) : okB o a b = true ∧ bytesW o a b = bs.take k := by
  have h := decR_said (rest_lt0 hb) (by rw [he]; exact hc)
  rw [he] at h
  simp only at h
  obtain ⟨h1, t, h2, h3⟩ := h
  refine ⟨h1, ?_⟩
  unfold bytesW
  rw [if_pos h1]
  have e1 : (encX o a b).map Int.toNat = (bs.take k).map Int.toNat := by
    rw [encN_eq, List.map_take, ← rest0, h2, h3]
    simp
  have e2 := congrArg (List.map Int.ofNat) e1
  rwa [map_back (encX_in h1), map_back (fun b hb' => hb b (List.mem_of_mem_take hb'))] at e2
theorem back_bytes {o a b : Int} (h : okB o a b = true) (bs : List Int) : decR (rest (encX o a b ++ bs) 0) = ((o, a, b), 0, (encX o a b).length) := by
  rw [rest0, List.map_append, encN_eq, decR_enc h]
  rw [← encN_eq, List.length_map]
theorem showX_size {op a b : Int} (h : okB op a b = true) : (⟨(showW op a b).toArray⟩ : ByteArray).size ≤ 1000000 := by
  show (showW op a b).toArray.size ≤ _
  rw [List.size_toArray]
  unfold showW
  rw [if_pos h]
  unfold showX
  rw [List.length_append]
  have h1 := nameL_le op
  have h2 := flatS_le h _ List.prefix_rfl
  omega
theorem read_show {op a b : Int} (h : okB op a b = true) : ReadIs ⟨(showW op a b).toArray⟩ op a b 0 := .inl ⟨rfl, h, by rw [data_mk]; unfold showW; rw [if_pos h]⟩
theorem show_read {s : ByteArray} {op a b : Int} (h : okB op a b = true) (hs : s.data.toList = showX op a b) : (⟨(showW op a b).toArray⟩ : ByteArray) = s := by
  unfold showW
  rw [if_pos h, ← hs]

set_option maxRecDepth 100000 in
set_option maxHeartbeats 8000000 in
theorem back_walk (op a b : Int) (A1 : Option Addr) (c1 : Nat) (bs : List Int) (s : ByteArray) (w : World) (hC1 : (Kd.int .u8).C w A1 bs.length bs) (hc1 : bs.length ≤ c1) (hb1 : ∀ b ∈ bs, 0 ≤ b ∧ b ≤ 255) (hV : RVars w) :
    Calls Tryd.prog 5 #[.agg #[.int .i64 op, .int .i64 a, .int .i64 b], .slice A1 bs.length c1, .string s] w fun e w' => e = .returned (.bool true) ∧ Below w.heap.size w w' := by
  have HA : Hid (∀ W, Below w.heap.size w W → Calls Tryd.prog 6 #[] W fun e w' => e = .returned (.bool true) ∧ Below W.heap.size W w') := Lib.hid (fun W h => alive6_any W (hV.tabs.below h))
  have hB0 := below_alloc (Below.refl w.heap.size w) (.cells #[.int .i64 op, .int .i64 a, .int .i64 b] 23)
  have hx0 := World.alloc_heap_new w (.cells #[.int .i64 op, .int .i64 a, .int .i64 b] 23)
  have W0 := Lib.hid hB0
  have HX := Lib.hid hx0
  clear hB0 hx0
  by_cases g2 : bs.length ≤ 100
  case neg =>
    have g2i : (100 : Int) < (bs.length : Int) := by omega
    clear hC1 g2 hV HX
    go_enter Tryd.func5, Tryd.ntmps5
    go_wp2_with (go_at_call 6; (with_reducible refine (HA.out _ W0.out).mono ?_); rintro e w1 ⟨rfl, hb⟩; have HB := Lib.hid (below_step W0.out hb); clear hb)
    go_ret
    exact ⟨rfl, HB.out⟩
  case pos =>
  have g2i : ¬ (100 : Int) < (bs.length : Int) := by omega
  by_cases g3 : s.size ≤ 100
  case neg =>
    have g3i : (100 : Int) < (s.size : Int) := by omega
    clear hC1 g2 g3 hV HX
    go_enter Tryd.func5, Tryd.ntmps5
    go_wp2_with (go_at_call 6; (with_reducible refine (HA.out _ W0.out).mono ?_); rintro e w1 ⟨rfl, hb⟩; have HB := Lib.hid (below_step W0.out hb); clear hb)
    go_ret
    exact ⟨rfl, HB.out⟩
  case pos =>
  have g3i : ¬ (100 : Int) < (s.size : Int) := by omega
  have HBL := Lib.hid g2
  have HBY := Lib.hid hb1
  have HIN : Hid (∀ W, Below w.heap.size w W → (Kd.int .u8).C W A1 bs.length bs ∧ RVars W) := Lib.hid (fun W hb => ⟨Kd.C_below hC1 hb, hV.below hb⟩)
  have HCC := Lib.hid hc1
  obtain ⟨o2, a2, b2, c2, k2, hdec⟩ : ∃ o2 a2 b2 c2 k2, decR (rest bs 0) = ((o2, a2, b2), c2, k2) := ⟨_, _, _, _, _, rfl⟩
  have HDec := Lib.hid (fun (W : World) (g base : Nat) (v : Value) (h : ReelIs W g base v bs 0) => dec15 W g base v bs o2 a2 b2 c2 k2 h hdec)
  have HSaid := Lib.hid (said_bytes hb1 hdec)
  have HRs := Lib.hid (fun (W : World) (h : Below w.heap.size w W) => Read19_any s W (by omega) (hV.below h))
  have HSh := Lib.hid (fun (o' a' b' : Int) (W : World) (h : Below w.heap.size w W) => Show9_any o' a' b' W (hV.tabs.below h))
  have HEn := Lib.hid (EncB op a b)
  clear hC1 hc1 hb1 g2 g3 hdec
  cases hok : okB op a b
  · have hc0 : codeE (okB op a b) = 40 := by rw [hok]; rfl
    rw [hc0] at HEn
    clear hok hc0
    go_enter Tryd.func5, Tryd.ntmps5
    go_wp2_with fail
    refine (HA.out _ W0.out).mono ?_
    rintro e w1 ⟨rfl, hb⟩
    have HX_ := Lib.hid ((hb.block _ (blk_lt HX.out)).trans HX.out)
    clear HX
    have HX := HX_
    clear HX_
    have HW_ := Lib.hid (below_step W0.out hb)
    clear W0
    have W0 := HW_
    clear HW_
    clear hb
    have x0 := blk_cell HX.out 0
    have x1 := blk_cell HX.out 1
    have x2 := blk_cell HX.out 2
    simp only [List.getElem?_toArray, List.getElem?_cons_zero, List.getElem?_cons_succ] at x0 x1 x2
    go_wp2_with fail
    refine (HEn.out _).mono ?_
    rintro e w2 ⟨A2, n2, cc2, rfl, hn2, hc2, hC2, hb⟩
    clear x0 x1 x2
    have HX_ := Lib.hid ((hb.block _ (blk_lt HX.out)).trans HX.out)
    clear HX
    have HX := HX_
    clear HX_
    have HW_ := Lib.hid (below_step W0.out hb)
    clear W0
    have W0 := HW_
    clear HW_
    clear hb
    have HU := Lib.hid hC2
    have HN2 := Lib.hid hn2
    clear hC2 hn2 hc2
    clear HU HN2
    go_wp2_with fail
    refine (On_any A1 c1 bs _ (HIN.out _ W0.out).1 (by have := HBL.out; omega) HBY.out).mono ?_
    rintro e w13 ⟨g2, vg2, rfl, hg, hr, hb⟩
    have HG2 := Lib.hid (Nat.le_trans W0.out.size hg)
    have HR13 := Lib.hid hr
    have HW_ := Lib.hid (below_step W0.out hb)
    clear W0
    have W0 := HW_
    clear HW_
    clear hg hr hb
    go_wp2_with fail
    refine (HDec.out _ _ _ _ HR13.out).mono ?_
    rintro e w14 ⟨rfl, hr, hf⟩
    have HR14 := Lib.hid hr
    have HW_ := Lib.hid (W0.out.trans (hf.below W0.out.size (fun i hi e => absurd hi (by have := HG2.out; omega))))
    clear W0
    have W0 := HW_
    clear HW_ hr hf HR13
    by_cases he : c2 = 0
    · subst he
      obtain ⟨e1, e2⟩ := HSaid.out rfl
      have hle := HR14.out.le
      have HE1 := Lib.hid e1
      have HE2 := Lib.hid e2
      clear e1 e2
      go_wp2_with fail
      refine (bytes7_any o2 a2 b2 _).mono ?_
      rintro e w15 ⟨rfl, hb⟩
      have hzw : w14.heap.size < w15.heap.size := by have := hb.size; simp at this; omega
      have HX15 := Lib.hid ((hb.block _ (by simp)).trans (World.alloc_heap_new w14 (.cells #[.int .i64 o2, .int .i64 a2, .int .i64 b2] 23)))
      have HR15 := Lib.hid ((HR14.out.below (below_alloc (Below.refl _ _) (.cells #[.int .i64 o2, .int .i64 a2, .int .i64 b2] 23))).below hb)
      have HW_ := Lib.hid (below_step (below_alloc W0.out (.cells #[.int .i64 o2, .int .i64 a2, .int .i64 b2] 23)) hb)
      clear W0
      have W0 := HW_
      clear HW_ hb HR14
      rw [HE2.out]
      obtain ⟨ib, hib, hib0, hib1, hib2⟩ := info_parts info5
      have hcut := cut_to (P := Tryd.prog) 30 5 .i64 Tryd.underlying30 hib A1 bs.length c1 (k2 : Int) (by omega) (by omega) HCC.out
      rw [Int.toNat_natCast] at hcut
      obtain ⟨us, hus⟩ : ∃ us, bs.take k2 = us := ⟨_, rfl⟩
      have hul : us.length = k2 := by rw [← hus, List.length_take]; omega
      have hcv2 : (convert 30 9 (.slice A1 k2 c1)).run Tryd.prog w15 = .ok (.string (strOfNums us)) w15 := string_read (by have h := Kd.C_take (HIN.out _ W0.out).1 hle; rw [hus, hul] at h; exact h)
      rw [hus]
      have x0 := blk_cell HX15.out 0
      have x1 := blk_cell HX15.out 1
      have x2 := blk_cell HX15.out 2
      simp only [List.getElem?_toArray, List.getElem?_cons_zero, List.getElem?_cons_succ] at x0 x1 x2
      have HAT := Lib.hid (At_any w15 g2 _ _ _ _ HR15.out)
      have HCK : Hid (∀ W, Calls Tryd.prog 8 #[.agg #[.int .i64 o2, .int .i64 a2, .int .i64 b2]] W fun e w' => e = .returned (.int .i64 0) ∧ Below W.heap.size W w') := Lib.hid (fun W => by have h := Check8_any o2 a2 b2 W; rw [HE1.out] at h; exact h)
      clear hul
      clear hle hib0 hib1 hib2 HR15
      go_wp2_with fail
      refine HAT.out.mono ?_
      rintro e w16 ⟨rfl, rfl⟩
      go_wp2_with fail
      refine (HCK.out _).mono ?_
      rintro e w17 ⟨rfl, hb⟩
      have HW_ := Lib.hid (below_step W0.out hb)
      clear W0
      have W0 := HW_
      clear HW_
      clear hb x0 x1 x2 hcut hcv2 hib HAT HCK
      go_wp2_with fail
      refine (HRs.out _ W0.out).mono ?_
      rintro e w18 ⟨o3, a3, b3, c3, rfl, hri, hb⟩
      have HW_ := Lib.hid (below_step W0.out hb)
      clear W0
      have W0 := HW_
      clear HW_
      clear hb
      rcases hri with ⟨rfl, h1, h2⟩ | ⟨rfl, rfl, rfl, rfl, h1⟩
      · have hst := show_read h1 h2
        have HST := Lib.hid hst
        clear h1 h2 hst
        go_wp2_with fail
        refine (HSh.out o3 a3 b3 _ (below_alloc W0.out _)).mono ?_
        rintro e w19 ⟨rfl, hb⟩
        have HB := Lib.hid (below_step (below_alloc W0.out (.cells #[.int .i64 o3, .int .i64 a3, .int .i64 b3] 23)) hb)
        rw [HST.out]
        clear hb
        go_wp2
        go_ret
        exact ⟨rfl, HB.out⟩
      · clear h1
        go_wp2
        go_ret
        exact ⟨rfl, below_alloc W0.out _⟩
    · have hen : ((c2 : Int) == 0) = false := by simp; omega
      have HW_ := Lib.hid (below_alloc W0.out (.cells #[.int .i64 o2, .int .i64 a2, .int .i64 b2] 23))
      clear W0
      have W0 := HW_
      clear HW_
      go_wp2_with fail
      refine (HRs.out _ W0.out).mono ?_
      rintro e w18 ⟨o3, a3, b3, c3, rfl, hri, hb⟩
      have HW_ := Lib.hid (below_step W0.out hb)
      clear W0
      have W0 := HW_
      clear HW_
      clear hb
      rcases hri with ⟨rfl, h1, h2⟩ | ⟨rfl, rfl, rfl, rfl, h1⟩
      · have hst := show_read h1 h2
        have HST := Lib.hid hst
        clear h1 h2 hst
        go_wp2_with fail
        refine (HSh.out o3 a3 b3 _ (below_alloc W0.out _)).mono ?_
        rintro e w19 ⟨rfl, hb⟩
        have HB := Lib.hid (below_step (below_alloc W0.out (.cells #[.int .i64 o3, .int .i64 a3, .int .i64 b3] 23)) hb)
        rw [HST.out]
        clear hb
        go_wp2
        go_ret
        exact ⟨rfl, HB.out⟩
      · clear h1
        go_wp2
        go_ret
        exact ⟨rfl, below_alloc W0.out _⟩
  · have hc0 : codeE (okB op a b) = 0 := by rw [hok]; rfl
    have hz0 : bytesW op a b = encX op a b := if_pos hok
    have hzb := encX_in hok
    have hzl : (encX op a b).length ≤ 40 := by
      unfold encX
      rw [List.length_append]
      have h1 := encI_le op.toNat
      have h2 := flatB_le a b (ka op) (kb op) _ List.prefix_rfl
      omega
    have hdb := back_bytes hok bs
    have hrs := read_show hok
    have hss := showX_size hok
    rw [hc0, hz0] at HEn
    obtain ⟨st, hst⟩ : ∃ st : ByteArray, (⟨(showW op a b).toArray⟩ : ByteArray) = st := ⟨_, rfl⟩
    rw [hst] at hrs hss
    generalize encX op a b = zs at *
    obtain ⟨m, hm⟩ : ∃ m, zs.length = m := ⟨_, rfl⟩
    have hm40 : m ≤ 40 := by omega
    rw [hm] at hdb
    have HM := Lib.hid hm
    have HZB := Lib.hid hzb
    have HDB := Lib.hid hdb
    have HRS := Lib.hid hrs
    have HSS := Lib.hid hss
    have HST := Lib.hid hst
    clear hok hc0 hz0 hzb hzl hdb hrs hss hst hm
    go_enter Tryd.func5, Tryd.ntmps5
    go_wp2_with fail
    refine (HA.out _ W0.out).mono ?_
    rintro e w1 ⟨rfl, hb⟩
    have HX_ := Lib.hid ((hb.block _ (blk_lt HX.out)).trans HX.out)
    clear HX
    have HX := HX_
    clear HX_
    have HW_ := Lib.hid (below_step W0.out hb)
    clear W0
    have W0 := HW_
    clear HW_
    clear hb
    have x0 := blk_cell HX.out 0
    have x1 := blk_cell HX.out 1
    have x2 := blk_cell HX.out 2
    simp only [List.getElem?_toArray, List.getElem?_cons_zero, List.getElem?_cons_succ] at x0 x1 x2
    go_wp2_with fail
    refine (HEn.out _).mono ?_
    rintro e w2 ⟨A2, n2, cc2, rfl, hn2, hc2, hC2, hb⟩
    clear x0 x1 x2
    have HX_ := Lib.hid ((hb.block _ (blk_lt HX.out)).trans HX.out)
    clear HX
    have HX := HX_
    clear HX_
    have HW_ := Lib.hid (below_step W0.out hb)
    clear W0
    have W0 := HW_
    clear HW_
    clear hb
    have HU := Lib.hid hC2
    have HN2 := Lib.hid hn2
    clear hC2 hn2 hc2
    have hnm : n2 = m := HN2.out.trans HM.out
    subst hnm
    go_upto_region 7 with (first | ((with_reducible refine gate_builtin (b := .append) (xs := #[.tmp 41, .tmp 42]) rfl ?_); at_builtin; refine Kd.R_append_rows (Kd.int .u8) (w0 := w2) (Rr := fun x cs => cs = [Value.int .u8 x]) w2.heap.size rfl (.tmp 41) (.tmp 42) 30 5 (.int .u8 0) 1 rfl Tryd.underlying30 info5 rfl (by decide) (by omega) (.slice (some ⟨w2.heap.size, 0, none⟩) 0 0) [] zs A2 n2 cc2 (fun _ => True) (fun _ => False) rfl rfl (Kd.R_of_own (World.ownsRow_made _ _ 0 (Nat.le_refl _) (by decide) rfl) (fun _ _ => trivial)) (Kd.C_below HU.out (below_alloc (Below.refl _ w2) _)) (fun _ _ h => h) (fun _ h => h.elim) (fun _ _ => trivial) (below_alloc (Below.refl _ w2) _) (by simp) (by have := HM.out; simp; omega) ?_; intro v3 w3 hR3 hB3 _ _; have HR3 := Lib.hid hR3; have HS3 := Lib.hid hB3; clear hR3 hB3) | ((with_reducible refine gate_builtin (b := .append) (xs := #[.tmp 43, .tmp 44]) rfl ?_); at_builtin; refine Kd.R_append_rows (Kd.int .u8) (w0 := w2) (Rr := fun x cs => cs = [Value.int .u8 x]) w2.heap.size rfl (.tmp 43) (.tmp 44) 30 5 (.int .u8 0) 1 rfl Tryd.underlying30 info5 rfl (by decide) (by omega) v3 ([] ++ zs) bs A1 bs.length c1 (fun _ => True) (fun _ => False) rfl rfl HR3.out (Kd.C_below (HIN.out _ W0.out).1 HS3.out) (fun _ _ h => h) (fun _ h => h.elim) (fun _ _ => trivial) HS3.out HS3.out.size (by have := HM.out; have := HBL.out; simp; omega) ?_; intro v4 w4 hR4 hB4 _ _; have hO4 := R_own8 hR4; simp only [List.nil_append] at hO4; obtain ⟨A4, c4, rfl⟩ := own_slice8 hO4; have HO4 := Lib.hid hO4; have HS4 := Lib.hid hB4; clear hR4 hB4 hO4) | (go_at_call 14; (with_reducible refine (on14k A4 c4 _ (zs ++ bs) _ (row_C HO4.out).2.2 (by have := HM.out; have := HBL.out; rw [List.length_append]; omega) (fun b hb => (List.mem_append.1 hb).elim (HZB.out b) (HBY.out b)) (by first | rfl | (simp; done))).mono ?_); rintro e w5 ⟨g, vg, rfl, hg, hr, hb⟩; have HG := Lib.hid hg; have HR5 := Lib.hid hr; have HS5 := Lib.hid (below_then HS4.out HS4.out.size hb); clear hg hr hb))
    go_wp2_with fail
    refine (dec15 _ _ _ _ _ op a b 0 n2 HR5.out HDB.out).mono ?_
    rintro e w6 ⟨rfl, hr, hf⟩
    have HR6 := Lib.hid hr
    have HS6 := Lib.hid (HS5.out.trans (hf.below HS5.out.size (fun i hi e => absurd hi (by have := HG.out; have := HS4.out.size; omega))))
    have HW_ := Lib.hid (below_step W0.out HS6.out)
    have HX_ := Lib.hid ((HS6.out.block _ (blk_lt HX.out)).trans HX.out)
    clear W0 HX
    have W0 := HW_
    have HX := HX_
    clear HW_ HX_ hr hf HR5 HS5 HS4 HO4 HR3 HS3 HG HU HN2
    have hlt6 := blk_lt HX.out
    have x0 := blk_cell HX.out 0
    have x1 := blk_cell HX.out 1
    have x2 := blk_cell HX.out 2
    simp only [List.getElem?_toArray, List.getElem?_cons_zero, List.getElem?_cons_succ] at x0 x1 x2
    go_wp2_with fail
    refine (HSh.out op a b _ (below_alloc W0.out _)).mono ?_
    rintro e w7 ⟨rfl, hb⟩
    have hs7 : w6.heap.size < w7.heap.size := by have := hb.size; simp at this; omega
    have HY := Lib.hid ((hb.block _ (by simp)).trans (World.alloc_heap_new w6 (.cells #[.int .i64 op, .int .i64 a, .int .i64 b] 23)))
    have HB7 := Lib.hid (below_step (below_alloc (Below.refl w6.heap.size w6) (.cells #[.int .i64 op, .int .i64 a, .int .i64 b] 23)) hb)
    rw [HST.out]
    clear hb x0 x1 x2
    go_wp2_with fail
    refine (Read19_any st _ HSS.out (HIN.out _ (below_step W0.out HB7.out)).2).mono ?_
    rintro e w8 ⟨o3, a3, b3, c3, rfl, hri, hb⟩
    obtain ⟨rfl, rfl, rfl, rfl⟩ := readIs_uniq HRS.out hri
    have HB8 := Lib.hid (below_step HB7.out hb)
    have HY8 := Lib.hid ((hb.block _ (blk_lt HY.out)).trans HY.out)
    have HX8 := Lib.hid ((HB8.out.block _ (blk_lt HX.out)).trans HX.out)
    have hs8 : w6.heap.size < w8.heap.size := blk_lt HY8.out
    have hx8 : w.heap.size < w8.heap.size := blk_lt HX8.out
    have HR8 := Lib.hid (HR6.out.below (below_alloc HB8.out (.cells #[.int .i64 op, .int .i64 a, .int .i64 b] 23)))
    have HW_ := Lib.hid (below_alloc (below_step W0.out HB8.out) (.cells #[.int .i64 op, .int .i64 a, .int .i64 b] 23))
    clear W0
    have W0 := HW_
    have x0 := blk_cell HX8.out 0
    have x1 := blk_cell HX8.out 1
    have x2 := blk_cell HX8.out 2
    have y0 := blk_cell HY8.out 0
    have y1 := blk_cell HY8.out 1
    have y2 := blk_cell HY8.out 2
    simp only [List.getElem?_toArray, List.getElem?_cons_zero, List.getElem?_cons_succ] at x0 x1 x2 y0 y1 y2
    have HAT8 := Lib.hid (At_any _ g _ _ _ _ HR8.out)
    clear HW_ hri hb HB7 HB8 HY HX HR6 HR8 HX8 HY8
    go_wp2_with fail
    refine HAT8.out.mono ?_
    rintro e w9 ⟨rfl, rfl⟩
    clear HAT8 HRS HSS HST HDB HZB HM hm40
    go_wp2_with fail
    refine (On_any A1 c1 bs _ (HIN.out _ W0.out).1 (by have := HBL.out; omega) HBY.out).mono ?_
    rintro e w13 ⟨g2, vg2, rfl, hg, hr, hb⟩
    have HG2 := Lib.hid (Nat.le_trans W0.out.size hg)
    have HR13 := Lib.hid hr
    have HW_ := Lib.hid (below_step W0.out hb)
    clear W0
    have W0 := HW_
    clear HW_
    clear hg hr hb
    go_wp2_with fail
    refine (HDec.out _ _ _ _ HR13.out).mono ?_
    rintro e w14 ⟨rfl, hr, hf⟩
    have HR14 := Lib.hid hr
    have HW_ := Lib.hid (W0.out.trans (hf.below W0.out.size (fun i hi e => absurd hi (by have := HG2.out; omega))))
    clear W0
    have W0 := HW_
    clear HW_ hr hf HR13
    by_cases he : c2 = 0
    · subst he
      obtain ⟨e1, e2⟩ := HSaid.out rfl
      have hle := HR14.out.le
      have HE1 := Lib.hid e1
      have HE2 := Lib.hid e2
      clear e1 e2
      go_wp2_with fail
      refine (bytes7_any o2 a2 b2 _).mono ?_
      rintro e w15 ⟨rfl, hb⟩
      have hzw : w14.heap.size < w15.heap.size := by have := hb.size; simp at this; omega
      have HX15 := Lib.hid ((hb.block _ (by simp)).trans (World.alloc_heap_new w14 (.cells #[.int .i64 o2, .int .i64 a2, .int .i64 b2] 23)))
      have HR15 := Lib.hid ((HR14.out.below (below_alloc (Below.refl _ _) (.cells #[.int .i64 o2, .int .i64 a2, .int .i64 b2] 23))).below hb)
      have HW_ := Lib.hid (below_step (below_alloc W0.out (.cells #[.int .i64 o2, .int .i64 a2, .int .i64 b2] 23)) hb)
      clear W0
      have W0 := HW_
      clear HW_ hb HR14
      rw [HE2.out]
      obtain ⟨ib, hib, hib0, hib1, hib2⟩ := info_parts info5
      have hcut := cut_to (P := Tryd.prog) 30 5 .i64 Tryd.underlying30 hib A1 bs.length c1 (k2 : Int) (by omega) (by omega) HCC.out
      rw [Int.toNat_natCast] at hcut
      obtain ⟨us, hus⟩ : ∃ us, bs.take k2 = us := ⟨_, rfl⟩
      have hul : us.length = k2 := by rw [← hus, List.length_take]; omega
      have hcv2 : (convert 30 9 (.slice A1 k2 c1)).run Tryd.prog w15 = .ok (.string (strOfNums us)) w15 := string_read (by have h := Kd.C_take (HIN.out _ W0.out).1 hle; rw [hus, hul] at h; exact h)
      rw [hus]
      have x0 := blk_cell HX15.out 0
      have x1 := blk_cell HX15.out 1
      have x2 := blk_cell HX15.out 2
      simp only [List.getElem?_toArray, List.getElem?_cons_zero, List.getElem?_cons_succ] at x0 x1 x2
      have HAT := Lib.hid (At_any w15 g2 _ _ _ _ HR15.out)
      have HCK : Hid (∀ W, Calls Tryd.prog 8 #[.agg #[.int .i64 o2, .int .i64 a2, .int .i64 b2]] W fun e w' => e = .returned (.int .i64 0) ∧ Below W.heap.size W w') := Lib.hid (fun W => by have h := Check8_any o2 a2 b2 W; rw [HE1.out] at h; exact h)
      clear hul
      clear hle hib0 hib1 hib2 HR15
      go_wp2_with fail
      refine HAT.out.mono ?_
      rintro e w16 ⟨rfl, rfl⟩
      go_wp2_with fail
      refine (HCK.out _).mono ?_
      rintro e w17 ⟨rfl, hb⟩
      have HW_ := Lib.hid (below_step W0.out hb)
      clear W0
      have W0 := HW_
      clear HW_
      clear hb x0 x1 x2 hcut hcv2 hib HAT HCK
      go_wp2_with fail
      refine (HRs.out _ W0.out).mono ?_
      rintro e w18 ⟨o3, a3, b3, c3, rfl, hri, hb⟩
      have HW_ := Lib.hid (below_step W0.out hb)
      clear W0
      have W0 := HW_
      clear HW_
      clear hb
      rcases hri with ⟨rfl, h1, h2⟩ | ⟨rfl, rfl, rfl, rfl, h1⟩
      · have hst := show_read h1 h2
        have HST := Lib.hid hst
        clear h1 h2 hst
        go_wp2_with fail
        refine (HSh.out o3 a3 b3 _ (below_alloc W0.out _)).mono ?_
        rintro e w19 ⟨rfl, hb⟩
        have HB := Lib.hid (below_step (below_alloc W0.out (.cells #[.int .i64 o3, .int .i64 a3, .int .i64 b3] 23)) hb)
        rw [HST.out]
        clear hb
        go_wp2
        go_ret
        exact ⟨rfl, HB.out⟩
      · clear h1
        go_wp2
        go_ret
        exact ⟨rfl, below_alloc W0.out _⟩
    · have hen : ((c2 : Int) == 0) = false := by simp; omega
      have HW_ := Lib.hid (below_alloc W0.out (.cells #[.int .i64 o2, .int .i64 a2, .int .i64 b2] 23))
      clear W0
      have W0 := HW_
      clear HW_
      go_wp2_with fail
      refine (HRs.out _ W0.out).mono ?_
      rintro e w18 ⟨o3, a3, b3, c3, rfl, hri, hb⟩
      have HW_ := Lib.hid (below_step W0.out hb)
      clear W0
      have W0 := HW_
      clear HW_
      clear hb
      rcases hri with ⟨rfl, h1, h2⟩ | ⟨rfl, rfl, rfl, rfl, h1⟩
      · have hst := show_read h1 h2
        have HST := Lib.hid hst
        clear h1 h2 hst
        go_wp2_with fail
        refine (HSh.out o3 a3 b3 _ (below_alloc W0.out _)).mono ?_
        rintro e w19 ⟨rfl, hb⟩
        have HB := Lib.hid (below_step (below_alloc W0.out (.cells #[.int .i64 o3, .int .i64 a3, .int .i64 b3] 23)) hb)
        rw [HST.out]
        clear hb
        go_wp2
        go_ret
        exact ⟨rfl, HB.out⟩
      · clear h1
        go_wp2
        go_ret
        exact ⟨rfl, below_alloc W0.out _⟩
end Go.Proofs.YtamagdnlicnefaaDoor
