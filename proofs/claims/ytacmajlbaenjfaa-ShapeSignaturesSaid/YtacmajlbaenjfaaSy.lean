/- ShapeSignatures' walk. -/
import Derived.Test.YtacmajlbaenjfaaSx
import Derived.Test.YtacmajlbaenjfaaSqa
namespace Go.Proofs.Ytacmajlbaenjfaa
open Go.RowKit Go.Shelf Go.Proofs.YtacmajlbaenjfaaW.PrintWords Go.Proofs.YtacmajlbaenjfaaW.PrintLast Go.Proofs.YtacmajlbaenjfaaW.PrintMore
open Go.Proofs.Ytacmajlbaenjfaa.PRef

def grG (xs ys : List Int) : Int := if 100 < xs.length ∨ 100 < ys.length then 1 else 0
theorem great9s (W : World) (A : Option Addr) (c : Nat) (xs : List Int) (B : Option Addr) (d : Nat) (ys : List Int) (hC : (Kd.int .i64).C W A xs.length xs) (hc : xs.length ≤ c) (hD : (Kd.int .i64).C W B ys.length ys) (hd : ys.length ≤ d) :
    Calls Try.prog 9 #[.slice none 0 0, .agg #[.slice A xs.length c, .slice B ys.length d]] W fun e w' => e = .returned (.int .i64 (grG xs ys)) ∧ Below W.heap.size W w' := by
  refine backstayref06_Great.calls none 0 [] A c xs B d ys _ W (Kd.C_nil _ _) (Nat.le_refl _) hC hc hD hd ?_
  unfold backstayref06_Great.f grG
  rw [if_neg (by simp)]
  by_cases h1 : 100 < xs.length
  · rw [if_pos (by omega), if_pos (.inl h1)]
  · rw [if_neg (by omega)]
    by_cases h2 : 100 < ys.length
    · rw [if_pos (by omega), if_pos (.inr h2)]
    · rw [if_neg (by omega), if_neg (fun h => h.elim h1 h2)]
theorem grG_one {xs ys : List Int} (h : ¬ grG xs ys = 0) : grG xs ys = 1 := by
  unfold grG at h ⊢
  split at h
  · rw [if_pos ‹_›]
  · exact absurd rfl h
theorem grG_zero {xs ys : List Int} (h : grG xs ys = 0) : xs.length ≤ 100 ∧ ys.length ≤ 100 := by
  unfold grG at h
  split at h
  · cases h
  · rename_i h1
    exact ⟨Nat.le_of_not_lt (fun h2 => h1 (.inl h2)), Nat.le_of_not_lt (fun h2 => h1 (.inr h2))⟩
theorem same36t (W : World) (A B A2 B2 : Option Addr) (c d c2 d2 : Nat) (xs ys : List Int) (hC : (Kd.int .i64).C W A xs.length xs) (hc : xs.length ≤ c) (hD : (Kd.int .i64).C W B ys.length ys) (hd : ys.length ≤ d)
    (hC2 : (Kd.int .i64).C W A2 xs.length xs) (hc2 : xs.length ≤ c2) (hD2 : (Kd.int .i64).C W B2 ys.length ys) (hd2 : ys.length ≤ d2) (hl : xs.length ≤ 1000) (hm : ys.length ≤ 1000) :
    Calls Try.prog 36 #[.agg #[.slice A xs.length c, .slice B ys.length d], .agg #[.slice A2 xs.length c2, .slice B2 ys.length d2]] W fun e w' => e = .returned (.bool true) ∧ Below W.heap.size W w' := by
  have h := same36 W A B A2 B2 c d c2 d2 xs ys xs ys hC hc hD hd hC2 hc2 hD2 hd2 hl hm
  rw [decide_eq_true (rfl : xs = xs), decide_eq_true (rfl : ys = ys)] at h
  exact h
theorem copy29 (W : World) (A : Option Addr) (c : Nat) (xs : List Int) (B : Option Addr) (d : Nat) (ys : List Int) (hC : (Kd.int .i64).C W A xs.length xs) (hc : xs.length ≤ c) (hD : (Kd.int .i64).C W B ys.length ys) (hd : ys.length ≤ d) (hl : xs.length ≤ 1000) (hm : ys.length ≤ 1000) :
    Calls Try.prog 29 #[.agg #[.slice A xs.length c, .slice B ys.length d]] W fun e w' => ∃ A2 c2 B2 d2, e = .returned (.agg #[.slice A2 xs.length c2, .slice B2 ys.length d2]) ∧ (Kd.int .i64).C w' A2 xs.length xs ∧ xs.length ≤ c2 ∧ (Kd.int .i64).C w' B2 ys.length ys ∧ ys.length ≤ d2 ∧ Below W.heap.size W w' := by
  refine (backstayref06_Copy.calls A c xs B d ys xs ys W hC hc hD hd ?_).mono ?_
  · unfold backstayref06_Copy.f
    rw [if_pos (by simp; omega), if_pos (by simp; omega)]
    rfl
  · rintro e w' ⟨v0, v1, rfl, h0, h1, hb⟩
    have o0 := R_own64 h0
    have o1 := R_own64 h1
    obtain ⟨A2, c2, rfl⟩ := own_slice o0
    obtain ⟨B2, d2, rfl⟩ := own_slice o1
    exact ⟨A2, c2, B2, d2, rfl, (own_CI o0).2.2, (own_CI o0).2.1, (own_CI o1).2.2, (own_CI o1).2.1, hb⟩
theorem encsig31 (W : World) (A : Option Addr) (c : Nat) (xs : List Int) (B : Option Addr) (d : Nat) (ys : List Int) (hC : (Kd.int .i64).C W A xs.length xs) (hc : xs.length ≤ c) (hD : (Kd.int .i64).C W B ys.length ys) (hd : ys.length ≤ d) (hl : xs.length ≤ 1000) (hm : ys.length ≤ 1000) :
    Calls Try.prog 31 #[.agg #[.slice A xs.length c, .slice B ys.length d]] W fun e w' => ∃ u, e = .returned (.tuple #[u, .int .i64 (encG xs ys).2]) ∧ w'.ownsRow W.heap.size 5 1 u (encG xs ys).1.length (nums .u8 (encG xs ys).1) ∧ Below W.heap.size W w' :=
  (backstayref06_EncodeSignature.calls 2000 A c xs B d ys (encG xs ys).1 (encG xs ys).2 W hC hc hD hd (encsig_f xs ys hl hm)).mono fun _ _ ⟨u, he, h1, h2⟩ => ⟨u, he, R_own8 h1, h2⟩

/-- The rows of the call, and its boxes. -/
structure SB (W : World) (n0 n1 n9 : Nat) (A B C D A2 B2 E E2 : Option Addr) (c0 d0 c1 d1 c2 d2 : Nat) (xs ys xs2 ys2 bs : List Int) : Prop where
  a : (Kd.int .i64).C W A xs.length xs
  b : (Kd.int .i64).C W B ys.length ys
  c : (Kd.int .i64).C W C xs2.length xs2
  d : (Kd.int .i64).C W D ys2.length ys2
  a2 : (Kd.int .i64).C W A2 xs.length xs
  b2 : (Kd.int .i64).C W B2 ys.length ys
  e : (Kd.int .u8).C W E bs.length bs
  e2 : (Kd.int .u8).C W E2 bs.length bs
  x0 : W.heap[n0]? = some (.cells #[.slice A xs.length c0, .slice B ys.length d0] 26 (0, 0))
  x1 : W.heap[n1]? = some (.cells #[.slice C xs2.length c1, .slice D ys2.length d1] 26 (0, 0))
  x9 : W.heap[n9]? = some (.cells #[.slice A2 xs.length c2, .slice B2 ys.length d2] 26 (0, 0))
theorem SB.below {W W' : World} {n0 n1 n9 : Nat} {A B C D A2 B2 E E2 : Option Addr} {c0 d0 c1 d1 c2 d2 : Nat} {xs ys xs2 ys2 bs : List Int} (h : SB W n0 n1 n9 A B C D A2 B2 E E2 c0 d0 c1 d1 c2 d2 xs ys xs2 ys2 bs) (hb : Below W.heap.size W W') :
    SB W' n0 n1 n9 A B C D A2 B2 E E2 c0 d0 c1 d1 c2 d2 xs ys xs2 ys2 bs :=
  ⟨Kd.C_below h.a hb, Kd.C_below h.b hb, Kd.C_below h.c hb, Kd.C_below h.d hb, Kd.C_below h.a2 hb, Kd.C_below h.b2 hb, Kd.C_below h.e hb, Kd.C_below h.e2 hb, (hb.block _ (blk_lt h.x0)).trans h.x0, (hb.block _ (blk_lt h.x1)).trans h.x1, (hb.block _ (blk_lt h.x9)).trans h.x9⟩
theorem pair_cells {W : World} {n : Nat} {u v : Value} {t : Nat} (h : W.heap[n]? = some (.cells #[u, v] t (0, 0))) : W.cell? ⟨n, 0, none⟩ = some u ∧ W.cell? ⟨n, 1, none⟩ = some v := ⟨blk_cell h 0, blk_cell h 1⟩
/-- A signature that was read, twice, in boxes. -/
structure SG (W : World) (n m : Nat) (A B A2 B2 : Option Addr) (c d c2 d2 : Nat) (xs ys : List Int) : Prop where
  a : (Kd.int .i64).C W A xs.length xs
  b : (Kd.int .i64).C W B ys.length ys
  a2 : (Kd.int .i64).C W A2 xs.length xs
  b2 : (Kd.int .i64).C W B2 ys.length ys
  x : W.heap[n]? = some (.cells #[.slice A xs.length c, .slice B ys.length d] 26 (0, 0))
  x2 : W.heap[m]? = some (.cells #[.slice A2 xs.length c2, .slice B2 ys.length d2] 26 (0, 0))
  k : xs.length ≤ c ∧ ys.length ≤ d ∧ xs.length ≤ c2 ∧ ys.length ≤ d2
theorem SG.below {W W' : World} {n m : Nat} {A B A2 B2 : Option Addr} {c d c2 d2 : Nat} {xs ys : List Int} (h : SG W n m A B A2 B2 c d c2 d2 xs ys) (hb : Below W.heap.size W W') : SG W' n m A B A2 B2 c d c2 d2 xs ys :=
  ⟨Kd.C_below h.a hb, Kd.C_below h.b hb, Kd.C_below h.a2 hb, Kd.C_below h.b2 hb, (hb.block _ (blk_lt h.x)).trans h.x, (hb.block _ (blk_lt h.x2)).trans h.x2, h.k⟩

theorem u8_at {W : World} {base n c : Nat} {A : Option Addr} {zs : List Int} (h : W.ownsRow base 5 1 (.slice A n c) zs.length (nums .u8 zs)) (j : Nat) (hj : j < zs.length) :
    ∃ g6, A = some ⟨g6, 0, none⟩ ∧ n = zs.length ∧ base ≤ g6 ∧ W.cell? ⟨g6, j, none⟩ = some (.int .u8 (zs.getD j 0)) ∧ W.frozen? ⟨g6, j, none⟩ = false := by
  have hO : Own W W.heap.size base (.slice none 0 0) (.slice none 0 0) (.slice A n c) zs := ⟨h, fun b hb => ⟨Nat.ne_of_lt (World.ownsRow.lt h b hb).2, by simp [Value.ownBlock], by simp [Value.ownBlock]⟩⟩
  obtain ⟨g6, h1, h2, h3, _, h5, h6⟩ := hO.at_ j hj
  exact ⟨g6, h1, h2, h3, h5, h6⟩
theorem showsig39 (W : World) (A : Option Addr) (c : Nat) (xs : List Int) (B : Option Addr) (d : Nat) (ys : List Int) (hC : (Kd.int .i64).C W A xs.length xs) (hc : xs.length ≤ c) (hD : (Kd.int .i64).C W B ys.length ys) (hd : ys.length ≤ d) (hl : xs.length ≤ 1000) (hm : ys.length ≤ 1000) :
    Calls Try.prog 39 #[.agg #[.slice A xs.length c, .slice B ys.length d]] W fun e w' => e = .returned (.string ⟨(showG xs ys).toArray⟩) ∧ Below W.heap.size W w' :=
  backstayref06_ShowSignature.calls 2000 A c xs B d ys _ W hC hc hD hd (showsig_f xs ys hl hm)

set_option maxRecDepth 100000 in
set_option maxHeartbeats 8000000 in
theorem sigs_walk (A B C D : Option Addr) (c0 d0 c1 d1 : Nat) (xs ys xs2 ys2 : List Int) (E : Option Addr) (k0 : Nat) (bs : List Int) (s : ByteArray) (w : World)
    (hA : (Kd.int .i64).C w A xs.length xs) (hc0 : xs.length ≤ c0) (hB : (Kd.int .i64).C w B ys.length ys) (hd0 : ys.length ≤ d0) (hC : (Kd.int .i64).C w C xs2.length xs2) (hc1 : xs2.length ≤ c1) (hD : (Kd.int .i64).C w D ys2.length ys2) (hd1 : ys2.length ≤ d1)
    (hE : (Kd.int .u8).C w E bs.length bs) (hk0 : bs.length ≤ k0) (hby : ∀ b ∈ bs, 0 ≤ b ∧ b ≤ 255) :
    Calls Try.prog 6 #[.agg #[.slice A xs.length c0, .slice B ys.length d0], .agg #[.slice C xs2.length c1, .slice D ys2.length d1], .slice E bs.length k0, .string s] w fun e w' => e = .returned (.bool true) ∧ Below w.heap.size w w' := by
  have hb1 : Below w.heap.size w ((w.alloc (.cells #[.slice A xs.length c0, .slice B ys.length d0] 26)).alloc (.cells #[.slice C xs2.length c1, .slice D ys2.length d1] 26)) := ((Below.refl w.heap.size w).alloc (Nat.le_refl _) _).alloc (by simp) _
  have hx1 := World.alloc_heap_new (w.alloc (.cells #[.slice A xs.length c0, .slice B ys.length d0] 26)) (.cells #[.slice C xs2.length c1, .slice D ys2.length d1] 26)
  rw [World.size_alloc] at hx1
  have hx0 := (World.alloc_heap_old' (w.alloc (.cells #[.slice A xs.length c0, .slice B ys.length d0] 26)) (.cells #[.slice C xs2.length c1, .slice D ys2.length d1] 26) (i := w.heap.size) (by simp)).trans (World.alloc_heap_new w _)
  have HB1 := Lib.hid hb1
  have HX0 := Lib.hid hx0
  have HX1 := Lib.hid hx1
  have HK : Hid (xs.length ≤ c0 ∧ ys.length ≤ d0 ∧ xs2.length ≤ c1 ∧ ys2.length ≤ d1 ∧ bs.length ≤ k0) := Lib.hid ⟨hc0, hd0, hc1, hd1, hk0⟩
  have HIN : Hid (∀ W, Below w.heap.size w W → (Kd.int .i64).C W A xs.length xs ∧ (Kd.int .i64).C W B ys.length ys ∧ (Kd.int .i64).C W C xs2.length xs2 ∧ (Kd.int .i64).C W D ys2.length ys2 ∧ (Kd.int .u8).C W E bs.length bs) :=
    Lib.hid (fun W hb => ⟨Kd.C_below hA hb, Kd.C_below hB hb, Kd.C_below hC hb, Kd.C_below hD hb, Kd.C_below hE hb⟩)
  have HG1 := Lib.hid (fun W (hb : Below w.heap.size w W) => great9s W A c0 xs B d0 ys (Kd.C_below hA hb) hc0 (Kd.C_below hB hb) hd0)
  have HG2 := Lib.hid (fun W (hb : Below w.heap.size w W) => great9s W C c1 xs2 D d1 ys2 (Kd.C_below hC hb) hc1 (Kd.C_below hD hb) hd1)
  have HBY := Lib.hid hby
  clear hb1 hx1 hx0 hA hB hC hD hE hc0 hd0 hc1 hd1 hk0 hby
  by_cases g1 : grG xs ys = 0
  case neg =>
    rw [grG_one g1] at HG1
    clear g1
    go_enter Try.func6, Try.ntmps6
    go_wp2_with (go_at_call 9; (with_reducible refine (HG1.out _ HB1.out).mono ?_); rintro e w2 ⟨rfl, hb⟩; have HB2 := Lib.hid (below_then HB1.out HB1.out.size hb); clear hb)
    go_ret
    exact ⟨rfl, HB2.out⟩
  case pos =>
  obtain ⟨gx, gy⟩ := grG_zero g1
  rw [g1] at HG1
  clear g1
  by_cases g2 : grG xs2 ys2 = 0
  case neg =>
    rw [grG_one g2] at HG2
    clear g2 gx gy
    go_enter Try.func6, Try.ntmps6
    go_wp2_with (first | (go_at_call 9; (with_reducible refine (HG1.out _ HB1.out).mono ?_); rintro e w2 ⟨rfl, hb⟩; have HB2 := Lib.hid (below_then HB1.out HB1.out.size hb); obtain ⟨q2, q3⟩ := pair_cells ((hb.block _ (blk_lt HX1.out)).trans HX1.out); clear hb) | (go_at_call 9; (with_reducible refine (HG2.out _ HB2.out).mono ?_); rintro e w3 ⟨rfl, hb⟩; have HB3 := Lib.hid (below_then HB2.out HB2.out.size hb); clear hb))
    go_ret
    exact ⟨rfl, HB3.out⟩
  case pos =>
  obtain ⟨gx2, gy2⟩ := grG_zero g2
  rw [g2] at HG2
  clear g2
  by_cases g3 : 100 < bs.length
  · have g3i : (100 : Int) < (bs.length : Int) := by omega
    clear g3 gx gy gx2 gy2
    go_enter Try.func6, Try.ntmps6
    go_wp2_with (first | (go_at_call 9; (with_reducible refine (HG1.out _ HB1.out).mono ?_); rintro e w2 ⟨rfl, hb⟩; have HB2 := Lib.hid (below_then HB1.out HB1.out.size hb); obtain ⟨q2, q3⟩ := pair_cells ((hb.block _ (blk_lt HX1.out)).trans HX1.out); clear hb) | (go_at_call 9; (with_reducible refine (HG2.out _ HB2.out).mono ?_); rintro e w3 ⟨rfl, hb⟩; have HB3 := Lib.hid (below_then HB2.out HB2.out.size hb); clear hb))
    go_ret
    exact ⟨rfl, HB3.out⟩
  have g3i : ¬ (100 : Int) < (bs.length : Int) := by omega
  by_cases g4 : 200 < s.size
  · have g4i : (200 : Int) < (s.size : Int) := by omega
    clear g3 g4 gx gy gx2 gy2
    go_enter Try.func6, Try.ntmps6
    go_wp2_with (first | (go_at_call 9; (with_reducible refine (HG1.out _ HB1.out).mono ?_); rintro e w2 ⟨rfl, hb⟩; have HB2 := Lib.hid (below_then HB1.out HB1.out.size hb); obtain ⟨q2, q3⟩ := pair_cells ((hb.block _ (blk_lt HX1.out)).trans HX1.out); clear hb) | (go_at_call 9; (with_reducible refine (HG2.out _ HB2.out).mono ?_); rintro e w3 ⟨rfl, hb⟩; have HB3 := Lib.hid (below_then HB2.out HB2.out.size hb); clear hb))
    go_ret
    exact ⟨rfl, HB3.out⟩
  have g4i : ¬ (200 : Int) < (s.size : Int) := by omega
  have hbl : bs.length < 140737488355328 := by omega
  have HL : Hid (xs.length ≤ 100 ∧ ys.length ≤ 100 ∧ xs2.length ≤ 100 ∧ ys2.length ≤ 100 ∧ bs.length ≤ 100 ∧ s.size ≤ 200) := Lib.hid ⟨gx, gy, gx2, gy2, by omega, by omega⟩
  clear g3 g4 gx gy gx2 gy2
  go_enter Try.func6, Try.ntmps6
  go_upto_region 3 with (first | (go_at_call 9; (with_reducible refine (HG1.out _ HB1.out).mono ?_); rintro e w2 ⟨rfl, hb⟩; have HB2 := Lib.hid (below_then HB1.out HB1.out.size hb); have HY0 := Lib.hid ((hb.block _ (blk_lt HX0.out)).trans HX0.out); have HY1 := Lib.hid ((hb.block _ (blk_lt HX1.out)).trans HX1.out); obtain ⟨q2, q3⟩ := pair_cells HY1.out; clear hb) | (go_at_call 9; (with_reducible refine (HG2.out _ HB2.out).mono ?_); rintro e w3 ⟨rfl, hb⟩; have HB3 := Lib.hid (below_then HB2.out HB2.out.size hb); have HZ0 := Lib.hid ((hb.block _ (blk_lt HY0.out)).trans HY0.out); have HZ1 := Lib.hid ((hb.block _ (blk_lt HY1.out)).trans HY1.out); clear hb))
  clear HG1 HG2 HB1 HB2 HX0 HX1 HY0 HY1 q2 q3
  obtain ⟨q0, q1⟩ := pair_cells HZ0.out
  go_upto_region 4 with (first | (go_at_call 29; (with_reducible refine (copy29 _ A c0 xs B d0 ys (HIN.out _ HB3.out).1 HK.out.1 (HIN.out _ HB3.out).2.1 HK.out.2.1 (by have := HL.out; omega) (by have := HL.out; omega)).mono ?_); rintro e w4 ⟨A2, c2, B2, d2, rfl, hA2, hc2, hB2, hd2, hb⟩; have HK2 := Lib.hid (And.intro hc2 hd2); have HB4 := Lib.hid (below_then HB3.out HB3.out.size hb); have HA4 := Lib.hid (And.intro hA2 hB2); have HS3 := Lib.hid hb; clear hA2 hc2 hB2 hd2 hb) | (go_at_call 10; (with_reducible refine (Twin_any E k0 bs _ (HIN.out _ HB4.out).2.2.2.2 HK.out.2.2.2.2 hbl).mono ?_); rintro e w5 ⟨v5, rfl, ho, hb⟩; obtain ⟨E2, k2, rfl⟩ := own_slice ho; have HO5 := Lib.hid ho; have HS4 := Lib.hid hb; have HB5 := Lib.hid (below_then HB4.out HB4.out.size hb); clear ho hb))
  have hsb : SB (w5.alloc (.cells #[.slice A2 xs.length c2, .slice B2 ys.length d2] 26)) w.heap.size (w.heap.size + 1) w5.heap.size A B C D A2 B2 E E2 c0 d0 c1 d1 c2 d2 xs ys xs2 ys2 bs := by
    have ba := below_alloc (Below.refl w5.heap.size w5) (.cells #[.slice A2 xs.length c2, .slice B2 ys.length d2] 26)
    have hb6 := below_then HB5.out HB5.out.size ba
    obtain ⟨i1, i2, i3, i4, i5⟩ := HIN.out _ hb6
    have b36 := below_then (below_then HS3.out HS3.out.size HS4.out) (below_then HS3.out HS3.out.size HS4.out).size ba
    exact ⟨i1, i2, i3, i4, Kd.C_below (Kd.C_below HA4.out.1 HS4.out) ba, Kd.C_below (Kd.C_below HA4.out.2 HS4.out) ba, i5, Kd.C_below (row_C HO5.out).2.2 ba, (b36.block _ (blk_lt HZ0.out)).trans HZ0.out, (b36.block _ (blk_lt HZ1.out)).trans HZ1.out, World.alloc_heap_new _ _⟩
  have HSB6 := Lib.hid hsb
  have HB6 := Lib.hid (below_then HB5.out HB5.out.size (below_alloc (Below.refl w5.heap.size w5) (.cells #[.slice A2 xs.length c2, .slice B2 ys.length d2] 26)))
  have HKR : Hid (bs.length ≤ k2) := Lib.hid (row_C HO5.out).2.1
  clear hsb HA4 HO5 HS3 HS4 HZ0 HZ1 HB3 HB4 HB5 HIN q0 q1
  generalize w5.alloc (.cells #[.slice A2 xs.length c2, .slice B2 ys.length d2] 26) = w6 at *
  generalize w5.heap.size = n9 at *
  have HE1 := Lib.hid (fun (W : World) (h1 : (Kd.int .i64).C W A2 xs.length xs) (h2 : (Kd.int .i64).C W B2 ys.length ys) => EncSig30_any W A2 B2 c2 d2 xs ys h1 h2 (by have := HL.out; omega) (by have := HL.out; omega))
  have HE2 := Lib.hid (fun (W : World) (h1 : (Kd.int .i64).C W A xs.length xs) (h2 : (Kd.int .i64).C W B ys.length ys) => encsig31 W A c0 xs B d0 ys h1 HK.out.1 h2 HK.out.2.1 (by have := HL.out; omega) (by have := HL.out; omega))
  generalize encG xs ys = EG at *
  obtain ⟨zs, er⟩ := EG
  simp only at HE1 HE2
  obtain ⟨q4, q5⟩ := pair_cells HSB6.out.x9
  go_upto_region 6 with (first | (go_at_call 30; (with_reducible refine (HE1.out _ HSB6.out.a2 HSB6.out.b2).mono ?_); rintro e w7 ⟨u7, rfl, hu, hb⟩; obtain ⟨A7, c7, rfl⟩ := own_slice hu; have HU7 := Lib.hid hu; have HSB7 := Lib.hid (HSB6.out.below hb); have HS7 := Lib.hid hb; have HB7 := Lib.hid (below_then HB6.out HB6.out.size hb); obtain ⟨q0, q1⟩ := pair_cells HSB7.out.x0; clear hu hb) | (go_at_call 31; (with_reducible refine (HE2.out _ HSB7.out.a HSB7.out.b).mono ?_); rintro e w8 ⟨u8, rfl, hu, hb⟩; obtain ⟨A8, c8, rfl⟩ := own_slice hu; have HV8 := Lib.hid (row_C hu).2.2; have HU8 := Lib.hid (pw_own_below HU7.out hb); have HSB8 := Lib.hid (HSB7.out.below hb); have HS8 := Lib.hid (below_then HS7.out HS7.out.size hb); have HB8 := Lib.hid (below_then HB7.out HB7.out.size hb); clear hu hb))
  clear q0 q1 q4 q5 HSB7 HU7 HS7 HB7 HE1 HE2
  go_upto_region 7 with (first | (go_at_call 13; (with_reducible refine (On_any E2 k2 bs _ HSB8.out.e2 (by have := HL.out; omega) HBY.out).mono ?_); rintro e w9 ⟨g, vg, rfl, hg, hr, hb⟩; have HG9 := Lib.hid hg; have HRe9 := Lib.hid hr; have HS9 := Lib.hid hb; clear hg hr hb) | (go_at_call 10; (with_reducible refine (Twin_any E k0 bs _ (Kd.C_below HSB8.out.e HS9.out) HK.out.2.2.2.2 hbl).mono ?_); rintro e w10 ⟨v7, rfl, ho, hb⟩; obtain ⟨A10, c10, rfl⟩ := own_slice ho; have HO10 := Lib.hid ho; have HRe10 := Lib.hid (HRe9.out.below hb); have HS10 := Lib.hid (below_then HS9.out HS9.out.size hb); clear ho hb))
  have hba := below_alloc (Below.refl w10.heap.size w10) (.cells #[.slice A10 bs.length c10, .int .i64 0] 37)
  have HRe11 := Lib.hid (HRe10.out.below hba)
  have HS11 := Lib.hid (below_then HS10.out HS10.out.size hba)
  have HRf11 : Hid (RefIs (w10.alloc (.cells #[.slice A10 bs.length c10, .int .i64 0] 37)) w10.heap.size w9.heap.size (.slice A10 bs.length c10) bs 0) := Lib.hid ⟨World.alloc_heap_new _ _, pw_own_below HO10.out hba, Nat.zero_le _, by omega, HBY.out⟩
  have HH11 : Hid (w8.heap.size ≤ w10.heap.size) := Lib.hid HS10.out.size
  clear hba HRe9 HRe10 HS9 HS10 HO10
  generalize w10.alloc (.cells #[.slice A10 bs.length c10, .int .i64 0] 37) = w11 at *
  generalize w10.heap.size = h at *
  have HD1 := Lib.hid (fun (W : World) (g base : Nat) (v : Value) (h : ReelIs W g base v bs 0) => DecSig32_any W g base v bs 0 h)
  have HD2 := Lib.hid (fun (W : World) (g base : Nat) (v : Value) (h : RefIs W g base v bs 0) => DecSig33_any W g base v bs 0 h hbl)
  have HDL := Lib.hid (decG_len bs 0)
  generalize decG bs 0 = DG at *
  obtain ⟨ps, qs, ed, kd⟩ := DG
  simp only at HD1 HD2 HDL
  go_upto_region 8 with (go_at_call 32; (with_reducible refine (HD1.out _ _ _ _ HRe11.out).mono ?_); rintro e w12 ⟨u1, u2, p1, rfl, hu1, hu2, hr, hp, hf⟩; obtain ⟨A11, c11, rfl⟩ := own_slice hu1; obtain ⟨A12, c12, rfl⟩ := own_slice hu2; have HU11 := Lib.hid hu1; have HU12 := Lib.hid hu2; have HRe12 := Lib.hid hr; have HP1 := Lib.hid hp; have HRf12 := Lib.hid (ref_after HRe11.out HRf11.out hf); have HS12 := Lib.hid (HS11.out.trans (hf.below HS11.out.size (fun i hi e => by subst e; exact absurd HG9.out (Nat.not_le.2 hi)))); clear hu1 hu2 hr hp hf)
  have hba := below_alloc (Below.refl w12.heap.size w12) (.cells #[.slice A11 ps.length c11, .slice A12 qs.length c12] 26)
  have HX13 := Lib.hid (World.alloc_heap_new w12 (.cells #[.slice A11 ps.length c11, .slice A12 qs.length c12] 26))
  have HU13 := Lib.hid (pw_own_below HU11.out hba)
  have HV13 := Lib.hid (pw_own_below HU12.out hba)
  have HRe13 := Lib.hid (HRe12.out.below hba)
  have HRf13 := Lib.hid (HRf12.out.below hba)
  have HS13 := Lib.hid (below_then HS12.out HS12.out.size hba)
  have HN13 : Hid (h < w12.heap.size) := Lib.hid (blk_lt HRf12.out.blk)
  have HN11 : Hid (h < w11.heap.size) := Lib.hid (blk_lt HRf11.out.blk)
  clear hba HU11 HU12 HRe12 HRf12 HS12 HRe11 HRf11 HS11 HD1
  generalize w12.alloc (.cells #[.slice A11 ps.length c11, .slice A12 qs.length c12] 26) = w13 at *
  generalize w12.heap.size = n17 at *
  go_upto_region 9 with (go_at_call 33; (with_reducible refine (HD2.out _ _ _ _ HRf13.out).mono ?_); rintro e w14 ⟨u1, u2, p2, rfl, hu1, hu2, hr, hp, hf⟩; obtain ⟨A13, c13, rfl⟩ := own_slice hu1; obtain ⟨A14, c14, rfl⟩ := own_slice hu2; have HU14 := Lib.hid hu1; have HV14 := Lib.hid hu2; have HRf14 := Lib.hid hr; have HP2 := Lib.hid hp; have HRe14 := Lib.hid (reel_after HRe13.out HRf13.out hf); have HF14 := Lib.hid hf; have HS14 := Lib.hid (HS13.out.trans (hf.below HS13.out.size (fun i hi e => by subst e; exact absurd HH11.out (Nat.not_le.2 hi)))); clear hu1 hu2 hr hp hf)
  have hba := below_alloc (Below.refl w14.heap.size w14) (.cells #[.slice A13 ps.length c13, .slice A14 qs.length c14] 26)
  have hne : ∀ b, w11.heap.size ≤ b → ¬ b = h := fun b hb e => absurd hb (by rw [e]; exact Nat.not_le.2 HN11.out)
  have hu13 := pw_own_below (own_fr HU13.out HF14.out (fun b hb => hne b (World.ownsRow.lt HU13.out b hb).1)) hba
  have hv13 := pw_own_below (own_fr HV13.out HF14.out (fun b hb => hne b (World.ownsRow.lt HV13.out b hb).1)) hba
  have hx13 := (hba.block n17 (by exact Nat.lt_of_lt_of_le (blk_lt HX13.out) HF14.out.size)).trans ((HF14.out.block n17 (blk_lt HX13.out) (fun e => by have := HN13.out; omega)).trans HX13.out)
  have hu14 := pw_own_below HU14.out hba
  have hv14 := pw_own_below HV14.out hba
  have HSG15 : Hid (SG (w14.alloc (.cells #[.slice A13 ps.length c13, .slice A14 qs.length c14] 26)) n17 w14.heap.size A11 A12 A13 A14 c11 c12 c13 c14 ps qs) :=
    Lib.hid ⟨(own_CI hu13).2.2, (own_CI hv13).2.2, (own_CI hu14).2.2, (own_CI hv14).2.2, hx13, World.alloc_heap_new _ _, (own_CI hu13).2.1, (own_CI hv13).2.1, (own_CI hu14).2.1, (own_CI hv14).2.1⟩
  have HRe15 := Lib.hid (HRe14.out.below hba)
  have HRf15 := Lib.hid (HRf14.out.below hba)
  have HS15 := Lib.hid (below_then HS14.out HS14.out.size hba)
  clear hba hne hu13 hv13 hx13 hu14 hv14 HU13 HV13 HU14 HV14 HX13 HRe13 HRf13 HRe14 HRf14 HS13 HS14 HF14 HN11 HN13 HD2 HG9 HH11
  generalize w14.alloc (.cells #[.slice A13 ps.length c13, .slice A14 qs.length c14] 26) = w15 at *
  generalize w14.heap.size = n19 at *
  have HSB15 := Lib.hid (HSB8.out.below HS15.out)
  have HU15 := Lib.hid (pw_own_below HU8.out HS15.out)
  have HZZ15 : Hid (Two8 w15 A7 A8 zs) := Lib.hid ⟨(row_C HU15.out).2.2, Kd.C_below HV8.out HS15.out⟩
  have HT15 := Lib.hid (below_then HS8.out HS8.out.size HS15.out)
  clear HSB8 HU8 HV8 HB8 HS15 HS8
  have HR1 := Lib.hid (fun W => ReadSig34_any W s (by have := HL.out; omega))
  have HR2 := Lib.hid (fun W => read35 W s (by have := HL.out; omega))
  have HRL := Lib.hid (readG_len s.data.toList)
  generalize readG s.data.toList = RG at *
  obtain ⟨rs, ts, et⟩ := RG
  simp only at HR1 HR2 HRL
  go_upto_region 10 with (go_at_call 34; (with_reducible refine (HR1.out _).mono ?_); rintro e w16 ⟨u1, u2, rfl, hu1, hu2, hb⟩; obtain ⟨A15, c15, rfl⟩ := own_slice hu1; obtain ⟨A16, c16, rfl⟩ := own_slice hu2; have HU16 := Lib.hid hu1; have HV16 := Lib.hid hu2; have HN16 := Lib.hid hb; clear hu1 hu2 hb)
  have hba := below_alloc (Below.refl w16.heap.size w16) (.cells #[.slice A15 rs.length c15, .slice A16 ts.length c16] 26)
  have hbb := below_then HN16.out HN16.out.size hba
  have HX17 := Lib.hid (World.alloc_heap_new w16 (.cells #[.slice A15 rs.length c15, .slice A16 ts.length c16] 26))
  have HU17 := Lib.hid (pw_own_below HU16.out hba)
  have HV17 := Lib.hid (pw_own_below HV16.out hba)
  have HSG17 := Lib.hid (HSG15.out.below hbb)
  have HRe17 := Lib.hid (HRe15.out.below hbb)
  have HRf17 := Lib.hid (HRf15.out.below hbb)
  have HSB17 := Lib.hid (HSB15.out.below hbb)
  have HZZ17 := Lib.hid (HZZ15.out.below hbb)
  have HY17 := Lib.hid (pw_own_below HU15.out hbb)
  have HT17 := Lib.hid (below_then HT15.out HT15.out.size hbb)
  clear hba hbb HU16 HV16 HN16 HSG15 HRe15 HRf15 HSB15 HZZ15 HU15 HT15 HR1
  generalize w16.alloc (.cells #[.slice A15 rs.length c15, .slice A16 ts.length c16] 26) = w17 at *
  generalize w16.heap.size = n21 at *
  go_upto_region 11 with (go_at_call 35; (with_reducible refine (HR2.out _).mono ?_); rintro e w18 ⟨u1, u2, rfl, hu1, hu2, hb⟩; obtain ⟨A17, c17, rfl⟩ := own_slice hu1; obtain ⟨A18, c18, rfl⟩ := own_slice hu2; have HU18 := Lib.hid hu1; have HV18 := Lib.hid hu2; have HN18 := Lib.hid hb; clear hu1 hu2 hb)
  have hba := below_alloc (Below.refl w18.heap.size w18) (.cells #[.slice A17 rs.length c17, .slice A18 ts.length c18] 26)
  have hbb := below_then HN18.out HN18.out.size hba
  have hu17 := pw_own_below HU17.out hbb
  have hv17 := pw_own_below HV17.out hbb
  have hu18 := pw_own_below HU18.out hba
  have hv18 := pw_own_below HV18.out hba
  have HSH19 : Hid (SG (w18.alloc (.cells #[.slice A17 rs.length c17, .slice A18 ts.length c18] 26)) n21 w18.heap.size A15 A16 A17 A18 c15 c16 c17 c18 rs ts) :=
    Lib.hid ⟨(own_CI hu17).2.2, (own_CI hv17).2.2, (own_CI hu18).2.2, (own_CI hv18).2.2, (hbb.block _ (blk_lt HX17.out)).trans HX17.out, World.alloc_heap_new _ _, (own_CI hu17).2.1, (own_CI hv17).2.1, (own_CI hu18).2.1, (own_CI hv18).2.1⟩
  have HSG19 := Lib.hid (HSG17.out.below hbb)
  have HRe19 := Lib.hid (HRe17.out.below hbb)
  have HRf19 := Lib.hid (HRf17.out.below hbb)
  have HSB19 := Lib.hid (HSB17.out.below hbb)
  have HZZ19 := Lib.hid (HZZ17.out.below hbb)
  have HY19 := Lib.hid (pw_own_below HY17.out hbb)
  have HT19 := Lib.hid (below_then HT17.out HT17.out.size hbb)
  clear hba hbb hu17 hv17 hu18 hv18 HX17 HU17 HV17 HU18 HV18 HN18 HSG17 HRe17 HRf17 HSB17 HZZ17 HY17 HT17 HR2
  generalize w18.alloc (.cells #[.slice A17 rs.length c17, .slice A18 ts.length c18] 26) = w19 at *
  generalize w18.heap.size = n23 at *
  have HPP : Hid (ed = 0 → p1 = p2) := Lib.hid (fun e => (HP1.out e).trans (HP2.out e).symm)
  have HX := Lib.hid (fun (W : World) (hb : Below w19.heap.size w19 W) => (⟨(HZZ19.out.below hb), (HSG19.out.below hb), (HSH19.out.below hb), (HRe19.out.below hb), (HRf19.out.below hb)⟩ : Two8 W A7 A8 zs ∧ SG W n17 n19 A11 A12 A13 A14 c11 c12 c13 c14 ps qs ∧ SG W n21 n23 A15 A16 A17 A18 c15 c16 c17 c18 rs ts ∧ ReelIs W g w8.heap.size vg bs p1 ∧ RefIs W h w9.heap.size (.slice A10 bs.length c10) bs p2))
  have HQ := Lib.hid (fun (W : World) (hb : Below w19.heap.size w19 W) => (⟨string_read (HX.out W hb).1.a, string_read (HX.out W hb).1.b, (pair_cells (HX.out W hb).2.1.x).1, (pair_cells (HX.out W hb).2.1.x).2, (pair_cells (HX.out W hb).2.1.x2).1, (pair_cells (HX.out W hb).2.1.x2).2, (pair_cells (HX.out W hb).2.2.1.x).1, (pair_cells (HX.out W hb).2.2.1.x).2, (pair_cells (HX.out W hb).2.2.1.x2).1, (pair_cells (HX.out W hb).2.2.1.x2).2, (HX.out W hb).2.2.2.2.cells.2⟩ :
    (convert 23 9 (.slice A7 zs.length c7)).run Try.prog W = .ok (.string (strOfNums zs)) W ∧ (convert 23 9 (.slice A8 zs.length c8)).run Try.prog W = .ok (.string (strOfNums zs)) W ∧ W.cell? ⟨n17, 0, none⟩ = some (.slice A11 ps.length c11) ∧ W.cell? ⟨n17, 1, none⟩ = some (.slice A12 qs.length c12) ∧ W.cell? ⟨n19, 0, none⟩ = some (.slice A13 ps.length c13) ∧ W.cell? ⟨n19, 1, none⟩ = some (.slice A14 qs.length c14) ∧ W.cell? ⟨n21, 0, none⟩ = some (.slice A15 rs.length c15) ∧ W.cell? ⟨n21, 1, none⟩ = some (.slice A16 ts.length c16) ∧ W.cell? ⟨n23, 0, none⟩ = some (.slice A17 rs.length c17) ∧ W.cell? ⟨n23, 1, none⟩ = some (.slice A18 ts.length c18) ∧ W.cell? ⟨h, 1, none⟩ = some (.int .i64 p2)))
  have HW := Lib.hid (Below.refl w19.heap.size w19)
  clear HZZ19 HSG19 HSH19 HRe19 HRf19 HP1 HP2
  obtain ⟨y0, y1, y2, y3, y4, y5, y6, y7, y8, y9, y10⟩ := HQ.out _ HW.out
  have hI1 := Lib.hid (fun (W : World) (hb : Below w19.heap.size w19 W) => same36t W A11 A12 A13 A14 c11 c12 c13 c14 ps qs (HX.out W hb).2.1.a (HX.out W hb).2.1.k.1 (HX.out W hb).2.1.b (HX.out W hb).2.1.k.2.1 (HX.out W hb).2.1.a2 (HX.out W hb).2.1.k.2.2.1 (HX.out W hb).2.1.b2 (HX.out W hb).2.1.k.2.2.2 (by have := HDL.out; omega) (by have := HDL.out; omega))
  have hI2 := Lib.hid (fun (W : World) (hb : Below w19.heap.size w19 W) => same36t W A15 A16 A17 A18 c15 c16 c17 c18 rs ts (HX.out W hb).2.2.1.a (HX.out W hb).2.2.1.k.1 (HX.out W hb).2.2.1.b (HX.out W hb).2.2.1.k.2.1 (HX.out W hb).2.2.1.a2 (HX.out W hb).2.2.1.k.2.2.1 (HX.out W hb).2.2.1.b2 (HX.out W hb).2.2.1.k.2.2.2 (by have := HRL.out; omega) (by have := HRL.out; omega))
  have hI3 := Lib.hid (fun (W : World) (hb : Below w19.heap.size w19 W) => At_any W g _ _ _ _ (HX.out W hb).2.2.2.1)
  by_cases he : ed = 0
  · subst he
    have hpp := HPP.out rfl
    subst hpp
    go_region_held3 (fun W => (convert 23 9 (.slice A7 zs.length c7)).run Try.prog W = .ok (.string (strOfNums zs)) W ∧ (convert 23 9 (.slice A8 zs.length c8)).run Try.prog W = .ok (.string (strOfNums zs)) W ∧ W.cell? ⟨n17, 0, none⟩ = some (.slice A11 ps.length c11) ∧ W.cell? ⟨n17, 1, none⟩ = some (.slice A12 qs.length c12) ∧ W.cell? ⟨n19, 0, none⟩ = some (.slice A13 ps.length c13) ∧ W.cell? ⟨n19, 1, none⟩ = some (.slice A14 qs.length c14) ∧ W.cell? ⟨n21, 0, none⟩ = some (.slice A15 rs.length c15) ∧ W.cell? ⟨n21, 1, none⟩ = some (.slice A16 ts.length c16) ∧ W.cell? ⟨n23, 0, none⟩ = some (.slice A17 rs.length c17) ∧ W.cell? ⟨n23, 1, none⟩ = some (.slice A18 ts.length c18) ∧ W.cell? ⟨h, 1, none⟩ = some (.int .i64 p1)) ((refine HQ.out _ ?_; repeat (first | exact HW.out | apply below_drew | apply below_alloc)))
      ((first | (go_at_call 36; (with_reducible refine (hI1.out _ (by repeat (first | exact HW.out | apply below_drew | apply below_alloc))).mono ?_); rintro e w_ ⟨rfl, hb_⟩; have HW_ := Lib.hid (below_step (by repeat (first | exact HW.out | apply below_drew | apply below_alloc)) hb_); clear HW; have HW := HW_; clear HW_ hb_) | (go_at_call 36; (with_reducible refine (hI2.out _ (by repeat (first | exact HW.out | apply below_drew | apply below_alloc))).mono ?_); rintro e w_ ⟨rfl, hb_⟩; have HW_ := Lib.hid (below_step (by repeat (first | exact HW.out | apply below_drew | apply below_alloc)) hb_); clear HW; have HW := HW_; clear HW_ hb_) | (go_at_call 21; (with_reducible refine (hI3.out _ (by repeat (first | exact HW.out | apply below_drew | apply below_alloc))).mono ?_); rintro e w_ ⟨rfl, rfl⟩)))
    have HY20 := Lib.hid (pw_own_below HY19.out HW.out)
    have HT20 := Lib.hid (below_then HT19.out HT19.out.size HW.out)
    have hzl : zs.length ≤ 9223372036854775807 := (row_C HY20.out).2.2.2.1
    clear HX HQ hI1 hI2 hI3 HY19 HT19 HSB19 HW HPP
    (try clear y0 y1 y2 y3 y4 y5 y6 y7 y8 y9 y10)
    generalize w_ = w20 at *
    go_wp2
    go_loopw [131] (fun i W => ∃ (j : Nat) (vs : List Int), i = .int .i64 j ∧ j ≤ zs.length ∧ vs.length = zs.length ∧ Aside0 (W.ownsRow w6.heap.size 5 1 (.slice A7 zs.length c7) vs.length (nums .u8 vs)) ∧ Aside0 (Below w6.heap.size w6 W)) (fun i _ => zs.length - (intOf i).toNat)
    case atStart => exact ⟨0, zs, rfl, Nat.zero_le _, rfl, Aside0.mk HY20.out, Aside0.mk HT20.out⟩
    case round =>
      clear HY20 HT20
      obtain ⟨j, vs, rfl, hj, hvs, HV, HT⟩ := hrel
      by_cases hjl : j < zs.length
      · have hjl' : ((j : Int) < ((zs.length : Nat) : Int)) := by omega
        obtain ⟨g6, hA6, _, hg6, hcl, hfr⟩ := u8_at HV.out j (by omega)
        obtain rfl := hA6
        have HVS := Lib.hid hvs
        generalize vs.getD j 0 = z at *
        clear hvs
        go_wp2
        go_roundw
        case rel =>
          have ho : wr.ownsRow w6.heap.size 5 1 (.slice (some ⟨g6, 0, none⟩) vs.length c7) vs.length (nums .u8 vs) := by
            have h := HV.out
            rw [HVS.out] at h ⊢
            exact h
          have h2 := own_put ho j ((z + 1) % 256)
          rw [Int.toNat_natCast, HVS.out] at h2
          exact ⟨j + 1, vs.set j ((z + 1) % 256), by go_num, by omega, by rw [List.length_set]; exact HVS.out, Aside0.mk h2, Aside0.mk (HT.out.setCell hg6 _)⟩
        case measure => simp [intOf]; omega
      · obtain rfl : j = zs.length := by omega
        have hjl' : ¬ (((zs.length : Nat) : Int) < ((zs.length : Nat) : Int)) := by omega
        have HX := Lib.hid (fun (W : World) (hb : Below wr.heap.size wr W) => (HSB6.out.below (below_then HT.out HT.out.size hb)))
        have HQ := Lib.hid (fun (W : World) (hb : Below wr.heap.size wr W) => (⟨string_read (HX.out W hb).e2, string_read (HX.out W hb).e, (pair_cells (HX.out W hb).x0).1, (pair_cells (HX.out W hb).x0).2, (pair_cells (HX.out W hb).x1).1, (pair_cells (HX.out W hb).x1).2, (pair_cells (HX.out W hb).x9).1, (pair_cells (HX.out W hb).x9).2⟩ :
          (convert 23 9 (.slice E2 bs.length k2)).run Try.prog W = .ok (.string (strOfNums bs)) W ∧ (convert 23 9 (.slice E bs.length k0)).run Try.prog W = .ok (.string (strOfNums bs)) W ∧ W.cell? ⟨w.heap.size, 0, none⟩ = some (.slice A xs.length c0) ∧ W.cell? ⟨w.heap.size, 1, none⟩ = some (.slice B ys.length d0) ∧ W.cell? ⟨w.heap.size + 1, 0, none⟩ = some (.slice C xs2.length c1) ∧ W.cell? ⟨w.heap.size + 1, 1, none⟩ = some (.slice D ys2.length d1) ∧ W.cell? ⟨n9, 0, none⟩ = some (.slice A2 xs.length c2) ∧ W.cell? ⟨n9, 1, none⟩ = some (.slice B2 ys.length d2)))
        have HW := Lib.hid (Below.refl wr.heap.size wr)
        have hF1 := Lib.hid (fun (W : World) (hb : Below wr.heap.size wr W) => cs27 W A2 c2 xs B2 d2 ys (HX.out W hb).a2 HK2.out.1 (HX.out W hb).b2 HK2.out.2 (by have := HL.out; omega) (by have := HL.out; omega))
        have hF2 := Lib.hid (fun (W : World) (hb : Below wr.heap.size wr W) => cs37 W A c0 xs B d0 ys (HX.out W hb).a HK.out.1 (HX.out W hb).b HK.out.2.1 (by have := HL.out; omega) (by have := HL.out; omega))
        have hF3 := Lib.hid (fun (W : World) (hb : Below wr.heap.size wr W) => ShowSig38_any W A2 B2 c2 d2 xs ys (HX.out W hb).a2 (HX.out W hb).b2 (by have := HL.out; omega) (by have := HL.out; omega))
        have hF4 := Lib.hid (fun (W : World) (hb : Below wr.heap.size wr W) => showsig39 W A c0 xs B d0 ys (HX.out W hb).a HK.out.1 (HX.out W hb).b HK.out.2.1 (by have := HL.out; omega) (by have := HL.out; omega))
        have hF5 := Lib.hid (fun (W : World) (hb : Below wr.heap.size wr W) => Same28_any W A2 B2 C D c2 d2 c1 d1 xs ys xs2 ys2 (HX.out W hb).a2 (HX.out W hb).b2 (HX.out W hb).c (HX.out W hb).d)
        have hF6 := Lib.hid (fun (W : World) (hb : Below wr.heap.size wr W) => same36 W A B C D c0 d0 c1 d1 xs ys xs2 ys2 (HX.out W hb).a HK.out.1 (HX.out W hb).b HK.out.2.1 (HX.out W hb).c HK.out.2.2.1 (HX.out W hb).d HK.out.2.2.2.1 (by have := HL.out; omega) (by have := HL.out; omega))
        have hF7 := Lib.hid (fun (W : World) (hb : Below wr.heap.size wr W) => same36t W A2 B2 A B c2 d2 c0 d0 xs ys (HX.out W hb).a2 HK2.out.1 (HX.out W hb).b2 HK2.out.2 (HX.out W hb).a HK.out.1 (HX.out W hb).b HK.out.2.1 (by have := HL.out; omega) (by have := HL.out; omega))
        generalize chkG xs ys = ck at *
        generalize showG xs ys = sg at *
        generalize (decide (xs = xs2) && decide (ys = ys2)) = tb at *
        have HT2 := Lib.hid (below_then HB6.out HB6.out.size HT.out)
        clear hj hvs hjl HV
        obtain ⟨z0, z1, z2, z3, z4, z5, z6, z7⟩ := HQ.out _ HW.out
        go_wp2
        go_region_held3 (fun W => (convert 23 9 (.slice E2 bs.length k2)).run Try.prog W = .ok (.string (strOfNums bs)) W ∧ (convert 23 9 (.slice E bs.length k0)).run Try.prog W = .ok (.string (strOfNums bs)) W ∧ W.cell? ⟨w.heap.size, 0, none⟩ = some (.slice A xs.length c0) ∧ W.cell? ⟨w.heap.size, 1, none⟩ = some (.slice B ys.length d0) ∧ W.cell? ⟨w.heap.size + 1, 0, none⟩ = some (.slice C xs2.length c1) ∧ W.cell? ⟨w.heap.size + 1, 1, none⟩ = some (.slice D ys2.length d1) ∧ W.cell? ⟨n9, 0, none⟩ = some (.slice A2 xs.length c2) ∧ W.cell? ⟨n9, 1, none⟩ = some (.slice B2 ys.length d2)) ((refine HQ.out _ ?_; repeat (first | exact HW.out | apply below_drew | apply below_alloc)))
          (((first | (go_at_call 27; (with_reducible refine (hF1.out _ (by repeat (first | exact HW.out | apply below_drew | apply below_alloc))).mono ?_)) | (go_at_call 37; (with_reducible refine (hF2.out _ (by repeat (first | exact HW.out | apply below_drew | apply below_alloc))).mono ?_)) | (go_at_call 38; (with_reducible refine (hF3.out _ (by repeat (first | exact HW.out | apply below_drew | apply below_alloc))).mono ?_)) | (go_at_call 39; (with_reducible refine (hF4.out _ (by repeat (first | exact HW.out | apply below_drew | apply below_alloc))).mono ?_)) | (go_at_call 28; (with_reducible refine (hF5.out _ (by repeat (first | exact HW.out | apply below_drew | apply below_alloc))).mono ?_)) | (go_at_call 36; (with_reducible refine (hF6.out _ (by repeat (first | exact HW.out | apply below_drew | apply below_alloc))).mono ?_)) | (go_at_call 36; (with_reducible refine (hF7.out _ (by repeat (first | exact HW.out | apply below_drew | apply below_alloc))).mono ?_))); rintro e w_ ⟨rfl, hb_⟩; have HW_ := Lib.hid (below_step (by repeat (first | exact HW.out | apply below_drew | apply below_alloc)) hb_); clear HW; have HW := HW_; clear HW_ hb_))
        all_goals
          go_wp2
          go_ret
          exact ⟨rfl, below_then HT2.out HT2.out.size (by repeat (first | exact HW.out | apply below_drew | apply below_alloc))⟩
  · have he1 : (ed == 0) = false := by rw [beq_eq_false_iff_ne]; exact he
    have he2 : decide (ed = 0) = false := decide_eq_false he
    clear he
    -- region 11: 45 operations: 0:move 1:convert 2:move 3:convert 4:binOp 5:move 6:move 7:move 8:binOp 9:pick 10:move 11:load 12:load 13:call 14:unOp 15:pick 16:move 17:move 18:move 19:binOp 20:pick 21:move 22:move 23:binOp 24:move 25:move 26:call 27:move 28:nilCheck 29:fieldAddr 30:load 31:binOp 32:pick 33:pick 34:move 35:load 36:load 37:call 38:unOp 39:pick 40:move 41:move 42:move 43:binOp 44:pick
    refine start_ (S := (fun W => (convert 23 9 (.slice A7 zs.length c7)).run Try.prog W = .ok (.string (strOfNums zs)) W ∧ (convert 23 9 (.slice A8 zs.length c8)).run Try.prog W = .ok (.string (strOfNums zs)) W ∧ W.cell? ⟨n17, 0, none⟩ = some (.slice A11 ps.length c11) ∧ W.cell? ⟨n17, 1, none⟩ = some (.slice A12 qs.length c12) ∧ W.cell? ⟨n19, 0, none⟩ = some (.slice A13 ps.length c13) ∧ W.cell? ⟨n19, 1, none⟩ = some (.slice A14 qs.length c14) ∧ W.cell? ⟨n21, 0, none⟩ = some (.slice A15 rs.length c15) ∧ W.cell? ⟨n21, 1, none⟩ = some (.slice A16 ts.length c16) ∧ W.cell? ⟨n23, 0, none⟩ = some (.slice A17 rs.length c17) ∧ W.cell? ⟨n23, 1, none⟩ = some (.slice A18 ts.length c18) ∧ W.cell? ⟨h, 1, none⟩ = some (.int .i64 p2))) (ds := []) #[false, false, false, false, false, false, false, false, false, false, false, false, false, false, false, false, false, false, false, false, false, false, false, false, false, false, false, false, false, false, false, false, false, false, false, false, false, false, false, false, false, false, false, false, false] (by kernel_rfl) rfl rfl (HQ.out _ (below_drew HW.out)) (fun hHeld => ?_)
    refine pure_ (i := 0) (N := some 84) (v := ?_) (a' := ?_) #[true, false, false, false, false, false, false, false, false, false, false, false, false, false, false, false, false, false, false, false, false, false, false, false, false, false, false, false, false, false, false, false, false, false, false, false, false, false, false, false, false, false, false, false, false] rfl rfl (by kernel_rfl) (fun _ _ _ h => h) (Or.inl ⟨by rfl, ?_⟩) ?_ ?_
    rotate_left
    · intro w'
      go_simp
      with_reducible rfl
    rotate_left
    · simp only [Act.put, List.setIfInBounds_toArray, List.set_cons_zero, List.set_cons_succ]
      rfl
    refine pure_ (i := 2) (N := some 86) (v := ?_) (a' := ?_) #[true, false, true, false, false, false, false, false, false, false, false, false, false, false, false, false, false, false, false, false, false, false, false, false, false, false, false, false, false, false, false, false, false, false, false, false, false, false, false, false, false, false, false, false, false] rfl rfl (by kernel_rfl) (fun _ _ _ h => h) (Or.inl ⟨by rfl, ?_⟩) ?_ ?_
    rotate_left
    · intro w'
      go_simp
      with_reducible rfl
    rotate_left
    · simp only [Act.put, List.setIfInBounds_toArray, List.set_cons_zero, List.set_cons_succ]
      rfl
    refine take_ (i := 1) (N := some 85) (v := ?_) (a' := ?_) #[true, true, true, false, false, false, false, false, false, false, false, false, false, false, false, false, false, false, false, false, false, false, false, false, false, false, false, false, false, false, false, false, false, false, false, false, false, false, false, false, false, false, false, false, false] rfl rfl (by kernel_rfl) (fun _ _ _ h => h) (Or.inl ⟨by rfl, ?_⟩) hHeld ?_ ?_
    rotate_left
    · rintro w' ⟨z0, z1, z2, z3, z4, z5, z6, z7, z8, z9, z10⟩
      go_simp
      with_reducible rfl
    rotate_left
    · simp only [Act.put, List.setIfInBounds_toArray, List.set_cons_zero, List.set_cons_succ]
      rfl
    refine take_ (i := 3) (N := some 87) (v := ?_) (a' := ?_) #[true, true, true, true, false, false, false, false, false, false, false, false, false, false, false, false, false, false, false, false, false, false, false, false, false, false, false, false, false, false, false, false, false, false, false, false, false, false, false, false, false, false, false, false, false] rfl rfl (by kernel_rfl) (fun _ _ _ h => h) (Or.inl ⟨by rfl, ?_⟩) hHeld ?_ ?_
    rotate_left
    · rintro w' ⟨z0, z1, z2, z3, z4, z5, z6, z7, z8, z9, z10⟩
      go_simp
      with_reducible rfl
    rotate_left
    · simp only [Act.put, List.setIfInBounds_toArray, List.set_cons_zero, List.set_cons_succ]
      rfl
    refine pure_ (i := 4) (N := some 88) (v := ?_) (a' := ?_) #[true, true, true, true, true, false, false, false, false, false, false, false, false, false, false, false, false, false, false, false, false, false, false, false, false, false, false, false, false, false, false, false, false, false, false, false, false, false, false, false, false, false, false, false, false] rfl rfl (by kernel_rfl) (fun _ _ _ h => h) (Or.inl ⟨by rfl, ?_⟩) ?_ ?_
    rotate_left
    · intro w'
      go_simp
      with_reducible rfl
    rotate_left
    · simp only [Act.put, List.setIfInBounds_toArray, List.set_cons_zero, List.set_cons_succ]
      rfl
    refine pure_ (i := 5) (N := some 89) (v := ?_) (a' := ?_) #[true, true, true, true, true, true, false, false, false, false, false, false, false, false, false, false, false, false, false, false, false, false, false, false, false, false, false, false, false, false, false, false, false, false, false, false, false, false, false, false, false, false, false, false, false] rfl rfl (by kernel_rfl) (fun _ _ _ h => h) (Or.inl ⟨by rfl, ?_⟩) ?_ ?_
    rotate_left
    · intro w'
      go_simp
      with_reducible rfl
    rotate_left
    · simp only [Act.put, List.setIfInBounds_toArray, List.set_cons_zero, List.set_cons_succ]
      rfl
    refine pure_ (i := 6) (N := some 90) (v := ?_) (a' := ?_) #[true, true, true, true, true, true, true, false, false, false, false, false, false, false, false, false, false, false, false, false, false, false, false, false, false, false, false, false, false, false, false, false, false, false, false, false, false, false, false, false, false, false, false, false, false] rfl rfl (by kernel_rfl) (fun _ _ _ h => h) (Or.inl ⟨by rfl, ?_⟩) ?_ ?_
    rotate_left
    · intro w'
      go_simp
      with_reducible rfl
    rotate_left
    · simp only [Act.put, List.setIfInBounds_toArray, List.set_cons_zero, List.set_cons_succ]
      rfl
    refine pure_ (i := 7) (N := some 91) (v := ?_) (a' := ?_) #[true, true, true, true, true, true, true, true, false, false, false, false, false, false, false, false, false, false, false, false, false, false, false, false, false, false, false, false, false, false, false, false, false, false, false, false, false, false, false, false, false, false, false, false, false] rfl rfl (by kernel_rfl) (fun _ _ _ h => h) (Or.inl ⟨by rfl, ?_⟩) ?_ ?_
    rotate_left
    · intro w'
      go_simp
      with_reducible rfl
    rotate_left
    · simp only [Act.put, List.setIfInBounds_toArray, List.set_cons_zero, List.set_cons_succ]
      rfl
    refine pure_ (i := 8) (N := some 92) (v := ?_) (a' := ?_) #[true, true, true, true, true, true, true, true, true, false, false, false, false, false, false, false, false, false, false, false, false, false, false, false, false, false, false, false, false, false, false, false, false, false, false, false, false, false, false, false, false, false, false, false, false] rfl rfl (by kernel_rfl) (fun _ _ _ h => h) (Or.inl ⟨by rfl, ?_⟩) ?_ ?_
    rotate_left
    · intro w'
      go_simp
      with_reducible rfl
    rotate_left
    · simp only [Act.put, List.setIfInBounds_toArray, List.set_cons_zero, List.set_cons_succ]
      rfl
    refine pure_ (i := 9) (N := some 93) (v := ?_) (a' := ?_) #[true, true, true, true, true, true, true, true, true, true, false, false, false, false, false, false, false, false, false, false, false, false, false, false, false, false, false, false, false, false, false, false, false, false, false, false, false, false, false, false, false, false, false, false, false] rfl rfl (by kernel_rfl) (fun _ _ _ h => h) (Or.inl ⟨by rfl, ?_⟩) ?_ ?_
    rotate_left
    · intro w'
      go_simp
      with_reducible rfl
    rotate_left
    · simp only [Act.put, List.setIfInBounds_toArray, List.set_cons_zero, List.set_cons_succ]
      rfl
    refine pure_ (i := 10) (N := some 94) (v := ?_) (a' := ?_) #[true, true, true, true, true, true, true, true, true, true, true, false, false, false, false, false, false, false, false, false, false, false, false, false, false, false, false, false, false, false, false, false, false, false, false, false, false, false, false, false, false, false, false, false, false] rfl rfl (by kernel_rfl) (fun _ _ _ h => h) (Or.inl ⟨by rfl, ?_⟩) ?_ ?_
    rotate_left
    · intro w'
      go_simp
      with_reducible rfl
    rotate_left
    · simp only [Act.put, List.setIfInBounds_toArray, List.set_cons_zero, List.set_cons_succ]
      rfl
    refine take_ (i := 11) (N := some 95) (v := ?_) (a' := ?_) #[true, true, true, true, true, true, true, true, true, true, true, true, false, false, false, false, false, false, false, false, false, false, false, false, false, false, false, false, false, false, false, false, false, false, false, false, false, false, false, false, false, false, false, false, false] rfl rfl (by kernel_rfl) (fun _ _ _ h => h) (Or.inl ⟨by rfl, ?_⟩) hHeld ?_ ?_
    rotate_left
    · rintro w' ⟨z0, z1, z2, z3, z4, z5, z6, z7, z8, z9, z10⟩
      go_simp
      with_reducible rfl
    rotate_left
    · simp only [Act.put, List.setIfInBounds_toArray, List.set_cons_zero, List.set_cons_succ]
      rfl
    refine take_ (i := 12) (N := some 96) (v := ?_) (a' := ?_) #[true, true, true, true, true, true, true, true, true, true, true, true, true, false, false, false, false, false, false, false, false, false, false, false, false, false, false, false, false, false, false, false, false, false, false, false, false, false, false, false, false, false, false, false, false] rfl rfl (by kernel_rfl) (fun _ _ _ h => h) (Or.inl ⟨by rfl, ?_⟩) hHeld ?_ ?_
    rotate_left
    · rintro w' ⟨z0, z1, z2, z3, z4, z5, z6, z7, z8, z9, z10⟩
      go_simp
      with_reducible rfl
    rotate_left
    · simp only [Act.put, List.setIfInBounds_toArray, List.set_cons_zero, List.set_cons_succ]
      rfl
    refine one_ (i := 13) (N := some 97) #[true, true, true, true, true, true, true, true, true, true, true, true, true, true, false, false, false, false, false, false, false, false, false, false, false, false, false, false, false, false, false, false, false, false, false, false, false, false, false, false, false, false, false, false, false] rfl rfl (by kernel_rfl) (by decide) (fun K hK => ?_)
    refine goes_ Try.func36 (by kernel_rfl) rfl #[.agg #[.slice A11 ps.length c11, .slice A12 qs.length c12], .agg #[.slice A13 ps.length c13, .slice A14 qs.length c14]] (by rfl) rfl rfl (by simp only [List.map_toArray, List.map_cons, List.map_nil]; rfl) ?_
    with_reducible refine (hI1.out _ (by repeat (first | exact HW.out | apply below_drew | apply below_alloc))).mono ?_
    rintro e w_ ⟨rfl, hb_⟩
    refine ⟨_, rfl, ?_⟩
    have HW_ := Lib.hid (below_step (by repeat (first | exact HW.out | apply below_drew | apply below_alloc)) hb_)
    clear HW
    have HW := HW_
    clear HW_ hb_
    refine hK.out _ _ (HQ.out _ HW.out) (fun hHeld => ?_)
    clear hK K
    refine norm_ (a' := ?_) ?_ ?_
    rotate_left
    · show Act.put _ (some 97) _ = _
      simp only [Act.put, List.setIfInBounds_toArray, List.set_cons_zero, List.set_cons_succ]
      rfl
    refine pure_ (i := 14) (N := some 98) (v := ?_) (a' := ?_) #[true, true, true, true, true, true, true, true, true, true, true, true, true, true, true, false, false, false, false, false, false, false, false, false, false, false, false, false, false, false, false, false, false, false, false, false, false, false, false, false, false, false, false, false, false] rfl rfl (by kernel_rfl) (fun _ _ _ h => h) (Or.inl ⟨by rfl, ?_⟩) ?_ ?_
    rotate_left
    · intro w'
      go_simp
      with_reducible rfl
    rotate_left
    · simp only [Act.put, List.setIfInBounds_toArray, List.set_cons_zero, List.set_cons_succ]
      rfl
    refine pure_ (i := 15) (N := some 99) (v := ?_) (a' := ?_) #[true, true, true, true, true, true, true, true, true, true, true, true, true, true, true, true, false, false, false, false, false, false, false, false, false, false, false, false, false, false, false, false, false, false, false, false, false, false, false, false, false, false, false, false, false] rfl rfl (by kernel_rfl) (fun _ _ _ h => h) (Or.inl ⟨by rfl, ?_⟩) ?_ ?_
    rotate_left
    · intro w'
      go_simp
      with_reducible rfl
    rotate_left
    · simp only [Act.put, List.setIfInBounds_toArray, List.set_cons_zero, List.set_cons_succ]
      rfl
    refine pure_ (i := 16) (N := some 100) (v := ?_) (a' := ?_) #[true, true, true, true, true, true, true, true, true, true, true, true, true, true, true, true, true, false, false, false, false, false, false, false, false, false, false, false, false, false, false, false, false, false, false, false, false, false, false, false, false, false, false, false, false] rfl rfl (by kernel_rfl) (fun _ _ _ h => h) (Or.inl ⟨by rfl, ?_⟩) ?_ ?_
    rotate_left
    · intro w'
      go_simp
      with_reducible rfl
    rotate_left
    · simp only [Act.put, List.setIfInBounds_toArray, List.set_cons_zero, List.set_cons_succ]
      rfl
    refine pure_ (i := 17) (N := some 101) (v := ?_) (a' := ?_) #[true, true, true, true, true, true, true, true, true, true, true, true, true, true, true, true, true, true, false, false, false, false, false, false, false, false, false, false, false, false, false, false, false, false, false, false, false, false, false, false, false, false, false, false, false] rfl rfl (by kernel_rfl) (fun _ _ _ h => h) (Or.inl ⟨by rfl, ?_⟩) ?_ ?_
    rotate_left
    · intro w'
      go_simp
      with_reducible rfl
    rotate_left
    · simp only [Act.put, List.setIfInBounds_toArray, List.set_cons_zero, List.set_cons_succ]
      rfl
    refine pure_ (i := 18) (N := some 102) (v := ?_) (a' := ?_) #[true, true, true, true, true, true, true, true, true, true, true, true, true, true, true, true, true, true, true, false, false, false, false, false, false, false, false, false, false, false, false, false, false, false, false, false, false, false, false, false, false, false, false, false, false] rfl rfl (by kernel_rfl) (fun _ _ _ h => h) (Or.inl ⟨by rfl, ?_⟩) ?_ ?_
    rotate_left
    · intro w'
      go_simp
      with_reducible rfl
    rotate_left
    · simp only [Act.put, List.setIfInBounds_toArray, List.set_cons_zero, List.set_cons_succ]
      rfl
    refine pure_ (i := 19) (N := some 103) (v := ?_) (a' := ?_) #[true, true, true, true, true, true, true, true, true, true, true, true, true, true, true, true, true, true, true, true, false, false, false, false, false, false, false, false, false, false, false, false, false, false, false, false, false, false, false, false, false, false, false, false, false] rfl rfl (by kernel_rfl) (fun _ _ _ h => h) (Or.inl ⟨by rfl, ?_⟩) ?_ ?_
    rotate_left
    · intro w'
      go_simp
      with_reducible rfl
    rotate_left
    · simp only [Act.put, List.setIfInBounds_toArray, List.set_cons_zero, List.set_cons_succ]
      rfl
    refine pure_ (i := 20) (N := some 104) (v := ?_) (a' := ?_) #[true, true, true, true, true, true, true, true, true, true, true, true, true, true, true, true, true, true, true, true, true, false, false, false, false, false, false, false, false, false, false, false, false, false, false, false, false, false, false, false, false, false, false, false, false] rfl rfl (by kernel_rfl) (fun _ _ _ h => h) (Or.inl ⟨by rfl, ?_⟩) ?_ ?_
    rotate_left
    · intro w'
      go_simp
      with_reducible rfl
    rotate_left
    · simp only [Act.put, List.setIfInBounds_toArray, List.set_cons_zero, List.set_cons_succ]
      rfl
    refine pure_ (i := 21) (N := some 105) (v := ?_) (a' := ?_) #[true, true, true, true, true, true, true, true, true, true, true, true, true, true, true, true, true, true, true, true, true, true, false, false, false, false, false, false, false, false, false, false, false, false, false, false, false, false, false, false, false, false, false, false, false] rfl rfl (by kernel_rfl) (fun _ _ _ h => h) (Or.inl ⟨by rfl, ?_⟩) ?_ ?_
    rotate_left
    · intro w'
      go_simp
      with_reducible rfl
    rotate_left
    · simp only [Act.put, List.setIfInBounds_toArray, List.set_cons_zero, List.set_cons_succ]
      rfl
    refine pure_ (i := 22) (N := some 106) (v := ?_) (a' := ?_) #[true, true, true, true, true, true, true, true, true, true, true, true, true, true, true, true, true, true, true, true, true, true, true, false, false, false, false, false, false, false, false, false, false, false, false, false, false, false, false, false, false, false, false, false, false] rfl rfl (by kernel_rfl) (fun _ _ _ h => h) (Or.inl ⟨by rfl, ?_⟩) ?_ ?_
    rotate_left
    · intro w'
      go_simp
      with_reducible rfl
    rotate_left
    · simp only [Act.put, List.setIfInBounds_toArray, List.set_cons_zero, List.set_cons_succ]
      rfl
    refine pure_ (i := 23) (N := some 107) (v := ?_) (a' := ?_) #[true, true, true, true, true, true, true, true, true, true, true, true, true, true, true, true, true, true, true, true, true, true, true, true, false, false, false, false, false, false, false, false, false, false, false, false, false, false, false, false, false, false, false, false, false] rfl rfl (by kernel_rfl) (fun _ _ _ h => h) (Or.inl ⟨by rfl, ?_⟩) ?_ ?_
    rotate_left
    · intro w'
      go_simp
      with_reducible rfl
    rotate_left
    · simp only [Act.put, List.setIfInBounds_toArray, List.set_cons_zero, List.set_cons_succ]
      rfl
    refine pure_ (i := 24) (N := some 108) (v := ?_) (a' := ?_) #[true, true, true, true, true, true, true, true, true, true, true, true, true, true, true, true, true, true, true, true, true, true, true, true, true, false, false, false, false, false, false, false, false, false, false, false, false, false, false, false, false, false, false, false, false] rfl rfl (by kernel_rfl) (fun _ _ _ h => h) (Or.inl ⟨by rfl, ?_⟩) ?_ ?_
    rotate_left
    · intro w'
      go_simp
      with_reducible rfl
    rotate_left
    · simp only [Act.put, List.setIfInBounds_toArray, List.set_cons_zero, List.set_cons_succ]
      rfl
    refine pure_ (i := 25) (N := some 109) (v := undef) (a' := ?_) #[true, true, true, true, true, true, true, true, true, true, true, true, true, true, true, true, true, true, true, true, true, true, true, true, true, true, false, false, false, false, false, false, false, false, false, false, false, false, false, false, false, false, false, false, false] rfl rfl (by kernel_rfl) (fun _ _ _ h => h) (Or.inr ⟨by rfl, rfl⟩) ?_ ?_
    rotate_left
    · simp only [Act.put, List.setIfInBounds_toArray, List.set_cons_zero, List.set_cons_succ]
      rfl
    refine pure_ (i := 26) (N := some 110) (v := undef) (a' := ?_) #[true, true, true, true, true, true, true, true, true, true, true, true, true, true, true, true, true, true, true, true, true, true, true, true, true, true, true, false, false, false, false, false, false, false, false, false, false, false, false, false, false, false, false, false, false] rfl rfl (by kernel_rfl) (fun _ _ _ h => h) (Or.inr ⟨by rfl, rfl⟩) ?_ ?_
    rotate_left
    · simp only [Act.put, List.setIfInBounds_toArray, List.set_cons_zero, List.set_cons_succ]
      rfl
    refine pure_ (i := 27) (N := some 111) (v := undef) (a' := ?_) #[true, true, true, true, true, true, true, true, true, true, true, true, true, true, true, true, true, true, true, true, true, true, true, true, true, true, true, true, false, false, false, false, false, false, false, false, false, false, false, false, false, false, false, false, false] rfl rfl (by kernel_rfl) (fun _ _ _ h => h) (Or.inr ⟨by rfl, rfl⟩) ?_ ?_
    rotate_left
    · simp only [Act.put, List.setIfInBounds_toArray, List.set_cons_zero, List.set_cons_succ]
      rfl
    refine pure_ (i := 28) (N := some 112) (v := undef) (a' := ?_) #[true, true, true, true, true, true, true, true, true, true, true, true, true, true, true, true, true, true, true, true, true, true, true, true, true, true, true, true, true, false, false, false, false, false, false, false, false, false, false, false, false, false, false, false, false] rfl rfl (by kernel_rfl) (fun _ _ _ h => h) (Or.inr ⟨by rfl, rfl⟩) ?_ ?_
    rotate_left
    · simp only [Act.put, List.setIfInBounds_toArray, List.set_cons_zero, List.set_cons_succ]
      rfl
    refine pure_ (i := 29) (N := some 113) (v := undef) (a' := ?_) #[true, true, true, true, true, true, true, true, true, true, true, true, true, true, true, true, true, true, true, true, true, true, true, true, true, true, true, true, true, true, false, false, false, false, false, false, false, false, false, false, false, false, false, false, false] rfl rfl (by kernel_rfl) (fun _ _ _ h => h) (Or.inr ⟨by rfl, rfl⟩) ?_ ?_
    rotate_left
    · simp only [Act.put, List.setIfInBounds_toArray, List.set_cons_zero, List.set_cons_succ]
      rfl
    refine pure_ (i := 30) (N := some 114) (v := undef) (a' := ?_) #[true, true, true, true, true, true, true, true, true, true, true, true, true, true, true, true, true, true, true, true, true, true, true, true, true, true, true, true, true, true, true, false, false, false, false, false, false, false, false, false, false, false, false, false, false] rfl rfl (by kernel_rfl) (fun _ _ _ h => h) (Or.inr ⟨by rfl, rfl⟩) ?_ ?_
    rotate_left
    · simp only [Act.put, List.setIfInBounds_toArray, List.set_cons_zero, List.set_cons_succ]
      rfl
    refine pure_ (i := 31) (N := some 115) (v := undef) (a' := ?_) #[true, true, true, true, true, true, true, true, true, true, true, true, true, true, true, true, true, true, true, true, true, true, true, true, true, true, true, true, true, true, true, true, false, false, false, false, false, false, false, false, false, false, false, false, false] rfl rfl (by kernel_rfl) (fun _ _ _ h => h) (Or.inr ⟨by rfl, rfl⟩) ?_ ?_
    rotate_left
    · simp only [Act.put, List.setIfInBounds_toArray, List.set_cons_zero, List.set_cons_succ]
      rfl
    refine pure_ (i := 32) (N := some 116) (v := ?_) (a' := ?_) #[true, true, true, true, true, true, true, true, true, true, true, true, true, true, true, true, true, true, true, true, true, true, true, true, true, true, true, true, true, true, true, true, true, false, false, false, false, false, false, false, false, false, false, false, false] rfl rfl (by kernel_rfl) (fun _ _ _ h => h) (Or.inl ⟨by rfl, ?_⟩) ?_ ?_
    rotate_left
    · intro w'
      go_simp
      with_reducible rfl
    rotate_left
    · simp only [Act.put, List.setIfInBounds_toArray, List.set_cons_zero, List.set_cons_succ]
      rfl
    refine pure_ (i := 33) (N := some 117) (v := ?_) (a' := ?_) #[true, true, true, true, true, true, true, true, true, true, true, true, true, true, true, true, true, true, true, true, true, true, true, true, true, true, true, true, true, true, true, true, true, true, false, false, false, false, false, false, false, false, false, false, false] rfl rfl (by kernel_rfl) (fun _ _ _ h => h) (Or.inl ⟨by rfl, ?_⟩) ?_ ?_
    rotate_left
    · intro w'
      go_simp
      with_reducible rfl
    rotate_left
    · simp only [Act.put, List.setIfInBounds_toArray, List.set_cons_zero, List.set_cons_succ]
      rfl
    refine pure_ (i := 34) (N := some 118) (v := ?_) (a' := ?_) #[true, true, true, true, true, true, true, true, true, true, true, true, true, true, true, true, true, true, true, true, true, true, true, true, true, true, true, true, true, true, true, true, true, true, true, false, false, false, false, false, false, false, false, false, false] rfl rfl (by kernel_rfl) (fun _ _ _ h => h) (Or.inl ⟨by rfl, ?_⟩) ?_ ?_
    rotate_left
    · intro w'
      go_simp
      with_reducible rfl
    rotate_left
    · simp only [Act.put, List.setIfInBounds_toArray, List.set_cons_zero, List.set_cons_succ]
      rfl
    refine take_ (i := 35) (N := some 119) (v := ?_) (a' := ?_) #[true, true, true, true, true, true, true, true, true, true, true, true, true, true, true, true, true, true, true, true, true, true, true, true, true, true, true, true, true, true, true, true, true, true, true, true, false, false, false, false, false, false, false, false, false] rfl rfl (by kernel_rfl) (fun _ _ _ h => h) (Or.inl ⟨by rfl, ?_⟩) hHeld ?_ ?_
    rotate_left
    · rintro w' ⟨z0, z1, z2, z3, z4, z5, z6, z7, z8, z9, z10⟩
      go_simp
      with_reducible rfl
    rotate_left
    · simp only [Act.put, List.setIfInBounds_toArray, List.set_cons_zero, List.set_cons_succ]
      rfl
    refine take_ (i := 36) (N := some 120) (v := ?_) (a' := ?_) #[true, true, true, true, true, true, true, true, true, true, true, true, true, true, true, true, true, true, true, true, true, true, true, true, true, true, true, true, true, true, true, true, true, true, true, true, true, false, false, false, false, false, false, false, false] rfl rfl (by kernel_rfl) (fun _ _ _ h => h) (Or.inl ⟨by rfl, ?_⟩) hHeld ?_ ?_
    rotate_left
    · rintro w' ⟨z0, z1, z2, z3, z4, z5, z6, z7, z8, z9, z10⟩
      go_simp
      with_reducible rfl
    rotate_left
    · simp only [Act.put, List.setIfInBounds_toArray, List.set_cons_zero, List.set_cons_succ]
      rfl
    refine one_ (i := 37) (N := some 121) #[true, true, true, true, true, true, true, true, true, true, true, true, true, true, true, true, true, true, true, true, true, true, true, true, true, true, true, true, true, true, true, true, true, true, true, true, true, true, false, false, false, false, false, false, false] rfl rfl (by kernel_rfl) (by decide) (fun K hK => ?_)
    refine goes_ Try.func36 (by kernel_rfl) rfl #[.agg #[.slice A15 rs.length c15, .slice A16 ts.length c16], .agg #[.slice A17 rs.length c17, .slice A18 ts.length c18]] (by rfl) rfl rfl (by simp only [List.map_toArray, List.map_cons, List.map_nil]; rfl) ?_
    with_reducible refine (hI2.out _ (by repeat (first | exact HW.out | apply below_drew | apply below_alloc))).mono ?_
    rintro e w_ ⟨rfl, hb_⟩
    refine ⟨_, rfl, ?_⟩
    have HW_ := Lib.hid (below_step (by repeat (first | exact HW.out | apply below_drew | apply below_alloc)) hb_)
    clear HW
    have HW := HW_
    clear HW_ hb_
    refine hK.out _ _ (HQ.out _ HW.out) (fun hHeld => ?_)
    clear hK K
    refine norm_ (a' := ?_) ?_ ?_
    rotate_left
    · show Act.put _ (some 121) _ = _
      simp only [Act.put, List.setIfInBounds_toArray, List.set_cons_zero, List.set_cons_succ]
      rfl
    refine pure_ (i := 38) (N := some 122) (v := ?_) (a' := ?_) #[true, true, true, true, true, true, true, true, true, true, true, true, true, true, true, true, true, true, true, true, true, true, true, true, true, true, true, true, true, true, true, true, true, true, true, true, true, true, true, false, false, false, false, false, false] rfl rfl (by kernel_rfl) (fun _ _ _ h => h) (Or.inl ⟨by rfl, ?_⟩) ?_ ?_
    rotate_left
    · intro w'
      go_simp
      with_reducible rfl
    rotate_left
    · simp only [Act.put, List.setIfInBounds_toArray, List.set_cons_zero, List.set_cons_succ]
      rfl
    refine pure_ (i := 39) (N := some 123) (v := ?_) (a' := ?_) #[true, true, true, true, true, true, true, true, true, true, true, true, true, true, true, true, true, true, true, true, true, true, true, true, true, true, true, true, true, true, true, true, true, true, true, true, true, true, true, true, false, false, false, false, false] rfl rfl (by kernel_rfl) (fun _ _ _ h => h) (Or.inl ⟨by rfl, ?_⟩) ?_ ?_
    rotate_left
    · intro w'
      go_simp
      with_reducible rfl
    rotate_left
    · simp only [Act.put, List.setIfInBounds_toArray, List.set_cons_zero, List.set_cons_succ]
      rfl
    refine pure_ (i := 40) (N := some 124) (v := ?_) (a' := ?_) #[true, true, true, true, true, true, true, true, true, true, true, true, true, true, true, true, true, true, true, true, true, true, true, true, true, true, true, true, true, true, true, true, true, true, true, true, true, true, true, true, true, false, false, false, false] rfl rfl (by kernel_rfl) (fun _ _ _ h => h) (Or.inl ⟨by rfl, ?_⟩) ?_ ?_
    rotate_left
    · intro w'
      go_simp
      with_reducible rfl
    rotate_left
    · simp only [Act.put, List.setIfInBounds_toArray, List.set_cons_zero, List.set_cons_succ]
      rfl
    refine pure_ (i := 41) (N := some 125) (v := ?_) (a' := ?_) #[true, true, true, true, true, true, true, true, true, true, true, true, true, true, true, true, true, true, true, true, true, true, true, true, true, true, true, true, true, true, true, true, true, true, true, true, true, true, true, true, true, true, false, false, false] rfl rfl (by kernel_rfl) (fun _ _ _ h => h) (Or.inl ⟨by rfl, ?_⟩) ?_ ?_
    rotate_left
    · intro w'
      go_simp
      with_reducible rfl
    rotate_left
    · simp only [Act.put, List.setIfInBounds_toArray, List.set_cons_zero, List.set_cons_succ]
      rfl
    refine pure_ (i := 42) (N := some 126) (v := ?_) (a' := ?_) #[true, true, true, true, true, true, true, true, true, true, true, true, true, true, true, true, true, true, true, true, true, true, true, true, true, true, true, true, true, true, true, true, true, true, true, true, true, true, true, true, true, true, true, false, false] rfl rfl (by kernel_rfl) (fun _ _ _ h => h) (Or.inl ⟨by rfl, ?_⟩) ?_ ?_
    rotate_left
    · intro w'
      go_simp
      with_reducible rfl
    rotate_left
    · simp only [Act.put, List.setIfInBounds_toArray, List.set_cons_zero, List.set_cons_succ]
      rfl
    refine pure_ (i := 43) (N := some 127) (v := ?_) (a' := ?_) #[true, true, true, true, true, true, true, true, true, true, true, true, true, true, true, true, true, true, true, true, true, true, true, true, true, true, true, true, true, true, true, true, true, true, true, true, true, true, true, true, true, true, true, true, false] rfl rfl (by kernel_rfl) (fun _ _ _ h => h) (Or.inl ⟨by rfl, ?_⟩) ?_ ?_
    rotate_left
    · intro w'
      go_simp
      with_reducible rfl
    rotate_left
    · simp only [Act.put, List.setIfInBounds_toArray, List.set_cons_zero, List.set_cons_succ]
      rfl
    refine pure_ (i := 44) (N := some 128) (v := ?_) (a' := ?_) #[true, true, true, true, true, true, true, true, true, true, true, true, true, true, true, true, true, true, true, true, true, true, true, true, true, true, true, true, true, true, true, true, true, true, true, true, true, true, true, true, true, true, true, true, true] rfl rfl (by kernel_rfl) (fun _ _ _ h => h) (Or.inl ⟨by rfl, ?_⟩) ?_ ?_
    rotate_left
    · intro w'
      go_simp
      with_reducible rfl
    rotate_left
    · simp only [Act.put, List.setIfInBounds_toArray, List.set_cons_zero, List.set_cons_succ]
      rfl
    refine done_ (by kernel_rfl) ?_
    have HY20 := Lib.hid (pw_own_below HY19.out HW.out)
    have HT20 := Lib.hid (below_then HT19.out HT19.out.size HW.out)
    have hzl : zs.length ≤ 9223372036854775807 := (row_C HY20.out).2.2.2.1
    clear HX HQ hI1 hI2 hI3 HY19 HT19 HSB19 HW HPP
    (try clear y0 y1 y2 y3 y4 y5 y6 y7 y8 y9 y10)
    generalize w_ = w20 at *
    go_wp2
    go_loopw [131] (fun i W => ∃ (j : Nat) (vs : List Int), i = .int .i64 j ∧ j ≤ zs.length ∧ vs.length = zs.length ∧ Aside0 (W.ownsRow w6.heap.size 5 1 (.slice A7 zs.length c7) vs.length (nums .u8 vs)) ∧ Aside0 (Below w6.heap.size w6 W)) (fun i _ => zs.length - (intOf i).toNat)
    case atStart => exact ⟨0, zs, rfl, Nat.zero_le _, rfl, Aside0.mk HY20.out, Aside0.mk HT20.out⟩
    case round =>
      clear HY20 HT20
      obtain ⟨j, vs, rfl, hj, hvs, HV, HT⟩ := hrel
      by_cases hjl : j < zs.length
      · have hjl' : ((j : Int) < ((zs.length : Nat) : Int)) := by omega
        obtain ⟨g6, hA6, _, hg6, hcl, hfr⟩ := u8_at HV.out j (by omega)
        obtain rfl := hA6
        have HVS := Lib.hid hvs
        generalize vs.getD j 0 = z at *
        clear hvs
        go_wp2
        go_roundw
        case rel =>
          have ho : wr.ownsRow w6.heap.size 5 1 (.slice (some ⟨g6, 0, none⟩) vs.length c7) vs.length (nums .u8 vs) := by
            have h := HV.out
            rw [HVS.out] at h ⊢
            exact h
          have h2 := own_put ho j ((z + 1) % 256)
          rw [Int.toNat_natCast, HVS.out] at h2
          exact ⟨j + 1, vs.set j ((z + 1) % 256), by go_num, by omega, by rw [List.length_set]; exact HVS.out, Aside0.mk h2, Aside0.mk (HT.out.setCell hg6 _)⟩
        case measure => simp [intOf]; omega
      · obtain rfl : j = zs.length := by omega
        have hjl' : ¬ (((zs.length : Nat) : Int) < ((zs.length : Nat) : Int)) := by omega
        have HX := Lib.hid (fun (W : World) (hb : Below wr.heap.size wr W) => (HSB6.out.below (below_then HT.out HT.out.size hb)))
        have HQ := Lib.hid (fun (W : World) (hb : Below wr.heap.size wr W) => (⟨string_read (HX.out W hb).e2, string_read (HX.out W hb).e, (pair_cells (HX.out W hb).x0).1, (pair_cells (HX.out W hb).x0).2, (pair_cells (HX.out W hb).x1).1, (pair_cells (HX.out W hb).x1).2, (pair_cells (HX.out W hb).x9).1, (pair_cells (HX.out W hb).x9).2⟩ :
          (convert 23 9 (.slice E2 bs.length k2)).run Try.prog W = .ok (.string (strOfNums bs)) W ∧ (convert 23 9 (.slice E bs.length k0)).run Try.prog W = .ok (.string (strOfNums bs)) W ∧ W.cell? ⟨w.heap.size, 0, none⟩ = some (.slice A xs.length c0) ∧ W.cell? ⟨w.heap.size, 1, none⟩ = some (.slice B ys.length d0) ∧ W.cell? ⟨w.heap.size + 1, 0, none⟩ = some (.slice C xs2.length c1) ∧ W.cell? ⟨w.heap.size + 1, 1, none⟩ = some (.slice D ys2.length d1) ∧ W.cell? ⟨n9, 0, none⟩ = some (.slice A2 xs.length c2) ∧ W.cell? ⟨n9, 1, none⟩ = some (.slice B2 ys.length d2)))
        have HW := Lib.hid (Below.refl wr.heap.size wr)
        have hF1 := Lib.hid (fun (W : World) (hb : Below wr.heap.size wr W) => cs27 W A2 c2 xs B2 d2 ys (HX.out W hb).a2 HK2.out.1 (HX.out W hb).b2 HK2.out.2 (by have := HL.out; omega) (by have := HL.out; omega))
        have hF2 := Lib.hid (fun (W : World) (hb : Below wr.heap.size wr W) => cs37 W A c0 xs B d0 ys (HX.out W hb).a HK.out.1 (HX.out W hb).b HK.out.2.1 (by have := HL.out; omega) (by have := HL.out; omega))
        have hF3 := Lib.hid (fun (W : World) (hb : Below wr.heap.size wr W) => ShowSig38_any W A2 B2 c2 d2 xs ys (HX.out W hb).a2 (HX.out W hb).b2 (by have := HL.out; omega) (by have := HL.out; omega))
        have hF4 := Lib.hid (fun (W : World) (hb : Below wr.heap.size wr W) => showsig39 W A c0 xs B d0 ys (HX.out W hb).a HK.out.1 (HX.out W hb).b HK.out.2.1 (by have := HL.out; omega) (by have := HL.out; omega))
        have hF5 := Lib.hid (fun (W : World) (hb : Below wr.heap.size wr W) => Same28_any W A2 B2 C D c2 d2 c1 d1 xs ys xs2 ys2 (HX.out W hb).a2 (HX.out W hb).b2 (HX.out W hb).c (HX.out W hb).d)
        have hF6 := Lib.hid (fun (W : World) (hb : Below wr.heap.size wr W) => same36 W A B C D c0 d0 c1 d1 xs ys xs2 ys2 (HX.out W hb).a HK.out.1 (HX.out W hb).b HK.out.2.1 (HX.out W hb).c HK.out.2.2.1 (HX.out W hb).d HK.out.2.2.2.1 (by have := HL.out; omega) (by have := HL.out; omega))
        have hF7 := Lib.hid (fun (W : World) (hb : Below wr.heap.size wr W) => same36t W A2 B2 A B c2 d2 c0 d0 xs ys (HX.out W hb).a2 HK2.out.1 (HX.out W hb).b2 HK2.out.2 (HX.out W hb).a HK.out.1 (HX.out W hb).b HK.out.2.1 (by have := HL.out; omega) (by have := HL.out; omega))
        generalize chkG xs ys = ck at *
        generalize showG xs ys = sg at *
        generalize (decide (xs = xs2) && decide (ys = ys2)) = tb at *
        have HT2 := Lib.hid (below_then HB6.out HB6.out.size HT.out)
        clear hj hvs hjl HV
        obtain ⟨z0, z1, z2, z3, z4, z5, z6, z7⟩ := HQ.out _ HW.out
        go_wp2
        go_region_held3 (fun W => (convert 23 9 (.slice E2 bs.length k2)).run Try.prog W = .ok (.string (strOfNums bs)) W ∧ (convert 23 9 (.slice E bs.length k0)).run Try.prog W = .ok (.string (strOfNums bs)) W ∧ W.cell? ⟨w.heap.size, 0, none⟩ = some (.slice A xs.length c0) ∧ W.cell? ⟨w.heap.size, 1, none⟩ = some (.slice B ys.length d0) ∧ W.cell? ⟨w.heap.size + 1, 0, none⟩ = some (.slice C xs2.length c1) ∧ W.cell? ⟨w.heap.size + 1, 1, none⟩ = some (.slice D ys2.length d1) ∧ W.cell? ⟨n9, 0, none⟩ = some (.slice A2 xs.length c2) ∧ W.cell? ⟨n9, 1, none⟩ = some (.slice B2 ys.length d2)) ((refine HQ.out _ ?_; repeat (first | exact HW.out | apply below_drew | apply below_alloc)))
          (((first | (go_at_call 27; (with_reducible refine (hF1.out _ (by repeat (first | exact HW.out | apply below_drew | apply below_alloc))).mono ?_)) | (go_at_call 37; (with_reducible refine (hF2.out _ (by repeat (first | exact HW.out | apply below_drew | apply below_alloc))).mono ?_)) | (go_at_call 38; (with_reducible refine (hF3.out _ (by repeat (first | exact HW.out | apply below_drew | apply below_alloc))).mono ?_)) | (go_at_call 39; (with_reducible refine (hF4.out _ (by repeat (first | exact HW.out | apply below_drew | apply below_alloc))).mono ?_)) | (go_at_call 28; (with_reducible refine (hF5.out _ (by repeat (first | exact HW.out | apply below_drew | apply below_alloc))).mono ?_)) | (go_at_call 36; (with_reducible refine (hF6.out _ (by repeat (first | exact HW.out | apply below_drew | apply below_alloc))).mono ?_)) | (go_at_call 36; (with_reducible refine (hF7.out _ (by repeat (first | exact HW.out | apply below_drew | apply below_alloc))).mono ?_))); rintro e w_ ⟨rfl, hb_⟩; have HW_ := Lib.hid (below_step (by repeat (first | exact HW.out | apply below_drew | apply below_alloc)) hb_); clear HW; have HW := HW_; clear HW_ hb_))
        all_goals
          go_wp2
          go_ret
          exact ⟨rfl, below_then HT2.out HT2.out.size (by repeat (first | exact HW.out | apply below_drew | apply below_alloc))⟩
end Go.Proofs.Ytacmajlbaenjfaa
