/- ShapeNames' walk. -/
import Derived.Test.YtacmajlbaenjfaaTg
namespace Go.Proofs.Ytacmajlbaenjfaa
open Go.RowKit Go.Shelf Go.Proofs.YtacmajlbaenjfaaW.PrintWords Go.Proofs.YtacmajlbaenjfaaW.PrintLast Go.Proofs.YtacmajlbaenjfaaW.PrintMore

theorem dec_bd : ∀ b ∈ ([2, 12, 1, 1, 7] : List Int), 0 ≤ b ∧ b ≤ 255 := by decide
theorem append_run {P : Program} {ops : Array Oper} {rest : List Oper} {o : Oper} {a : Act} {Q : Exit → Act → World → Prop} {W w1 : World} (hgd : o.guard = none) (s x : Operand) (t : TypeId)
    (ho : o.op = .call { callee := .builtin .append, args := #[s, x], argTypes := #[t, t] }) (v u v1 : Value) (hs : a.eval s = v) (hx : a.eval x = u)
    (hr1 : (Builtin.append_ #[t, t] o.type #[v, u]).run P W = .ok v1 w1) (h : wpList P ops Q rest (a.put o.dst v1) w1) : wpList P ops Q (o :: rest) a W := by
  refine wpList_plain hgd fun K hK => ?_
  unfold Oper.wp execOp
  simp only [ho, resolve, invoke, builtin, Sem.run_bind, Sem.run_pure, Result.andThen_ok, List.map_toArray, List.map_cons, List.map_nil, hs, hx, hr1]
  exact hK _ _ h

theorem strs_C {W : World} {b : Nat} {strs : List ByteArray} (h : W.heap[b]? = some (.cells ((strs.map Value.string).toArray) 9 (0, 0))) (hl : strs.length ≤ 1000) : Kd.string.C W (some ⟨b, 0, none⟩) strs.length strs := by
  refine Kd.C_of_reads (enc := Value.string) (d := ByteArray.empty) (h1 := fun _ => rfl) ⟨rfl, by omega, fun _ => ⟨_, rfl, fun j hj => ?_⟩⟩
  have e : (⟨b, 0, none⟩ : Addr).add j = ⟨b, j, none⟩ := by
    unfold Addr.add
    split
    · rename_i h0; rw [h0]
    · simp
  rw [e]
  refine str_cell h j _ ?_
  have hj' : j < strs.length := hj
  rw [List.getD_eq_getElem?_getD, List.getElem?_eq_getElem hj']; rfl
theorem strs_at {strs : List ByteArray} {j : Int} {n : Nat} (hn : strs.length = n) (h0 : 0 ≤ j) (h1 : j < n) : rdOf ByteArray.empty strs j ∈ strs := by
  unfold rdOf
  have hj : j.toNat < strs.length := by omega
  rw [List.getD_eq_getElem?_getD, List.getElem?_eq_getElem hj]
  exact List.getElem_mem hj
theorem read18e (W : World) (s : ByteArray) (hs : s.size ≤ 1000000) (he : readSh s.data.toList = ([], 60)) :
    Calls Try.prog 18 #[.string s] W fun e w' => ∃ A c, e = .returned (.tuple #[.slice A 0 c, .int .i64 60]) ∧ Below W.heap.size W w' :=
  (read18z W s [] 60 hs he).mono fun _ _ ⟨A, c, he, _, _, hb⟩ => ⟨A, c, he, hb⟩
theorem read18f (W : World) : Calls Try.prog 18 #[.string ⟨#[70, 73, 82]⟩] W fun e w' => ∃ A c, e = .returned (.tuple #[.slice A 3 c, .int .i64 0]) ∧ (Kd.int .i64).C w' A 3 [3, 1, 2] ∧ 3 ≤ c ∧ Below W.heap.size W w' :=
  (read18z W ⟨#[70, 73, 82]⟩ [3, 1, 2] 0 (by decide) n_last1).mono fun _ _ ⟨A, c, he, hC, hl, hb⟩ => ⟨A, c, he, hC, hl, hb⟩
theorem conv_any (t : ByteArray) (W : World) : (convert 9 23 (.string t)).run Try.prog W = .ok (.slice (some ⟨W.heap.size, 0, none⟩) t.size (grownCap W t.size 0 5)) (Lib.bytesWorld W 5 t) :=
  Lib.run_convert_string_bytes W 9 23 5 t Try.underlying9 Try.underlying23 Try.underlying5
theorem lit3 (W : World) : (Kd.int .i64).C (W.alloc (.cells #[.int .i64 3, .int .i64 1, .int .i64 2] 3)) (some ⟨W.heap.size, 0, none⟩) 3 [3, 1, 2] := by
  have ho : (W.alloc (.cells #[.int .i64 3, .int .i64 1, .int .i64 2] 3)).ownsRow W.heap.size 3 1 (.slice (some ⟨W.heap.size, 0, none⟩) 3 3) [3, 1, 2].length (nums .i64 [3, 1, 2]) :=
    ⟨rfl, .inr ⟨W.heap.size, 3, #[.int .i64 3, .int .i64 1, .int .i64 2], rfl, Nat.le_refl _, World.alloc_heap_new _ _, Nat.le_refl _, by decide, rfl, rfl⟩⟩
  exact (own_CI ho).2.2
theorem ints20z (W : World) (A B : Option Addr) (c d : Nat) (hC : (Kd.int .i64).C W A 3 [3, 1, 2]) (hD : (Kd.int .i64).C W B 3 [3, 1, 2]) (hc : 3 ≤ c) (hd : 3 ≤ d) :
    Calls Try.prog 20 #[.slice A 3 c, .slice B 3 d] W fun e w' => e = .returned (.bool true) ∧ Below W.heap.size W w' :=
  (ints20 W A B c d [3, 1, 2] hC hc hD hd (by decide)).mono fun _ _ ⟨he, n, hw⟩ => ⟨he, hw ▸ pw_below_drewN (Below.refl _ _) n⟩
/-- What stands at the end. -/
structure FL (W : World) (n : Nat) (A B C : Option Addr) (c d : Nat) : Prop where
  a : (Kd.int .i64).C W A 3 [3, 1, 2]
  x : W.heap[n]? = some (.cells #[.slice B 0 c, .slice C 0 d] 26 (0, 0))
theorem FL.below {W W' : World} {n : Nat} {A B C : Option Addr} {c d : Nat} (h : FL W n A B C c d) (hb : Below W.heap.size W W') : FL W' n A B C c d :=
  ⟨Kd.C_below h.a hb, (hb.block _ (blk_lt h.x)).trans h.x⟩

/-- What stands from the second half on. -/
structure FN (W : World) (n : Nat) (A7 A10 A9 B9 : Option Addr) (c9 d9 : Nat) : Prop where
  a : (Kd.int .u8).C W A7 4 [2, 12, 1, 1]
  e : (Kd.int .u8).C W A10 2 [0, 0]
  p : (Kd.int .i64).C W A9 2 [1, 4]
  q : (Kd.int .i64).C W B9 1 [2]
  x : W.heap[n]? = some (.cells #[.slice A9 2 c9, .slice B9 1 d9] 26 (0, 0))
theorem FN.below {W W' : World} {n : Nat} {A7 A10 A9 B9 : Option Addr} {c9 d9 : Nat} (h : FN W n A7 A10 A9 B9 c9 d9) (hb : Below W.heap.size W W') : FN W' n A7 A10 A9 B9 c9 d9 :=
  ⟨Kd.C_below h.a hb, Kd.C_below h.e hb, Kd.C_below h.p hb, Kd.C_below h.q hb, (hb.block _ (blk_lt h.x)).trans h.x⟩
theorem same_fn (W : World) (n : Nat) (A7 A10 A9 B9 A B : Option Addr) (c9 d9 c d m k : Nat) (xs ys : List Int) (r : Bool) (h : FN W n A7 A10 A9 B9 c9 d9) (hC : (Kd.int .i64).C W A xs.length xs) (hD : (Kd.int .i64).C W B ys.length ys) (hr : (decide ([1, 4] = xs) && decide ([2] = ys)) = r) (hm : xs.length = m) (hk : ys.length = k) :
    Calls Try.prog 28 #[.agg #[.slice A9 2 c9, .slice B9 1 d9], .agg #[.slice A m c, .slice B k d]] W fun e w' => e = .returned (.bool r) ∧ Below W.heap.size W w' :=
  same28k W A9 B9 A B c9 d9 c d 2 1 m k [1, 4] [2] xs ys r h.p h.q hC hD hr rfl rfl hm hk
theorem same_nil (W : World) (A B : Option Addr) (c d : Nat) (hC : (Kd.int .i64).C W A 0 []) (hD : (Kd.int .i64).C W B 0 []) :
    Calls Try.prog 28 #[.agg #[.slice none 0 0, .slice none 0 0], .agg #[.slice A 0 c, .slice B 0 d]] W fun e w' => e = .returned (.bool true) ∧ Below W.heap.size W w' :=
  same28k W none none A B 0 0 c d 0 0 0 0 [] [] [] [] true (Kd.C_nil _ _) (Kd.C_nil _ _) hC hD rfl rfl rfl rfl rfl

set_option maxRecDepth 100000 in
set_option maxHeartbeats 8000000 in
theorem names_walk (w : World) : Calls Try.prog 8 #[] w fun e w' => e = .returned (.bool true) ∧ Below w.heap.size w w' := by
  have R1 : Hid (∀ W, Calls Try.prog 40 #[.string ⟨#[73]⟩, .int .i64 16] W fun e w' => e = .returned (.string (repS 73 16)) ∧ Below W.heap.size W w') := Lib.hid (fun W => repeat40 W 73 16 (by decide))
  have R2 : Hid (∀ W, Calls Try.prog 40 #[.string ⟨#[80]⟩, .int .i64 64] W fun e w' => e = .returned (.string (repS 80 64)) ∧ Below W.heap.size W w') := Lib.hid (fun W => repeat40 W 80 64 (by decide))
  have R3 : Hid (∀ W, Calls Try.prog 40 #[.string ⟨#[80]⟩, .int .i64 60] W fun e w' => e = .returned (.string (repS 80 60)) ∧ Below W.heap.size W w') := Lib.hid (fun W => repeat40 W 80 60 (by decide))
  have R4 : Hid (∀ W, Calls Try.prog 40 #[.string ⟨#[73]⟩, .int .i64 60] W fun e w' => e = .returned (.string (repS 73 60)) ∧ Below W.heap.size W w') := Lib.hid (fun W => repeat40 W 73 60 (by decide))
  have O1 := Lib.hid (fun W => of41 W (repS 73 16) _ (by rw [repS_size]; decide) n_of_wide)
  have O2 := Lib.hid (fun W => of41 W (repS 73 16 ++ ⟨#[73]⟩) _ (by rw [ByteArray.size_append, repS_size]; decide) n_of_wideI)
  have O3 := Lib.hid (fun W => of41 W ⟨#[73, 82, 70]⟩ [1, 2, 3] (by decide) (by decide +kernel))
  have O4 := Lib.hid (fun W => of41 W ⟨#[80]⟩ [4] (by decide) (by decide +kernel))
  have S1 := Lib.hid (fun W => sig42 W (repS 80 64) ⟨#[]⟩ _ [] (by rw [repS_size]; decide) (by decide) n_of_p64 (by decide +kernel))
  have S2 := Lib.hid (fun W => sig42 W (repS 80 60) ⟨#[73, 82, 70, 73]⟩ _ [1, 2, 3, 1] (by rw [repS_size]; decide) (by decide) n_of_p60 (by decide +kernel))
  have S3 := Lib.hid (fun W => sig42 W (repS 80 60) ⟨#[73, 82, 70, 73, 82]⟩ _ [1, 2, 3, 1, 2] (by rw [repS_size]; decide) (by decide) n_of_p60 (by decide +kernel))
  have S4 := Lib.hid (fun W => sig42 W ⟨#[73, 80]⟩ ⟨#[82]⟩ [1, 4] [2] (by decide) (by decide) (by decide +kernel) (by decide +kernel))
  have S5 := Lib.hid (fun W => sig42 W ⟨#[80, 73]⟩ ⟨#[82]⟩ [4, 1] [2] (by decide) (by decide) (by decide +kernel) (by decide +kernel))
  have S6 := Lib.hid (fun W => sig42 W ⟨#[73, 80]⟩ ⟨#[]⟩ [1, 4] [] (by decide) (by decide) (by decide +kernel) (by decide +kernel))
  have S7 := Lib.hid (fun W => sig42 W ⟨#[]⟩ ⟨#[]⟩ [] [] (by decide) (by decide) (by decide +kernel) (by decide +kernel))
  have k1 := fun W => run_string_add_sum (P := Try.prog) (w := W) (repS 73 16) ⟨#[73]⟩ (by rw [repS_size]; decide)
  have k2 := fun W => run_string_add_sum (P := Try.prog) (w := W) (repS 73 16) ⟨#[82]⟩ (by rw [repS_size]; decide)
  have k3 := fun W => run_string_add_sum (P := Try.prog) (w := W) (repS 73 60) ⟨#[62, 82, 82, 82, 82, 82]⟩ (by rw [repS_size]; decide)
  have AL := Lib.hid (fun W => alive26 W)
  have HW := Lib.hid (Below.refl w.heap.size w)
  have hrp64 : (List.replicate 64 (4 : Int)).length = 64 := List.length_replicate
  have hrp60 : (List.replicate 60 (4 : Int)).length = 60 := List.length_replicate
  have HRP64 := Lib.hid hrp64
  have HRP60 := Lib.hid hrp60
  obtain ⟨L64, hL64⟩ : ∃ L64, List.replicate 64 (4 : Int) = L64 := ⟨_, rfl⟩
  obtain ⟨L60, hL60⟩ : ∃ L60, List.replicate 60 (4 : Int) = L60 := ⟨_, rfl⟩
  rw [hL64] at S1 HRP64 hrp64
  rw [hL60] at S2 S3 HRP60 hrp60
  have N1 := Lib.hid n_sig1
  have N2 := Lib.hid n_sig2
  have N3 := Lib.hid n_sig3
  rw [hL64] at N1
  rw [hL60] at N2 N3
  clear hL64 hL60
  go_enter Try.func8, Try.ntmps8
  go_upto_region 2 with (go_at_call 40; (with_reducible refine (R1.out _).mono ?_); rintro e w1 ⟨rfl, hb⟩; have HW_ := Lib.hid (below_step (by repeat (first | exact HW.out | apply below_alloc | apply below_drew)) hb); clear HW; have HW := HW_; clear HW_; clear hb)
  go_upto_region 3 with (first
    | (go_at_call 41; (with_reducible refine (O1.out _).mono ?_); rintro e w2 ⟨A1, c1, rfl, hu, hb⟩; have HU := Lib.hid (own_CI hu).2.2; have HW_ := Lib.hid (below_step (by repeat (first | exact HW.out | apply below_alloc | apply below_drew)) hb); clear HW; have HW := HW_; clear HW_; clear hu hb)
    | (go_at_call 22; (with_reducible refine (chk22k _ A1 c1 16 _ 0 HU.out n_chk1 rfl).mono ?_); rintro e w3 ⟨rfl, hb⟩; have HW_ := Lib.hid (below_step (by repeat (first | exact HW.out | apply below_alloc | apply below_drew)) hb); clear HW; have HW := HW_; clear HW_; clear hb HU)
    | (go_at_call 41; (with_reducible refine (O2.out _).mono ?_); rintro e w4 ⟨A2, c2, rfl, hu, hb⟩; have HU := Lib.hid (own_CI hu).2.2; have HW_ := Lib.hid (below_step (by repeat (first | exact HW.out | apply below_alloc | apply below_drew)) hb); clear HW; have HW := HW_; clear HW_; clear hu hb)
    | (go_at_call 22; (with_reducible refine (chk22k _ A2 c2 17 _ 60 HU.out n_chk2 rfl).mono ?_); rintro e w5 ⟨rfl, hb⟩; have HW_ := Lib.hid (below_step (by repeat (first | exact HW.out | apply below_alloc | apply below_drew)) hb); clear HW; have HW := HW_; clear HW_; clear hb HU)
    | (go_at_call 22; (with_reducible refine (chk22k _ none 0 0 [] 60 (Kd.C_nil _ _) n_chk3 rfl).mono ?_); rintro e w6 ⟨rfl, hb⟩; have HW_ := Lib.hid (below_step (by repeat (first | exact HW.out | apply below_alloc | apply below_drew)) hb); clear HW; have HW := HW_; clear HW_; clear hb)
    | (go_at_call 22; (with_reducible refine (chk22k _ _ 1 1 [0] 60 (lit1 w6 0) n_chk4 rfl).mono ?_); rintro e w7 ⟨rfl, hb⟩; have HW_ := Lib.hid (below_step (by repeat (first | exact HW.out | apply below_alloc | apply below_drew)) hb); clear HW; have HW := HW_; clear HW_; clear hb)
    | (go_at_call 22; (with_reducible refine (chk22k _ _ 1 1 [5] 60 (lit1 w7 5) n_chk5 rfl).mono ?_); rintro e w8 ⟨rfl, hb⟩; have HW_ := Lib.hid (below_step (by repeat (first | exact HW.out | apply below_alloc | apply below_drew)) hb); clear HW; have HW := HW_; clear HW_; clear hb)
    | (go_at_call 22; (with_reducible refine (chk22k _ _ 1 1 [-1] 60 (lit1 w8 (-1)) n_chk6 rfl).mono ?_); rintro e w9 ⟨rfl, hb⟩; have HW_ := Lib.hid (below_step (by repeat (first | exact HW.out | apply below_alloc | apply below_drew)) hb); clear HW; have HW := HW_; clear HW_; clear hb)
    | (go_at_call 40; (with_reducible refine (R2.out _).mono ?_); rintro e w10 ⟨rfl, hb⟩; have HW_ := Lib.hid (below_step (by repeat (first | exact HW.out | apply below_alloc | apply below_drew)) hb); clear HW; have HW := HW_; clear HW_; clear hb)
    | (go_at_call 42; (with_reducible refine (S1.out _).mono ?_); rintro e w11 ⟨A3, c3, B3, d3, rfl, _, hC, _, hD, hb⟩; have HP := Lib.hid (And.intro hC hD); have HW_ := Lib.hid (below_step (by repeat (first | exact HW.out | apply below_alloc | apply below_drew)) hb); clear HW; have HW := HW_; clear HW_; clear hC hD hb)
    | (go_at_call 27; (with_reducible refine (chk27b _ A3 B3 c3 d3 64 0 L64 [] 0 HP.out.1 HP.out.2 (by have := HRP64.out; omega) (by decide) N1.out HRP64.out rfl).mono ?_); rintro e w12 ⟨rfl, hb⟩; have HW_ := Lib.hid (below_step (by repeat (first | exact HW.out | apply below_alloc | apply below_drew)) hb); clear HW; have HW := HW_; clear HW_; clear hb HP)
    | (go_at_call 40; (with_reducible refine (R3.out w12).mono ?_); rintro e w13 ⟨rfl, hb⟩; have HW_ := Lib.hid (below_step (by repeat (first | exact HW.out | apply below_alloc | apply below_drew)) hb); clear HW; have HW := HW_; clear HW_; clear hb)
    | (go_at_call 42; (with_reducible refine (S2.out _).mono ?_); rintro e w14 ⟨A4, c4, B4, d4, rfl, _, hC, _, hD, hb⟩; have HP := Lib.hid (And.intro hC hD); have HW_ := Lib.hid (below_step (by repeat (first | exact HW.out | apply below_alloc | apply below_drew)) hb); clear HW; have HW := HW_; clear HW_; clear hC hD hb)
    | (go_at_call 27; (with_reducible refine (chk27b _ A4 B4 c4 d4 60 4 L60 [1, 2, 3, 1] 0 HP.out.1 HP.out.2 (by have := HRP60.out; omega) (by decide) N2.out HRP60.out rfl).mono ?_); rintro e w15 ⟨rfl, hb⟩; have HW_ := Lib.hid (below_step (by repeat (first | exact HW.out | apply below_alloc | apply below_drew)) hb); clear HW; have HW := HW_; clear HW_; clear hb HP)
    | (go_at_call 40; (with_reducible refine (R3.out w15).mono ?_); rintro e w16 ⟨rfl, hb⟩; have HW_ := Lib.hid (below_step (by repeat (first | exact HW.out | apply below_alloc | apply below_drew)) hb); clear HW; have HW := HW_; clear HW_; clear hb)
    | (go_at_call 42; (with_reducible refine (S3.out _).mono ?_); rintro e w17 ⟨A5, c5, B5, d5, rfl, _, hC, _, hD, hb⟩; have HP := Lib.hid (And.intro hC hD); have HW_ := Lib.hid (below_step (by repeat (first | exact HW.out | apply below_alloc | apply below_drew)) hb); clear HW; have HW := HW_; clear HW_; clear hC hD hb)
    | (go_at_call 27; (with_reducible refine (chk27b _ A5 B5 c5 d5 60 5 L60 [1, 2, 3, 1, 2] 61 HP.out.1 HP.out.2 (by have := HRP60.out; omega) (by decide) N3.out HRP60.out rfl).mono ?_); rintro e w18 ⟨rfl, hb⟩; have HW_ := Lib.hid (below_step (by repeat (first | exact HW.out | apply below_alloc | apply below_drew)) hb); clear HW; have HW := HW_; clear HW_; clear hb HP)
    | (go_at_call 27; (with_reducible refine (chk27b _ _ none 1 0 1 0 [9] [] 61 (lit1 w18 9) (Kd.C_nil _ _) (by decide) (by decide) n_sig4 rfl rfl).mono ?_); rintro e w19 ⟨rfl, hb⟩; have HW_ := Lib.hid (below_step (by repeat (first | exact HW.out | apply below_alloc | apply below_drew)) hb); clear HW; have HW := HW_; clear HW_; clear hb))
  clear R1 R2 R3 O1 O2 S1 S2 S3 N1 N2 N3 HRP64 HRP60 hrp64 hrp60
  go_upto_region 4 with (first
    | (go_at_call 42; (with_reducible refine (S4.out _).mono ?_); rintro e w20 ⟨A6, c6, B6, d6, rfl, _, hC, _, hD, hb⟩; have HP := Lib.hid (And.intro hC hD); have HW_ := Lib.hid (below_step (by repeat (first | exact HW.out | apply below_alloc | apply below_drew)) hb); clear HW; have HW := HW_; clear HW_; have HS20 := Lib.hid HW.out.size; clear hC hD hb)
    | (go_at_call 30; (with_reducible refine (enc30k _ A6 B6 c6 d6 2 1 [1, 4] [2] [2, 12, 1, 1] 0 HP.out.1 HP.out.2 (by decide) (by decide) n_enc1 rfl rfl).mono ?_); rintro e w21 ⟨A7, c7, rfl, hu, hb⟩; have HU := Lib.hid hu; have HSZ := Lib.hid hb.size; have HW_ := Lib.hid (below_step (by repeat (first | exact HW.out | apply below_alloc | apply below_drew)) hb); clear HW; have HW := HW_; clear HW_; clear hu hb HP))
  have hba := below_alloc (Below.refl w21.heap.size w21) (.cells #[.int .u8 7] 5)
  have hu := pw_own_below HU.out hba
  have HWa := Lib.hid (below_then HW.out HW.out.size hba)
  have hle : w20.heap.size ≤ (w21.alloc (.cells #[.int .u8 7] 5)).heap.size := Nat.le_trans HSZ.out hba.size
  clear HW HU HSZ
  obtain ⟨A8, c8, w22, hr8, hu8, hC7, hb8⟩ := append_keep (w21.alloc (.cells #[.int .u8 7] 5)) w20.heap.size A7 c7 [2, 12, 1, 1] 7 hu (by decide) (by decide) hle ⟨w21.heap.size, 0, none⟩ (by rw [blk_cell (World.alloc_heap_new w21 _) 0]; rfl) (fun j h => by subst h; rfl)
  have HC8 : Hid ((Kd.int .u8).C w22 A8 [2, 12, 1, 1, 7].length [2, 12, 1, 1, 7]) := Lib.hid (row_C hu8).2.2
  have HC7 := Lib.hid hC7
  have HW := Lib.hid (below_weaken HWa.out HS20.out hb8)
  have hr8' : (Builtin.append_ #[23, 23] 23 #[.slice A7 4 c7, .slice (some ⟨w21.heap.size, 0, none⟩) 1 1]).run Try.prog (w21.alloc (.cells #[.int .u8 7] 5)) = .ok (.slice A8 5 c8) w22 := hr8
  clear hr8 hu8 hC7 hb8 hu hle hba HWa HS20
  have HR8 := Lib.hid hr8'
  clear hr8'
  go_upto_region 5 with (first
    | ((with_reducible refine gate_builtin (b := .append) (xs := #[.tmp 101, .tmp 102]) rfl ?_); at_builtin; refine append_run rfl (.tmp 101) (.tmp 102) 23 rfl (.slice A7 4 c7) (.slice (some ⟨w21.heap.size, 0, none⟩) 1 1) (.slice A8 5 c8) rfl rfl HR8.out ?_)
    | (go_at_call 13; have Hx := on13k A8 c8 5 [2, 12, 1, 1, 7] w22 HC8.out (by decide) dec_bd rfl; (with_reducible refine Hx.mono ?_); clear Hx; rintro e w23 ⟨g, vg, rfl, hg, hr, hb⟩; have HR := Lib.hid hr; have HG := Lib.hid hg; have HW22 := Lib.hid HW.out; have HS23 := Lib.hid hb.size; have HB23 := Lib.hid hb; have HW_ := Lib.hid (below_step (by repeat (first | exact HW.out | apply below_alloc | apply below_drew)) hb); clear HW; have HW := HW_; clear HW_; clear hg hr hb)
    | (go_at_call 32; have Hx := dec32k w23 g _ vg [2, 12, 1, 1, 7] [1, 4] [2] 0 4 HR.out n_dec1; (with_reducible refine Hx.mono ?_); clear Hx; rintro e w24 ⟨A9, c9, B9, d9, rfl, hC, hD, hf⟩; have HP := Lib.hid (And.intro hC hD); have HF := Lib.hid hf; clear hC hD hf))
  have hb24 : Below w22.heap.size w22 w24 := HB23.out.trans (HF.out.below HS23.out (fun i hi e => absurd hi (by have := HG.out; omega)))
  have HW24 := Lib.hid (below_weaken HW22.out HW22.out.size hb24)
  have hba := below_alloc (Below.refl w24.heap.size w24) (.cells #[.slice A9 2 c9, .slice B9 1 d9] 26)
  have hC7 := Kd.C_below (Kd.C_below HC7.out hb24) hba
  have hP := Kd.C_below HP.out.1 hba
  have hQ := Kd.C_below HP.out.2 hba
  have HX25 := Lib.hid (And.intro hC7 (And.intro hP (And.intro hQ (World.alloc_heap_new w24 (.cells #[.slice A9 2 c9, .slice B9 1 d9] 26)))))
  have HW_ := Lib.hid (below_then HW24.out HW24.out.size hba)
  clear HW
  have HW := HW_
  clear HW_ HW24 hb24 hba hC7 hP hQ HC7 HP HF HB23 HS23 HG HR HC8 HR8 HW22
  generalize w24.alloc (.cells #[.slice A9 2 c9, .slice B9 1 d9] 26) = w25 at *
  generalize w24.heap.size = n5 at *
  go_upto_region 6 with (go_at_call 30; have Hx := enc30k w25 none none 0 0 0 0 [] [] [0, 0] 0 (Kd.C_nil _ _) (Kd.C_nil _ _) (by decide) (by decide) n_enc2 rfl rfl; (with_reducible refine Hx.mono ?_); clear Hx; rintro e w26 ⟨A10, c10, rfl, hu, hb⟩; have HU := Lib.hid (row_C hu).2.2; have HB := Lib.hid hb; have HW_ := Lib.hid (below_step (by repeat (first | exact HW.out | apply below_alloc | apply below_drew)) hb); clear HW; have HW := HW_; clear HW_; clear hu hb)
  have HF0 : Hid (FN w26 n5 A7 A10 A9 B9 c9 d9) := Lib.hid ⟨Kd.C_below HX25.out.1 HB.out, HU.out, Kd.C_below HX25.out.2.1 HB.out, Kd.C_below HX25.out.2.2.1 HB.out, (HB.out.block _ (blk_lt HX25.out.2.2.2)).trans HX25.out.2.2.2⟩
  have HBase := HW
  clear HX25 HU HB HW
  have HW := Lib.hid (Below.refl w26.heap.size w26)
  have HQ := Lib.hid (fun (W : World) (hb : Below w26.heap.size w26 W) => (⟨string_read (HF0.out.below hb).a, string_read (HF0.out.below hb).e, (pair_cells (HF0.out.below hb).x).1, (pair_cells (HF0.out.below hb).x).2⟩ :
    (convert 23 9 (.slice A7 4 c7)).run Try.prog W = .ok (.string ⟨#[2, 12, 1, 1]⟩) W ∧ (convert 23 9 (.slice A10 2 c10)).run Try.prog W = .ok (.string ⟨#[0, 0]⟩) W ∧ W.cell? ⟨n5, 0, none⟩ = some (.slice A9 2 c9) ∧ W.cell? ⟨n5, 1, none⟩ = some (.slice B9 1 d9)))
  obtain ⟨y0, y1, y2, y3⟩ := HQ.out _ HW.out
  go_region_held3 (fun W => (convert 23 9 (.slice A7 4 c7)).run Try.prog W = .ok (.string ⟨#[2, 12, 1, 1]⟩) W ∧ (convert 23 9 (.slice A10 2 c10)).run Try.prog W = .ok (.string ⟨#[0, 0]⟩) W ∧ W.cell? ⟨n5, 0, none⟩ = some (.slice A9 2 c9) ∧ W.cell? ⟨n5, 1, none⟩ = some (.slice B9 1 d9)) ((refine HQ.out _ ?_; repeat (first | exact HW.out | apply below_drew | apply below_alloc)))
    ((first
      | (go_at_call 42; (with_reducible refine (S4.out _).mono ?_); rintro e w_ ⟨A, c, B, d, rfl, _, hC, _, hD, hb_⟩; have HP := Lib.hid (And.intro hC hD); have HW_ := Lib.hid (below_step (by repeat (first | exact HW.out | apply below_drew | apply below_alloc)) hb_); clear HW; have HW := HW_; clear HW_; clear hC hD hb_)
      | (go_at_call 28; have Hx := same_fn _ n5 A7 A10 A9 B9 A B c9 d9 c d 2 1 [1, 4] [2] true (HF0.out.below (by repeat (first | exact HW.out | apply below_drew | apply below_alloc))) HP.out.1 HP.out.2 (by decide) rfl rfl; (with_reducible refine Hx.mono ?_); clear Hx; rintro e w_ ⟨rfl, hb_⟩; have HW_ := Lib.hid (below_step (by repeat (first | exact HW.out | apply below_drew | apply below_alloc)) hb_); clear HW; have HW := HW_; clear HW_; clear hb_ HP)
      | (go_at_call 42; (with_reducible refine (S5.out _).mono ?_); rintro e w_ ⟨A, c, B, d, rfl, _, hC, _, hD, hb_⟩; have HP := Lib.hid (And.intro hC hD); have HW_ := Lib.hid (below_step (by repeat (first | exact HW.out | apply below_drew | apply below_alloc)) hb_); clear HW; have HW := HW_; clear HW_; clear hC hD hb_)
      | (go_at_call 28; have Hx := same_fn _ n5 A7 A10 A9 B9 A B c9 d9 c d 2 1 [4, 1] [2] false (HF0.out.below (by repeat (first | exact HW.out | apply below_drew | apply below_alloc))) HP.out.1 HP.out.2 (by decide) rfl rfl; (with_reducible refine Hx.mono ?_); clear Hx; rintro e w_ ⟨rfl, hb_⟩; have HW_ := Lib.hid (below_step (by repeat (first | exact HW.out | apply below_drew | apply below_alloc)) hb_); clear HW; have HW := HW_; clear HW_; clear hb_ HP)
      | (go_at_call 42; (with_reducible refine (S6.out _).mono ?_); rintro e w_ ⟨A, c, B, d, rfl, _, hC, _, hD, hb_⟩; have HP := Lib.hid (And.intro hC hD); have HW_ := Lib.hid (below_step (by repeat (first | exact HW.out | apply below_drew | apply below_alloc)) hb_); clear HW; have HW := HW_; clear HW_; clear hC hD hb_)
      | (go_at_call 28; have Hx := same_fn _ n5 A7 A10 A9 B9 A B c9 d9 c d 2 0 [1, 4] [] false (HF0.out.below (by repeat (first | exact HW.out | apply below_drew | apply below_alloc))) HP.out.1 HP.out.2 (by decide) rfl rfl; (with_reducible refine Hx.mono ?_); clear Hx; rintro e w_ ⟨rfl, hb_⟩; have HW_ := Lib.hid (below_step (by repeat (first | exact HW.out | apply below_drew | apply below_alloc)) hb_); clear HW; have HW := HW_; clear HW_; clear hb_ HP)
      | (go_at_call 42; (with_reducible refine (S7.out _).mono ?_); rintro e w_ ⟨A, c, B, d, rfl, _, hC, _, hD, hb_⟩; have HP := Lib.hid (And.intro hC hD); have HW_ := Lib.hid (below_step (by repeat (first | exact HW.out | apply below_drew | apply below_alloc)) hb_); clear HW; have HW := HW_; clear HW_; clear hC hD hb_)
      | (go_at_call 28; have Hx := same_nil _ A B c d HP.out.1 HP.out.2; (with_reducible refine Hx.mono ?_); clear Hx; rintro e w_ ⟨rfl, hb_⟩; have HW_ := Lib.hid (below_step (by repeat (first | exact HW.out | apply below_drew | apply below_alloc)) hb_); clear HW; have HW := HW_; clear HW_; clear hb_ HP)))
  have HW_ := Lib.hid (below_step HBase.out HW.out)
  clear HW
  have HW := HW_
  clear HW_ HBase HQ HF0 S4 S5 S6 S7 y0 y1 y2 y3
  go_upto_region 12 with (first
    | (go_at_call 41; (with_reducible refine (O3.out _).mono ?_); rintro e w_ ⟨A, c, rfl, hu, hb_⟩; have HU := Lib.hid (own_CI hu).2.2; have HW_ := Lib.hid (below_step (by repeat (first | exact HW.out | apply below_drew | apply below_alloc)) hb_); clear HW; have HW := HW_; clear HW_; clear hu hb_)
    | (go_at_call 16; have Hx := cell16k _ A c 3 [1, 2, 3] 2 3 0 HU.out n_cell1 rfl; (with_reducible refine Hx.mono ?_); clear Hx; rintro e w_ ⟨rfl, hb_⟩; have HW_ := Lib.hid (below_step (by repeat (first | exact HW.out | apply below_drew | apply below_alloc)) hb_); clear HW; have HW := HW_; clear HW_; clear HU hb_)
    | (go_at_call 16; have Hx := cell16k _ A c 3 [1, 2, 3] 3 0 60 HU.out n_cell2 rfl; (with_reducible refine Hx.mono ?_); clear Hx; rintro e w_ ⟨rfl, hb_⟩; have HW_ := Lib.hid (below_step (by repeat (first | exact HW.out | apply below_drew | apply below_alloc)) hb_); clear HW; have HW := HW_; clear HW_; clear HU hb_)
    | (go_at_call 16; have Hx := cell16k _ A c 3 [1, 2, 3] (-1) 0 60 HU.out n_cell3 rfl; (with_reducible refine Hx.mono ?_); clear Hx; rintro e w_ ⟨rfl, hb_⟩; have HW_ := Lib.hid (below_step (by repeat (first | exact HW.out | apply below_drew | apply below_alloc)) hb_); clear HW; have HW := HW_; clear HW_; clear HU hb_)
    | (go_at_call 41; (with_reducible refine (O4.out _).mono ?_); rintro e w_ ⟨A, c, rfl, hu, hb_⟩; have HU := Lib.hid (own_CI hu).2.2; have HW_ := Lib.hid (below_step (by repeat (first | exact HW.out | apply below_drew | apply below_alloc)) hb_); clear HW; have HW := HW_; clear HW_; clear hu hb_)
    | (go_at_call 16; have Hx := cell16k _ A c 1 [4] 0 0 60 HU.out n_cell4 rfl; (with_reducible refine Hx.mono ?_); clear Hx; rintro e w_ ⟨rfl, hb_⟩; have HW_ := Lib.hid (below_step (by repeat (first | exact HW.out | apply below_drew | apply below_alloc)) hb_); clear HW; have HW := HW_; clear HW_; clear HU hb_))
  clear O3 O4
  go_wp2
  have hba := below_alloc (Below.refl w_.heap.size w_) (.cells #[.string ⟨#[]⟩, .string ⟨#[80]⟩, .string ⟨#[105]⟩, .string ⟨#[73, 88]⟩, .string ⟨#[73, 32, 82]⟩, .string (repS 73 16 ++ ⟨#[82]⟩), .string ⟨#[195, 169]⟩] 9)
  have HW_ := Lib.hid (below_step HW.out hba)
  have hE : (w_.alloc (.cells #[.string ⟨#[]⟩, .string ⟨#[80]⟩, .string ⟨#[105]⟩, .string ⟨#[73, 88]⟩, .string ⟨#[73, 32, 82]⟩, .string (repS 73 16 ++ ⟨#[82]⟩), .string ⟨#[195, 169]⟩] 9)).heap[w_.heap.size]? = some (.cells ((strs1.map Value.string).toArray) 9 (0, 0)) := World.alloc_heap_new _ _
  clear HW hba
  have HW := HW_
  clear HW_
  have HE := Lib.hid (strs_C hE (by decide))
  clear hE
  generalize w_.alloc (.cells #[.string ⟨#[]⟩, .string ⟨#[80]⟩, .string ⟨#[105]⟩, .string ⟨#[73, 88]⟩, .string ⟨#[73, 32, 82]⟩, .string (repS 73 16 ++ ⟨#[82]⟩), .string ⟨#[195, 169]⟩] 9) = wz0 at *
  generalize w_.heap.size = nz0 at *
  generalize (some (⟨nz0, 0, none⟩ : Addr)) = AZ0 at *
  have HZ0 := Lib.hid (Below.refl wz0.heap.size wz0)
  go_loopw [197, 19] (fun i b W => ∃ j : Int, 0 ≤ j ∧ j ≤ 7 ∧ i = .int .i64 j ∧ b = .int .i64 j ∧ Aside0 (Below wz0.heap.size wz0 W)) (fun i _ _ => (7 - intOf i).toNat)
  case atStart => exact ⟨0, by omega, by omega, rfl, rfl, Aside0.mk HZ0.out⟩
  case round =>
    clear HZ0
    obtain ⟨j, hj0, hj1, rfl, rfl, W0⟩ := hrel
    by_cases hlt : j < 7
    · obtain ⟨ad, hA, e1⟩ := Kd.at_string (Kd.C_below HE.out W0.out) j hj0 (by show j < ((7 : Nat) : Int); omega)
      obtain ⟨t, ht⟩ : ∃ t, rdOf ByteArray.empty strs1 j = t := ⟨_, rfl⟩
      have hok := strs1_ok _ (strs_at (n := 7) rfl hj0 (by omega))
      rw [ht] at e1 hok
      rw [hA]
      have HOK := Lib.hid hok
      clear ht hok hA
      go_wp2_with (go_at_call 18; have Hx := read18e wr t (by have := HOK.out.1; omega) HOK.out.2; (with_reducible refine Hx.mono ?_); clear Hx; rintro e w5 ⟨A5, c5, rfl, hb⟩; have HW5 := Lib.hid (below_then W0.out W0.out.size hb); clear hb)
      go_roundw
      case rel => exact ⟨j + 1, by omega, by omega, by go_num, by go_num, Aside0.mk HW5.out⟩
      case measure => simp [intOf]; omega
    · obtain rfl : j = 7 := by omega
      have HW_ := Lib.hid (below_step HW.out W0.out)
      clear HW
      have HW := HW_
      clear HW_ W0 hj0 hj1 hlt HE
      obtain ⟨wq, hwq⟩ : ∃ wq : World, wq = wr := ⟨_, rfl⟩
      subst hwq
      go_wp2_with (go_at_call 40; (with_reducible refine (R4.out _).mono ?_); rintro e wp ⟨rfl, hb⟩; have HW_ := Lib.hid (below_step (by repeat (first | exact HW.out | apply below_alloc | apply below_drew)) hb); clear HW; have HW := HW_; clear HW_; clear hb R4)
      obtain ⟨wq, rfl⟩ : ∃ wq : World, wq = wp := ⟨_, rfl⟩
      have hba := below_alloc (Below.refl wq.heap.size wq) (.cells #[.string ⟨#[]⟩, .string ⟨#[73]⟩, .string ⟨#[73, 62, 80]⟩, .string ⟨#[73, 62, 62, 82]⟩, .string ⟨#[62, 62]⟩, .string ⟨#[73, 62, 32, 82]⟩, .string ⟨#[120, 62, 73]⟩, .string (repS 73 60 ++ ⟨#[62, 82, 82, 82, 82, 82]⟩)] 9)
      have HW_ := Lib.hid (below_step HW.out hba)
      have hE : (wq.alloc (.cells #[.string ⟨#[]⟩, .string ⟨#[73]⟩, .string ⟨#[73, 62, 80]⟩, .string ⟨#[73, 62, 62, 82]⟩, .string ⟨#[62, 62]⟩, .string ⟨#[73, 62, 32, 82]⟩, .string ⟨#[120, 62, 73]⟩, .string (repS 73 60 ++ ⟨#[62, 82, 82, 82, 82, 82]⟩)] 9)).heap[wq.heap.size]? = some (.cells ((strs2.map Value.string).toArray) 9 (0, 0)) := World.alloc_heap_new _ _
      clear HW hba
      have HW := HW_
      clear HW_
      have HE := Lib.hid (strs_C hE (by decide))
      clear hE
      generalize wq.alloc (.cells #[.string ⟨#[]⟩, .string ⟨#[73]⟩, .string ⟨#[73, 62, 80]⟩, .string ⟨#[73, 62, 62, 82]⟩, .string ⟨#[62, 62]⟩, .string ⟨#[73, 62, 32, 82]⟩, .string ⟨#[120, 62, 73]⟩, .string (repS 73 60 ++ ⟨#[62, 82, 82, 82, 82, 82]⟩)] 9) = wz1 at *
      generalize wq.heap.size = nz1 at *
      generalize (some (⟨nz1, 0, none⟩ : Addr)) = AZ1 at *
      have HZ1 := Lib.hid (Below.refl wz1.heap.size wz1)
      go_loopw [220, 19] (fun i b W => ∃ j : Int, 0 ≤ j ∧ j ≤ 8 ∧ i = .int .i64 j ∧ b = .int .i64 (7 + j) ∧ Aside0 (Below wz1.heap.size wz1 W)) (fun i _ _ => (8 - intOf i).toNat)
      case atStart => exact ⟨0, by omega, by omega, rfl, rfl, Aside0.mk HZ1.out⟩
      case round =>
        clear HZ1
        obtain ⟨j, hj0, hj1, rfl, rfl, W0⟩ := hrel
        by_cases hlt : j < 8
        · obtain ⟨ad, hA, e1⟩ := Kd.at_string (Kd.C_below HE.out W0.out) j hj0 (by show j < ((8 : Nat) : Int); omega)
          obtain ⟨t, ht⟩ : ∃ t, rdOf ByteArray.empty strs2 j = t := ⟨_, rfl⟩
          have hok := strs2_ok _ (strs_at (n := 8) rfl hj0 (by omega))
          rw [ht] at e1 hok
          rw [hA]
          have HOK := Lib.hid hok
          clear ht hok hA
          go_upto_region 24 with (go_at_call 34; have Hx := read34z wr t 61 (by have := HOK.out.1; omega) HOK.out.2; (with_reducible refine Hx.mono ?_); clear Hx; rintro e w6 ⟨A5, c5, B5, d5, rfl, hb⟩; have HW6 := Lib.hid (below_then W0.out W0.out.size hb); clear hb)
          have hba := below_alloc (Below.refl w6.heap.size w6) (.cells #[.slice A5 0 c5, .slice B5 0 d5] 26)
          have HW5 := Lib.hid (below_then HW6.out HW6.out.size hba)
          obtain ⟨q0, q1⟩ := pair_cells (World.alloc_heap_new w6 (.cells #[.slice A5 0 c5, .slice B5 0 d5] 26))
          clear hba HW6 e1
          generalize w6.alloc (.cells #[.slice A5 0 c5, .slice B5 0 d5] 26) = w7 at *
          generalize w6.heap.size = n6 at *
          go_wp2
          go_roundw
          case rel => exact ⟨j + 1, by omega, by omega, by go_num, by go_num, Aside0.mk HW5.out⟩
          case measure => simp [intOf]; omega
        · obtain rfl : j = 8 := by omega
          have HW_ := Lib.hid (below_step HW.out W0.out)
          clear HW
          have HW := HW_
          clear HW_ W0 hj0 hj1 hlt HE
          obtain ⟨wq, hwq⟩ : ∃ wq : World, wq = wr := ⟨_, rfl⟩
          subst hwq
          go_wp2
          have hba := below_alloc (Below.refl wq.heap.size wq) (.cells #[.string ⟨#[]⟩, .string ⟨#[0]⟩, .string ⟨#[1]⟩, .string ⟨#[1, 3]⟩, .string ⟨#[17, 0, 0, 0, 0, 0]⟩, .string ⟨#[4, 255]⟩, .string ⟨#[128, 1, 0]⟩] 9)
          have HW_ := Lib.hid (below_step HW.out hba)
          have hE : (wq.alloc (.cells #[.string ⟨#[]⟩, .string ⟨#[0]⟩, .string ⟨#[1]⟩, .string ⟨#[1, 3]⟩, .string ⟨#[17, 0, 0, 0, 0, 0]⟩, .string ⟨#[4, 255]⟩, .string ⟨#[128, 1, 0]⟩] 9)).heap[wq.heap.size]? = some (.cells ((strs3.map Value.string).toArray) 9 (0, 0)) := World.alloc_heap_new _ _
          clear HW hba
          have HW := HW_
          clear HW_
          have HE := Lib.hid (strs_C hE (by decide))
          clear hE
          generalize wq.alloc (.cells #[.string ⟨#[]⟩, .string ⟨#[0]⟩, .string ⟨#[1]⟩, .string ⟨#[1, 3]⟩, .string ⟨#[17, 0, 0, 0, 0, 0]⟩, .string ⟨#[4, 255]⟩, .string ⟨#[128, 1, 0]⟩] 9) = wz2 at *
          generalize wq.heap.size = nz2 at *
          generalize (some (⟨nz2, 0, none⟩ : Addr)) = AZ2 at *
          have HZ2 := Lib.hid (Below.refl wz2.heap.size wz2)
          go_loopw [246, 19] (fun i b W => ∃ j : Int, 0 ≤ j ∧ j ≤ 7 ∧ i = .int .i64 j ∧ b = .int .i64 (15 + j) ∧ Aside0 (Below wz2.heap.size wz2 W)) (fun i _ _ => (7 - intOf i).toNat)
          case atStart => exact ⟨0, by omega, by omega, rfl, rfl, Aside0.mk HZ2.out⟩
          case round =>
            clear HZ2
            obtain ⟨j, hj0, hj1, rfl, rfl, W0⟩ := hrel
            by_cases hlt : j < 7
            · obtain ⟨ad, hA, e1⟩ := Kd.at_string (Kd.C_below HE.out W0.out) j hj0 (by show j < ((7 : Nat) : Int); omega)
              obtain ⟨t, ht⟩ : ∃ t, rdOf ByteArray.empty strs3 j = t := ⟨_, rfl⟩
              have hok := strs3_ok _ (strs_at (n := 7) rfl hj0 (by omega))
              rw [ht] at e1 hok
              rw [hA]
              have HOK := Lib.hid hok
              clear ht hok hA
              have hcv := conv_any t
              go_wp2_with (first | (go_at_call 13; have Hx := on13k (some ⟨wr.heap.size, 0, none⟩) (grownCap wr t.size 0 5) t.size (intsOf t) (Lib.bytesWorld wr 5 t) (bytes_C wr t (by have := HOK.out.1; omega)) (by rw [intsOf_length]; have := HOK.out.1; omega) (intsOf_bd t) (intsOf_length t); (with_reducible refine Hx.mono ?_); clear Hx; rintro e w5 ⟨g, vg, rfl, hg, hr, hb⟩; have HR := Lib.hid hr; have HG := Lib.hid hg; have HB5 := Lib.hid (below_then (bytes_below wr t) (bytes_below wr t).size hb); have HG5 := Lib.hid (Nat.le_trans (bytes_below wr t).size hg); clear hg hr hb) | (go_at_call 14; have Hx := dec14z w5 g _ vg (intsOf t) HR.out HOK.out.2; (with_reducible refine Hx.mono ?_); clear Hx; rintro e w6 ⟨A5, c5, rfl, hf⟩; have HW5 := Lib.hid (below_then W0.out W0.out.size (HB5.out.trans (hf.below HB5.out.size (fun i hi e => absurd hi (by have := HG5.out; omega))))); clear hf))
              go_roundw
              case rel => exact ⟨j + 1, by omega, by omega, by go_num, by go_num, Aside0.mk HW5.out⟩
              case measure => simp [intOf]; omega
            · obtain rfl : j = 7 := by omega
              have HW_ := Lib.hid (below_step HW.out W0.out)
              clear HW
              have HW := HW_
              clear HW_ W0 hj0 hj1 hlt HE
              obtain ⟨wq, hwq⟩ : ∃ wq : World, wq = wr := ⟨_, rfl⟩
              subst hwq
              go_wp2
              have hba := below_alloc (Below.refl wq.heap.size wq) (.cells #[.string ⟨#[]⟩, .string ⟨#[0]⟩, .string ⟨#[1, 3, 1, 3]⟩, .string ⟨#[1, 0, 1]⟩, .string ⟨#[65, 0]⟩] 9)
              have HW_ := Lib.hid (below_step HW.out hba)
              have hE : (wq.alloc (.cells #[.string ⟨#[]⟩, .string ⟨#[0]⟩, .string ⟨#[1, 3, 1, 3]⟩, .string ⟨#[1, 0, 1]⟩, .string ⟨#[65, 0]⟩] 9)).heap[wq.heap.size]? = some (.cells ((strs4.map Value.string).toArray) 9 (0, 0)) := World.alloc_heap_new _ _
              clear HW hba
              have HW := HW_
              clear HW_
              have HE := Lib.hid (strs_C hE (by decide))
              clear hE
              generalize wq.alloc (.cells #[.string ⟨#[]⟩, .string ⟨#[0]⟩, .string ⟨#[1, 3, 1, 3]⟩, .string ⟨#[1, 0, 1]⟩, .string ⟨#[65, 0]⟩] 9) = wz3 at *
              generalize wq.heap.size = nz3 at *
              generalize (some (⟨nz3, 0, none⟩ : Addr)) = AZ3 at *
              have HZ3 := Lib.hid (Below.refl wz3.heap.size wz3)
              go_loopw [269, 19] (fun i b W => ∃ j : Int, 0 ≤ j ∧ j ≤ 5 ∧ i = .int .i64 j ∧ b = .int .i64 (22 + j) ∧ Aside0 (Below wz3.heap.size wz3 W)) (fun i _ _ => (5 - intOf i).toNat)
              case atStart => exact ⟨0, by omega, by omega, rfl, rfl, Aside0.mk HZ3.out⟩
              case round =>
                clear HZ3
                obtain ⟨j, hj0, hj1, rfl, rfl, W0⟩ := hrel
                by_cases hlt : j < 5
                · obtain ⟨ad, hA, e1⟩ := Kd.at_string (Kd.C_below HE.out W0.out) j hj0 (by show j < ((5 : Nat) : Int); omega)
                  obtain ⟨t, ht⟩ : ∃ t, rdOf ByteArray.empty strs4 j = t := ⟨_, rfl⟩
                  have hok := strs4_ok _ (strs_at (n := 5) rfl hj0 (by omega))
                  rw [ht] at e1 hok
                  rw [hA]
                  have HOK := Lib.hid hok
                  clear ht hok hA
                  have hcv := conv_any t
                  go_upto_region 38 with (first | (go_at_call 13; have Hx := on13k (some ⟨wr.heap.size, 0, none⟩) (grownCap wr t.size 0 5) t.size (intsOf t) (Lib.bytesWorld wr 5 t) (bytes_C wr t (by have := HOK.out.1; omega)) (by rw [intsOf_length]; have := HOK.out.1; omega) (intsOf_bd t) (intsOf_length t); (with_reducible refine Hx.mono ?_); clear Hx; rintro e w5 ⟨g, vg, rfl, hg, hr, hb⟩; have HR := Lib.hid hr; have HG := Lib.hid hg; have HB5 := Lib.hid (below_then (bytes_below wr t) (bytes_below wr t).size hb); have HG5 := Lib.hid (Nat.le_trans (bytes_below wr t).size hg); clear hg hr hb) | (go_at_call 32; have Hx := dec32z w5 g _ vg (intsOf t) HR.out HOK.out.2; (with_reducible refine Hx.mono ?_); clear Hx; rintro e w6 ⟨A5, c5, B5, d5, rfl, hf⟩; have HW6 := Lib.hid (below_then W0.out W0.out.size (HB5.out.trans (hf.below HB5.out.size (fun i hi e => absurd hi (by have := HG5.out; omega))))); clear hf))
                  have hba := below_alloc (Below.refl w6.heap.size w6) (.cells #[.slice A5 0 c5, .slice B5 0 d5] 26)
                  have HW5 := Lib.hid (below_then HW6.out HW6.out.size hba)
                  obtain ⟨q0, q1⟩ := pair_cells (World.alloc_heap_new w6 (.cells #[.slice A5 0 c5, .slice B5 0 d5] 26))
                  clear hba HW6 e1
                  generalize w6.alloc (.cells #[.slice A5 0 c5, .slice B5 0 d5] 26) = w7 at *
                  generalize w6.heap.size = n6 at *
                  go_wp2
                  go_roundw
                  case rel => exact ⟨j + 1, by omega, by omega, by go_num, by go_num, Aside0.mk HW5.out⟩
                  case measure => simp [intOf]; omega
                · obtain rfl : j = 5 := by omega
                  have HW_ := Lib.hid (below_step HW.out W0.out)
                  clear HW
                  have HW := HW_
                  clear HW_ W0 hj0 hj1 hlt HE
                  obtain ⟨wq, hwq⟩ : ∃ wq : World, wq = wr := ⟨_, rfl⟩
                  subst hwq
                  go_upto_region 42 with (go_at_call 18; (with_reducible refine (read18f _).mono ?_); rintro e w8 ⟨A8, c8, rfl, hC, hl8, hb⟩; have HC := Lib.hid hC; have HL8 := Lib.hid hl8; have HW_ := Lib.hid (below_step (by repeat (first | exact HW.out | apply below_alloc | apply below_drew)) hb); clear HW; have HW := HW_; clear HW_; clear hC hb hl8)
                  go_upto_region 43 with (go_at_call 34; have Hx := read34z w8 ⟨#[62]⟩ 0 (by decide) n_last2; (with_reducible refine Hx.mono ?_); clear Hx; rintro e w9 ⟨B9, c9, D9, d9, rfl, hb⟩; have HC_ := Lib.hid (Kd.C_below HC.out hb); clear HC; have HC := HC_; clear HC_; have HW_ := Lib.hid (below_step (by repeat (first | exact HW.out | apply below_alloc | apply below_drew)) hb); clear HW; have HW := HW_; clear HW_; clear hb)
                  have hba := below_alloc (Below.refl w9.heap.size w9) (.cells #[.slice B9 0 c9, .slice D9 0 d9] 26)
                  have HF : Hid (FL (w9.alloc (.cells #[.slice B9 0 c9, .slice D9 0 d9] 26)) w9.heap.size A8 B9 D9 c9 d9) := Lib.hid ⟨Kd.C_below HC.out hba, World.alloc_heap_new _ _⟩
                  have HW_ := Lib.hid (below_step HW.out hba)
                  clear HW HC hba
                  have HW := HW_
                  clear HW_
                  generalize w9.alloc (.cells #[.slice B9 0 c9, .slice D9 0 d9] 26) = w10 at *
                  generalize w9.heap.size = n10 at *
                  go_wp2_with (first | (go_at_call 26; (with_reducible refine (AL.out _).mono ?_); rintro e w11 ⟨rfl, hb⟩; have HF_ := Lib.hid (HF.out.below hb); clear HF; have HF := HF_; clear HF_; have HW_ := Lib.hid (below_step (by repeat (first | exact HW.out | apply below_alloc | apply below_drew)) hb); clear HW; have HW := HW_; clear HW_; clear hb) | (go_at_call 20; have Hx := ints20z _ A8 (some ⟨w11.heap.size, 0, none⟩) c8 3 (HF.out.below (below_alloc (Below.refl _ w11) (.cells #[.int .i64 3, .int .i64 1, .int .i64 2] 3))).a (lit3 w11) HL8.out (by decide); (with_reducible refine Hx.mono ?_); clear Hx; rintro e w12 ⟨rfl, hb⟩; have hba := below_step (below_alloc (Below.refl _ w11) (.cells #[.int .i64 3, .int .i64 1, .int .i64 2] 3)) hb; obtain ⟨q0, q1⟩ := pair_cells (HF.out.below hba).x; have HW_ := Lib.hid (below_step HW.out hba); clear HW; have HW := HW_; clear HW_ hb hba))
                  go_ret
                  exact ⟨rfl, HW.out⟩
end Go.Proofs.Ytacmajlbaenjfaa
