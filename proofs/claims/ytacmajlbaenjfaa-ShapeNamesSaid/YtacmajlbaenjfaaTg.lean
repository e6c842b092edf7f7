/- ShapeNames: plain facts, and contracts at closed arguments. -/
import Derived.Test.YtacmajlbaenjfaaTb
import Derived.Test.YtacmajlbaenjfaaSyb
import Derived.Lib.ConvBytes
namespace Go.Proofs.Ytacmajlbaenjfaa
open Go.RowKit Go.Shelf Go.Proofs.YtacmajlbaenjfaaW.PrintWords Go.Proofs.YtacmajlbaenjfaaW.PrintLast Go.Proofs.YtacmajlbaenjfaaW.PrintMore

/-- A string's bytes, as whole numbers. -/
def intsOf (s : ByteArray) : List Int := s.data.toList.map fun b => (b.toNat : Int)
theorem intsOf_length (s : ByteArray) : (intsOf s).length = s.size := by simp [intsOf]
theorem intsOf_bd (s : ByteArray) : ∀ b ∈ intsOf s, 0 ≤ b ∧ b ≤ 255 := by
  intro b hb
  obtain ⟨c, _, rfl⟩ := List.mem_map.1 hb
  have := c.toNat_lt
  omega
theorem bytes_C (w : World) (s : ByteArray) (hs : s.size ≤ 140737488355328) : (Kd.int .u8).C (Lib.bytesWorld w 5 s) (some ⟨w.heap.size, 0, none⟩) (intsOf s).length (intsOf s) := by
  refine ⟨rfl, by rw [intsOf_length]; omega, fun _ => ⟨_, rfl, fun i x hx => ⟨[.int .u8 x], rfl, rfl, fun j u hu => ?_⟩⟩⟩
  have hi : i < s.size := by
    rw [← intsOf_length]
    exact (List.getElem?_eq_some_iff.1 hx).1
  cases j with
  | zero =>
    simp only [List.getElem?_cons_zero, Option.some.injEq] at hu
    subst hu
    have h := Lib.bytesWorld_cell w 5 s i hi
    have e : (s.data.toList.getD i 0).toNat = x := by
      simp only [intsOf, List.getElem?_map] at hx
      rw [List.getD_eq_getElem?_getD]
      cases h2 : s.data.toList[i]? with
      | none => rw [h2] at hx; simp at hx
      | some y => rw [h2] at hx; simpa using hx
    rw [e] at h
    have e2 : Addr.add ⟨w.heap.size, 0, none⟩ (i * 1 + 0) = ⟨w.heap.size, i, none⟩ := by
      unfold Addr.add
      split
      · rename_i h0; simp at h0; simp
      · simp
    show (Lib.bytesWorld w 5 s).cell? (Addr.add ⟨w.heap.size, 0, none⟩ (i * 1 + 0)) = _
    rw [e2]
    exact h
  | succ j => simp at hu
theorem bytes_below (w : World) (s : ByteArray) : Below w.heap.size w (Lib.bytesWorld w 5 s) := by
  refine ⟨rfl, rfl, rfl, by rw [Lib.bytesWorld_size]; omega, fun i hi => Lib.bytesWorld_at_old w 5 s i hi⟩

theorem app_list (a b : ByteArray) : (a ++ b).data.toList = a.data.toList ++ b.data.toList := by
  rw [ByteArray.data_append, Array.toList_append]
theorem rep_list (l : List UInt8) : (⟨l.toArray⟩ : ByteArray).data.toList = l := rfl
def repS (c : UInt8) (n : Nat) : ByteArray := ⟨(Lib.repeatL [c] n).toArray⟩
theorem repS_size (c : UInt8) (n : Nat) : (repS c n).size = n := by
  unfold repS
  show (Lib.repeatL [c] n).toArray.size = n
  rw [List.size_toArray]
  induction n with
  | zero => rfl
  | succ n ih => simp [Lib.repeatL, ih]
theorem repeat40 (W : World) (c : UInt8) (n : Nat) (hn : n ≤ 1000) : Calls Try.prog 40 #[.string ⟨#[c]⟩, .int .i64 (n : Nat)] W fun e w' => e = .returned (.string (repS c n)) ∧ Below W.heap.size W w' :=
  Try.strings_Repeat ⟨#[c]⟩ n W (by omega) (by show 1 * n ≤ _; omega)
/-- The cells of a row of strings. -/
theorem str_cell {W : World} {b : Nat} {strs : List ByteArray} (h : W.heap[b]? = some (.cells ((strs.map Value.string).toArray) 9 (0, 0))) (k : Nat) (t : ByteArray) (hk : strs[k]? = some t) : W.cell? ⟨b, k, none⟩ = some (.string t) := by
  rw [blk_cell h k]
  simp [hk]
theorem lit1 (W : World) (x : Int) : (Kd.int .i64).C (W.alloc (.cells #[.int .i64 x] 3)) (some ⟨W.heap.size, 0, none⟩) [x].length [x] := by
  have ho : (W.alloc (.cells #[.int .i64 x] 3)).ownsRow W.heap.size 3 1 (.slice (some ⟨W.heap.size, 0, none⟩) 1 1) [x].length (nums .i64 [x]) :=
    ⟨rfl, .inr ⟨W.heap.size, 1, #[.int .i64 x], rfl, Nat.le_refl _, World.alloc_heap_new _ _, Nat.le_refl _, by decide, rfl, rfl⟩⟩
  exact (own_CI ho).2.2
theorem chk27b (W : World) (A B : Option Addr) (c d n m : Nat) (xs ys : List Int) (r : Int) (hC : (Kd.int .i64).C W A xs.length xs) (hD : (Kd.int .i64).C W B ys.length ys) (hl : xs.length ≤ 1000) (hm : ys.length ≤ 1000) (he : chkG xs ys = r) (hn : xs.length = n) (hm' : ys.length = m) :
    Calls Try.prog 27 #[.agg #[.slice A n c, .slice B m d]] W fun e w' => e = .returned (.int .i64 r) ∧ Below W.heap.size W w' :=
  chk27k W A B c d n m xs ys r hC hD hl hm he hn hm'
theorem enc30k (W : World) (A B : Option Addr) (c d n m : Nat) (xs ys zs : List Int) (er : Int) (hC : (Kd.int .i64).C W A xs.length xs) (hD : (Kd.int .i64).C W B ys.length ys) (hx : xs.length ≤ 1000) (hy : ys.length ≤ 1000) (he : encG xs ys = (zs, er)) (hn : xs.length = n) (hm : ys.length = m) :
    Calls Try.prog 30 #[.agg #[.slice A n c, .slice B m d]] W fun e w' => ∃ A2 c2, e = .returned (.tuple #[.slice A2 zs.length c2, .int .i64 er]) ∧ w'.ownsRow W.heap.size 5 1 (.slice A2 zs.length c2) zs.length (nums .u8 zs) ∧ Below W.heap.size W w' := by
  subst hn hm
  have h := EncSig30_any W A B c d xs ys hC hD hx hy
  rw [he] at h
  refine h.mono ?_
  rintro e w' ⟨u, rfl, hu, hb⟩
  obtain ⟨A2, c2, rfl⟩ := own_slice hu
  exact ⟨A2, c2, rfl, hu, hb⟩
theorem dec32k (W : World) (g base : Nat) (v : Value) (bs xs ys : List Int) (er : Int) (k : Nat) (hR : ReelIs W g base v bs 0) (he : decG bs 0 = (xs, ys, er, k)) :
    Calls Try.prog 32 #[.pointer (some ⟨g, 0, none⟩)] W fun e w' => ∃ A c B d, e = .returned (.tuple #[.agg #[.slice A xs.length c, .slice B ys.length d], .int .i64 er]) ∧ (Kd.int .i64).C w' A xs.length xs ∧ (Kd.int .i64).C w' B ys.length ys ∧ Fr (fun i => i = g) W w' := by
  have h := DecSig32_any W g base v bs 0 hR
  rw [he] at h
  refine h.mono ?_
  rintro e w' ⟨u, u2, q, rfl, hu, hu2, hr, hq, hf⟩
  obtain ⟨A, c, rfl⟩ := own_slice hu
  obtain ⟨B, d, rfl⟩ := own_slice hu2
  exact ⟨A, c, B, d, rfl, (own_CI hu).2.2, (own_CI hu2).2.2, hf⟩
theorem same28k (W : World) (A B A2 B2 : Option Addr) (c d c2 d2 n m n2 m2 : Nat) (xs ys xs2 ys2 : List Int) (r : Bool) (hC : (Kd.int .i64).C W A xs.length xs) (hD : (Kd.int .i64).C W B ys.length ys) (hC2 : (Kd.int .i64).C W A2 xs2.length xs2) (hD2 : (Kd.int .i64).C W B2 ys2.length ys2)
    (hr : (decide (xs = xs2) && decide (ys = ys2)) = r) (hn : xs.length = n) (hm : ys.length = m) (hn2 : xs2.length = n2) (hm2 : ys2.length = m2) :
    Calls Try.prog 28 #[.agg #[.slice A n c, .slice B m d], .agg #[.slice A2 n2 c2, .slice B2 m2 d2]] W fun e w' => e = .returned (.bool r) ∧ Below W.heap.size W w' := by
  subst hn hm hn2 hm2 hr
  exact Same28_any W A B A2 B2 c d c2 d2 xs ys xs2 ys2 hC hD hC2 hD2
theorem cell16k (W : World) (A : Option Addr) (c n : Nat) (xs : List Int) (i t er : Int) (hC : (Kd.int .i64).C W A xs.length xs) (he : cellSh xs i = (t, er)) (hn : xs.length = n) :
    Calls Try.prog 16 #[.slice A n c, .int .i64 i] W fun e w' => e = .returned (.tuple #[.int .i64 t, .int .i64 er]) ∧ Below W.heap.size W w' := by
  subst hn
  have h := Cell16_any W A c xs i hC
  rwa [he] at h
theorem read18z (W : World) (s : ByteArray) (xs : List Int) (er : Int) (hs : s.size ≤ 1000000) (he : readSh s.data.toList = (xs, er)) :
    Calls Try.prog 18 #[.string s] W fun e w' => ∃ A c, e = .returned (.tuple #[.slice A xs.length c, .int .i64 er]) ∧ (Kd.int .i64).C w' A xs.length xs ∧ xs.length ≤ c ∧ Below W.heap.size W w' := by
  have h := Read18_any W s hs
  rw [he] at h
  refine h.mono ?_
  rintro e w' ⟨u, rfl, hu, hb⟩
  obtain ⟨A2, c2, rfl⟩ := own_slice hu
  exact ⟨A2, c2, rfl, (own_CI hu).2.2, (own_CI hu).2.1, hb⟩
theorem read34z (W : World) (s : ByteArray) (er : Int) (hs : s.size ≤ 240) (he : readG s.data.toList = ([], [], er)) :
    Calls Try.prog 34 #[.string s] W fun e w' => ∃ A c B d, e = .returned (.tuple #[.agg #[.slice A 0 c, .slice B 0 d], .int .i64 er]) ∧ Below W.heap.size W w' := by
  have h := ReadSig34_any W s hs
  rw [he] at h
  refine h.mono ?_
  rintro e w' ⟨u, u2, rfl, hu, hu2, hb⟩
  obtain ⟨A, c, rfl⟩ := own_slice hu
  obtain ⟨B, d, rfl⟩ := own_slice hu2
  exact ⟨A, c, B, d, rfl, hb⟩
theorem dec14z (W : World) (g base : Nat) (v : Value) (bs : List Int) (hR : ReelIs W g base v bs 0) (he : (decSh bs 0).2.1 = 60 ∧ (decSh bs 0).1 = []) :
    Calls Try.prog 14 #[.pointer (some ⟨g, 0, none⟩)] W fun e w' => ∃ A c, e = .returned (.tuple #[.slice A 0 c, .int .i64 60]) ∧ Fr (fun i => i = g) W w' := by
  have h := Decode14_any W g base v bs 0 hR
  rw [he.1, he.2] at h
  refine h.mono ?_
  rintro e w' ⟨u, rfl, hu, _, hf⟩
  obtain ⟨A2, c2, rfl⟩ := own_slice hu
  exact ⟨A2, c2, rfl, hf⟩
theorem dec32z (W : World) (g base : Nat) (v : Value) (bs : List Int) (hR : ReelIs W g base v bs 0) (he : decG bs 0 = ([], [], 61, 0)) :
    Calls Try.prog 32 #[.pointer (some ⟨g, 0, none⟩)] W fun e w' => ∃ A c B d, e = .returned (.tuple #[.agg #[.slice A 0 c, .slice B 0 d], .int .i64 61]) ∧ Fr (fun i => i = g) W w' :=
  (dec32k W g base v bs [] [] 61 0 hR he).mono fun _ _ ⟨A, c, B, d, he, _, _, hf⟩ => ⟨A, c, B, d, he, hf⟩
/-- One byte behind a row of the call's own: the row stays as it was. -/
theorem append_keep (W : World) (base : Nat) (A : Option Addr) (c : Nat) (zs : List Int) (y : Int) (h : W.ownsRow base 5 1 (.slice A zs.length c) zs.length (nums .u8 zs)) (h0 : 0 < zs.length) (hl : zs.length ≤ 1000) (hb : base ≤ W.heap.size) (ad : Addr) (hy : W.cell? ad = some (.int .u8 y)) (had : ∀ j, j = 0 → ad.add j = ad) :
    ∃ A' c' W', (Builtin.append_ #[23, 23] 23 #[.slice A zs.length c, .slice (some ad) 1 1]).run Try.prog W = .ok (.slice A' (zs.length + 1) c') W' ∧
      W'.ownsRow base 5 1 (.slice A' (zs.length + 1) c') (zs ++ [y]).length (nums .u8 (zs ++ [y])) ∧ (Kd.int .u8).C W' A zs.length zs ∧ Below base W W' := by
  obtain ⟨i0, hi, hz0, hz1, hz2⟩ := info_parts info5
  have hnews : ∀ j u, ([.int .u8 y] : List Value)[j]? = some u → W.cell? (ad.add j) = some u := by
    intro j u hj
    match j, hj with
    | 0, hj => simp at hj; subst hj; rw [had 0 rfl]; exact hy
  have hone : ∀ u ∈ ([.int .u8 y] : List Value), u.oneCell' = true := by intro u hu; simp at hu; subst hu; rfl
  obtain ⟨v', W', hr, hown, hgr, _⟩ := run_append_own (P := Try.prog) W base 23 23 5 i0 (.int .u8 0) 1 1 Try.underlying23 hi hz0 hz1 hz2 rfl (by decide) (.slice A zs.length c) zs.length (nums .u8 zs) h ad 1 1 [.int .u8 y] rfl hnews hone (by unfold maxLen; omega) (by omega) hb
  have hcat : nums .u8 zs ++ [.int .u8 y] = nums .u8 (zs ++ [y]) := by simp [nums]
  rw [hcat] at hown
  have hl1 : (zs ++ [y]).length = zs.length + 1 := by simp
  have hown2 : W'.ownsRow base 5 1 v' (zs ++ [y]).length (nums .u8 (zs ++ [y])) := by rw [hl1]; exact hown
  obtain ⟨A', c', rfl⟩ := own_slice hown2
  rw [hl1] at hown2 hr
  have hbel : Below base W W' := (Below.refl base W).grown hgr hb (fun k hk => (World.ownsRow.lt h k hk).1)
  refine ⟨A', c', W', hr, by rw [hl1]; exact hown2, ?_, hbel⟩
  rcases h.2 with ⟨_, hn⟩ | ⟨g, cap, cur, hv, _, hg, hnc, hcm, hcs, htk⟩
  · omega
  · cases hv
    by_cases hroom : zs.length + 1 ≤ c
    · have hr2 := run_append_room (P := Try.prog) W 23 23 5 i0 Try.underlying23 hi g zs.length c cur hg ad 1 1 [.int .u8 y] (by rw [hz1]; rfl) hnews hone hroom (by rw [hz1, hcs]; simp; omega)
      rw [hr] at hr2
      simp only [Result.ok.injEq, Value.slice.injEq] at hr2
      obtain ⟨⟨hA, _, _⟩, _⟩ := hr2
      subst hA
      refine Kd.C_of_reads (enc := Value.int .u8) (d := (0 : Int)) (h1 := fun _ => rfl) ⟨rfl, by omega, fun _ => ⟨_, rfl, fun j hj => ?_⟩⟩
      have hc := World.ownsRow.cells hown2 (g := g) rfl j (.int .u8 (zs.getD j 0)) (by
        have hj' : j < zs.length := hj
        simp [nums, List.getElem?_append_left, List.getD_eq_getElem?_getD, hj'])
      exact hc
    · have hcz : c = zs.length := by omega
      have holds : ∀ j v, (nums .u8 zs)[j]? = some v → W.cell? ((⟨g, 0, none⟩ : Addr).add j) = some v := fun j u hj => World.ownsRow.cells h (g := g) rfl j u hj
      have hr2 := run_append_grow (P := Try.prog) W 23 23 5 i0 (.int .u8 0) Try.underlying23 hi hz0 ⟨g, 0, none⟩ zs.length c (nums .u8 zs) (by rw [hz1]; simp [nums]) holds ad 1 1 [.int .u8 y] (by rw [hz1]; rfl) hnews (by omega) (by omega) (by rw [hz2]; have := nextslicecap_le (need := zs.length + 1) (old := c) (by omega); omega)
      rw [hr] at hr2
      simp only [Result.ok.injEq, Value.slice.injEq] at hr2
      obtain ⟨_, hW⟩ := hr2
      rw [hW]
      exact Kd.C_below (row_C h).2.2 (by repeat (first | exact Below.refl _ _ | apply below_alloc | apply below_drew))

theorem n_of_wide : (typesT (repS 73 16).data.toList).1 = [1, 1, 1, 1, 1, 1, 1, 1, 1, 1, 1, 1, 1, 1, 1, 1] := by decide +kernel
theorem n_of_wideI : (typesT (repS 73 16 ++ ⟨#[73]⟩).data.toList).1 = [1, 1, 1, 1, 1, 1, 1, 1, 1, 1, 1, 1, 1, 1, 1, 1, 1] := by rw [app_list]; decide +kernel
theorem n_of_p64 : (typesT (repS 80 64).data.toList).1 = List.replicate 64 4 := by decide +kernel
theorem n_of_p60 : (typesT (repS 80 60).data.toList).1 = List.replicate 60 4 := by decide +kernel
theorem n_chk1 : (if shapeOk [1, 1, 1, 1, 1, 1, 1, 1, 1, 1, 1, 1, 1, 1, 1, 1] then 0 else 60 : Int) = 0 := by decide +kernel
theorem n_chk2 : (if shapeOk [1, 1, 1, 1, 1, 1, 1, 1, 1, 1, 1, 1, 1, 1, 1, 1, 1] then 0 else 60 : Int) = 60 := by decide +kernel
theorem n_chk3 : (if shapeOk [] then 0 else 60 : Int) = 60 := by decide +kernel
theorem n_chk4 : (if shapeOk [0] then 0 else 60 : Int) = 60 := by decide +kernel
theorem n_chk5 : (if shapeOk [5] then 0 else 60 : Int) = 60 := by decide +kernel
theorem n_chk6 : (if shapeOk [-1] then 0 else 60 : Int) = 60 := by decide +kernel
theorem n_sig1 : chkG (List.replicate 64 4) [] = 0 := by decide +kernel
theorem n_sig2 : chkG (List.replicate 60 4) [1, 2, 3, 1] = 0 := by decide +kernel
theorem n_sig3 : chkG (List.replicate 60 4) [1, 2, 3, 1, 2] = 61 := by decide +kernel
theorem n_sig4 : chkG [9] [] = 61 := by decide +kernel
theorem n_enc1 : encG [1, 4] [2] = ([2, 12, 1, 1], 0) := by decide +kernel
theorem n_enc2 : encG [] [] = ([0, 0], 0) := by decide +kernel
theorem n_dec1 : decG [2, 12, 1, 1, 7] 0 = ([1, 4], [2], 0, 4) := by decide +kernel
theorem n_cell1 : cellSh [1, 2, 3] 2 = (3, 0) := by decide +kernel
theorem n_cell2 : cellSh [1, 2, 3] 3 = (0, 60) := by decide +kernel
theorem n_cell3 : cellSh [1, 2, 3] (-1) = (0, 60) := by decide +kernel
theorem n_cell4 : cellSh [4] 0 = (0, 60) := by decide +kernel
def strs1 : List ByteArray := [⟨#[]⟩, ⟨#[80]⟩, ⟨#[105]⟩, ⟨#[73, 88]⟩, ⟨#[73, 32, 82]⟩, repS 73 16 ++ ⟨#[82]⟩, ⟨#[195, 169]⟩]
def strs2 : List ByteArray := [⟨#[]⟩, ⟨#[73]⟩, ⟨#[73, 62, 80]⟩, ⟨#[73, 62, 62, 82]⟩, ⟨#[62, 62]⟩, ⟨#[73, 62, 32, 82]⟩, ⟨#[120, 62, 73]⟩, repS 73 60 ++ ⟨#[62, 82, 82, 82, 82, 82]⟩]
def strs3 : List ByteArray := [⟨#[]⟩, ⟨#[0]⟩, ⟨#[1]⟩, ⟨#[1, 3]⟩, ⟨#[17, 0, 0, 0, 0, 0]⟩, ⟨#[4, 255]⟩, ⟨#[128, 1, 0]⟩]
def strs4 : List ByteArray := [⟨#[]⟩, ⟨#[0]⟩, ⟨#[1, 3, 1, 3]⟩, ⟨#[1, 0, 1]⟩, ⟨#[65, 0]⟩]
theorem strs1_ok : ∀ t ∈ strs1, t.size ≤ 100 ∧ readSh t.data.toList = ([], 60) := by
  intro t ht
  simp only [strs1, List.mem_cons, List.not_mem_nil, or_false] at ht
  rcases ht with rfl | rfl | rfl | rfl | rfl | rfl | rfl
  · decide +kernel
  · decide +kernel
  · decide +kernel
  · decide +kernel
  · decide +kernel
  · refine ⟨by rw [ByteArray.size_append, repS_size]; decide, ?_⟩
    rw [app_list]; decide +kernel
  · decide +kernel
theorem strs2_ok : ∀ t ∈ strs2, t.size ≤ 100 ∧ readG t.data.toList = ([], [], 61) := by
  intro t ht
  simp only [strs2, List.mem_cons, List.not_mem_nil, or_false] at ht
  rcases ht with rfl | rfl | rfl | rfl | rfl | rfl | rfl | rfl
  · decide +kernel
  · decide +kernel
  · decide +kernel
  · decide +kernel
  · decide +kernel
  · decide +kernel
  · decide +kernel
  · refine ⟨by rw [ByteArray.size_append, repS_size]; decide, ?_⟩
    rw [app_list]; decide +kernel
theorem strs3_ok : ∀ t ∈ strs3, t.size ≤ 100 ∧ (decSh (intsOf t) 0).2.1 = 60 ∧ (decSh (intsOf t) 0).1 = [] := by decide +kernel
theorem strs4_ok : ∀ t ∈ strs4, t.size ≤ 100 ∧ decG (intsOf t) 0 = ([], [], 61, 0) := by decide +kernel
theorem n_last1 : readSh (⟨#[70, 73, 82]⟩ : ByteArray).data.toList = ([3, 1, 2], 0) := by decide +kernel
theorem n_last2 : readG (⟨#[62]⟩ : ByteArray).data.toList = ([], [], 0) := by decide +kernel
end Go.Proofs.Ytacmajlbaenjfaa
