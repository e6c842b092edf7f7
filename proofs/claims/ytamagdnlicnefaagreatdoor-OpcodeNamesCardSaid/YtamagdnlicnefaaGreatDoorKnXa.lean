/- value.Text: types' letters; strings.Builder's copyCheck, WriteString. -/
import Derived.BigQuiet
import Derived.Deep.QuietTactic
import Derived.Lib.OthersKept
import Derived.Test.YtamagdnlicnefaaGreatDoorKnShj
import Derived.Test.YtamagdnlicnefaaGreatDoorKnT1
namespace Go.Proofs.YtamagdnlicnefaaGreatDoor
open Go.RowKit Go.Shelf Go.Proofs.YtamagdnlicnefaaGreatDoorW.PrintWords Go.Proofs.YtamagdnlicnefaaGreatDoorW.PrintLast Go.Proofs.YtamagdnlicnefaaGreatDoorW.PrintMore

def BAt (W : World) (b base : Nat) (p v : Value) (bs : List Value) : Prop := W.heap[b]? = some (.cells #[p, v] 88 (0, 0)) ∧ W.ownsRowF base 5 1 v bs.length bs
def BIs (W : World) (b base : Nat) (v : Value) (bs : List Value) : Prop := BAt W b base (.pointer none) v bs ∨ BAt W b base (.pointer (some ⟨b, 0, none⟩)) v bs
theorem ownF_fr {S : Nat → Prop} {w W : World} {base n : Nat} {v : Value} {xs : List Value} (h : w.ownsRowF base 5 1 v n xs) (hF : Fr S w W) (hn : ∀ b, v.ownBlock = some b → ¬ S b) : W.ownsRowF base 5 1 v n xs := by
  refine ⟨h.1, ?_⟩
  rcases h.2 with hn' | ⟨g, cap, cur, fz, rfl, hb, hg, rest⟩
  · exact .inl hn'
  · exact .inr ⟨g, cap, cur, fz, rfl, hb, (hF.block g (blk_lt hg) (hn g rfl)).trans hg, rest⟩
set_option maxRecDepth 100000 in
set_option maxHeartbeats 1000000 in
theorem copyCheck81_any (w : World) (b base : Nat) (v : Value) (bs : List Value) (h : BIs w b base v bs) :
    Calls Tryz.prog 70 #[.pointer (some ⟨b, 0, none⟩)] w fun e w' => e = .returned (.tuple #[]) ∧ BAt w' b base (.pointer (some ⟨b, 0, none⟩)) v bs ∧ Fr (fun i => i = b) w w' := by
  rcases h with ⟨hb, ho⟩ | ⟨hb, ho⟩
  · have c0 := blk_cell hb 0
    have f0 := blk_frozen hb 0
    simp only [List.getElem?_toArray, List.getElem?_cons_zero] at c0
    have hne := Lib.ownBlock_neF ho hb (by decide)
    have HB := Lib.hid hb
    have hl := blk_lt hb
    obtain ⟨j, hj, hjs⟩ := Option.map_eq_some_iff.1 (show (Tryz.prog.info? 88).map (·.size) = some 2 by kernel_rfl)
    have hsh : w.shape? b = some (88, 2) := by simp [World.shape?, hb]
    clear hb
    go_enter Tryz.func70, Tryz.ntmps70
    go_wp2
    rw [Lib.run_to_unsafe w ⟨b, 0, none⟩ Tryz.underlying86 Tryz.underlying144 hj (by rw [hjs]; decide) hsh (Nat.zero_lt_succ 1)]
    simp only [Result.andThen]
    rw [Oper.upon_value]
    go_wp2
    rw [run_callFunc_extern Tryz.func97 (by kernel_rfl) (by kernel_rfl) (by kernel_rfl) (e := Extern.AbiNoEscape.same) (by kernel_rfl)]
    rw [Lib.run_noEscape]
    simp only [Result.andThen]
    rw [Oper.upon_value]
    go_wp2
    rw [Lib.run_from_unsafe w ⟨b, 0, none⟩ Tryz.underlying144 Tryz.underlying86 hj hsh (by kernel_rfl)]
    simp only [Result.andThen]
    rw [Oper.upon_value]
    go_wp2
    go_end0
    refine ⟨rfl, ⟨?_, ownF_fr ho ((Fr.refl (fun i => i = b) w).set ⟨b, 0, none⟩ _ (fun _ => rfl)) (fun k hk e => hne (by rw [hk, e]))⟩, (Fr.refl _ _).set _ _ (fun _ => rfl)⟩
    have := blk_set HB.out 0 (.pointer (some ⟨b, 0, none⟩))
    simpa using this
  · have c0 := blk_cell hb 0
    simp only [List.getElem?_toArray, List.getElem?_cons_zero] at c0
    have HB := Lib.hid hb
    obtain ⟨j, hj, _⟩ := Option.map_eq_some_iff.1 (show (Tryz.prog.info? 88).map (·.size) = some 2 by kernel_rfl)
    clear hb
    go_enter Tryz.func70, Tryz.ntmps70
    go_wp2
    rw [Lib.run_neq_ptr_same w _ Tryz.underlying86 hj]
    go_wp2
    go_end0
    exact ⟨rfl, ⟨HB.out, ho⟩, Fr.refl _ _⟩
theorem BAt.grow {w w1 w2 : World} {b base : Nat} {v v' p : Value} {bs xs : List Value} {W : World} (h1 : BAt w1 b base p v bs) (hf : Fr (fun i => i = b) w w1)
    (hA : Below w1.heap.size w1 W) (hown : w2.ownsRowF base 5 1 v' (bs.length + xs.length) (bs ++ xs)) (hg : W.grownBy w2 v.ownBlock) :
    BAt (w2.setCell ⟨b, 1, none⟩ v') b base p v' (bs ++ xs) ∧ Fr (fun i => i = b ∨ v.ownBlock = some i) w (w2.setCell ⟨b, 1, none⟩ v') := by
  have hlt := blk_lt h1.1
  have hne := Lib.ownBlock_neF h1.2 h1.1 (by decide)
  have hb2 : w2.heap[b]? = some (.cells #[p, v] 88 (0, 0)) := (hg.block b (Nat.lt_of_lt_of_le hlt hA.size) (fun e => hne e.symm)).trans ((hA.block b hlt).trans h1.1)
  have hne2 := Lib.ownBlock_neF hown hb2 (by decide)
  have hF : Fr (fun i => i = b ∨ v.ownBlock = some i) w w2 := by
    refine (Fr.trans (S := fun i => i = b ∨ v.ownBlock = some i) (T := fun i => i = b) ⟨hf.os, hf.tape, hf.output, hf.size, fun i hi hn => hf.block i hi (fun e => hn (.inl e))⟩ (Fr.of_below hA) (fun i _ e => .inl e)).trans (T := fun i => v.ownBlock = some i) (Fr.grown hg (fun i _ e => e)) (fun i _ e => .inr e)
  refine ⟨⟨?_, ?_⟩, hF.set _ _ (fun _ => .inl rfl)⟩
  · have := blk_set hb2 1 v'
    simpa using this
  · rw [List.length_append]
    exact ownF_fr hown ((Fr.refl (fun i => i = b) w2).set ⟨b, 1, none⟩ v' (fun _ => rfl)) (fun k hk e => hne2 (by rw [hk, e]))
set_option maxRecDepth 100000 in
set_option maxHeartbeats 1000000 in
theorem WriteString63_any (w : World) (b base : Nat) (v : Value) (bs : List Value) (s : ByteArray) (h : BIs w b base v bs) (hlen : bs.length + s.size ≤ 140737488355328) (hbase : base ≤ w.heap.size) :
    Calls Tryz.prog 49 #[.pointer (some ⟨b, 0, none⟩), .string s] w fun e w' => ∃ r v', e = .returned r ∧ BAt w' b base (.pointer (some ⟨b, 0, none⟩)) v' (bs ++ Lib.strCells s) ∧ Fr (fun i => i = b ∨ v.ownBlock = some i) w w' := by
  obtain ⟨i0, hi, hz0, hz1, hz2⟩ := info_parts info5
  go_enter Tryz.func49, Tryz.ntmps49
  go_wp2_with (go_at_call 70; refine (copyCheck81_any _ b base v bs h).mono ?_)
  rintro e w1 ⟨rfl, h1, hf1⟩
  have c1 : w1.cell? ⟨b, 1, none⟩ = some v := blk_cell h1.1 1
  have H1 := Lib.hid h1
  have hown := h1.2
  have hs1 := hf1.size
  clear h1
  go_wp2_with (at_builtin; refine Lib.wpList_append_own_stringF _ rfl _ _ 56 9 rfl base 5 i0 Tryz.underlying56 Tryz.underlying9 hi hz0 hz1 hz2 _ _ _ rfl hown s rfl ?c3 ?c4 ?c5 ?_)
  case c3 => unfold maxLen; omega
  case c4 => omega
  case c5 => omega
  intro v' w2 hown' hgrow _
  obtain ⟨ao, n', cap, rfl⟩ : ∃ ao n' cap, v' = .slice ao n' cap := by
    rcases hown'.2 with ⟨hv, _⟩ | ⟨g, cap, cur, fz, hv, _⟩
    · exact ⟨_, _, _, hv⟩
    · exact ⟨_, _, _, hv⟩
  obtain ⟨j1, j2⟩ := H1.out.grow hf1 (Below.refl _ _) (xs := Lib.strCells s) (by rw [Lib.strCells_length]; exact hown') hgrow
  have hne := Lib.ownBlock_neF H1.out.2 H1.out.1 (by decide)
  have hb2 : w2.heap[b]? = some (.cells #[.pointer (some ⟨b, 0, none⟩), v] 88 (0, 0)) := (hgrow.block b (blk_lt H1.out.1) (fun e => hne e.symm)).trans H1.out.1
  have d1 : w2.cell? ⟨b, 1, none⟩ = some v := blk_cell hb2 1
  have f1 := blk_frozen hb2 1
  have HJ := Lib.hid j1
  have HJ2 := Lib.hid j2
  clear j1 j2 hb2 hne
  go_wp2
  go_ret2
  exact ⟨_, _, rfl, HJ.out, HJ2.out⟩
end Go.Proofs.YtamagdnlicnefaaGreatDoor
namespace Go.Proofs.YtamagdnlicnefaaGreatDoor
open Go.RowKit Go.Shelf Go.Proofs.YtamagdnlicnefaaGreatDoorW.PrintWords Go.Proofs.YtamagdnlicnefaaGreatDoorW.PrintLast Go.Proofs.YtamagdnlicnefaaGreatDoorW.PrintMore

theorem rd_get {xs : List Int} {k : Nat} (h : k < xs.length) : xs[k]? = some (rd xs k) := by
  unfold rd
  rw [List.getD_eq_getElem?_getD, Int.toNat_natCast, List.getElem?_eq_getElem h]; rfl
def ltr (t : Int) : UInt8 := if t = 1 then 73 else if t = 2 then 82 else if t = 3 then 70 else 80
def textL (xs : List Int) : List UInt8 := if xs.all knownT ∧ xs.length ≤ 1024 then xs.map ltr else []
theorem letter_any (t : Int) (ht : knownT t = true) (w : World) : Calls Tryz.prog 36 #[.int .i64 t] w fun e w' => e = .returned (.string ⟨#[ltr t]⟩) ∧ Below w.heap.size w w' := by
  have h4 : t = 1 ∨ t = 2 ∨ t = 3 ∨ t = 4 := by unfold knownT at ht; simp at ht; omega
  have e : (⟨(letterA t).toArray⟩ : ByteArray) = ⟨#[ltr t]⟩ := by rcases h4 with rfl | rfl | rfl | rfl <;> rfl
  rw [← e]
  exact Letter36_any t w
theorem BIs.isF {W : World} {b base B : Nat} {v : Value} {bs : List Value} (h : BIs W b base v bs) (hb : B ≤ b) (hB : B ≤ base) : Lib.IsBuilderF 88 5 B b bs W := by
  have less : ∀ n, W.ownsRowF base 5 1 v n bs → W.ownsRowF B 5 1 v n bs := by
    rintro n ⟨h1, h2⟩
    refine ⟨h1, ?_⟩
    rcases h2 with h2 | ⟨g, cap, cur, fz, hv, hg, rest⟩
    · exact .inl h2
    · exact .inr ⟨g, cap, cur, fz, hv, by omega, rest⟩
  rcases h with ⟨h1, h2⟩ | ⟨h1, h2⟩
  · exact .inl ⟨hb, v, h1, less _ h2, Lib.ownBlock_neF h2 h1 (by decide)⟩
  · exact .inr ⟨hb, v, h1, less _ h2, Lib.ownBlock_neF h2 h1 (by decide)⟩
theorem BIs.lo {W : World} {b base : Nat} {v : Value} {bs : List Value} (h : BIs W b base v bs) (i : Nat) (hi : v.ownBlock = some i) : base ≤ i :=
  h.elim (fun h => (h.2.lt i hi).1) (fun h => (h.2.lt i hi).1)
theorem BIs.below {W W' : World} {b base : Nat} {v : Value} {bs : List Value} (h : BIs W b base v bs) (hb : Below W.heap.size W W') : BIs W' b base v bs := by
  have key : ∀ p, BAt W b base p v bs → BAt W' b base p v bs := fun p ⟨h1, h2⟩ => ⟨(hb.block b (blk_lt h1)).trans h1, ownF_fr h2 (Fr.of_below (S := fun _ => False) hb) (fun _ _ h => h)⟩
  exact h.elim (fun h => .inl (key _ h)) (fun h => .inr (key _ h))
set_option maxRecDepth 100000 in
set_option maxHeartbeats 2000000 in
theorem Text52_any (w : World) (A : Option Addr) (c : Nat) (xs : List Int) (hC : (Kd.int .i64).C w A xs.length xs) :
    Calls Tryz.prog 51 #[.slice A xs.length c] w fun e w' => e = .returned (.string ⟨(textL xs).toArray⟩) ∧ Below w.heap.size w w' := by
  by_cases hl : xs.length ≤ 1024
  case neg =>
    have hT : textL xs = [] := by unfold textL; rw [if_neg (fun h => hl h.2)]
    have hl' : (1024 : Int) < (xs.length : Int) := by omega
    rw [hT]
    clear hC hT hl
    go_enter Tryz.func51, Tryz.ntmps51
    go_wp2
    go_ret
    exact ⟨rfl, Below.refl _ _⟩
  case pos =>
    have hl' : ¬ (1024 : Int) < (xs.length : Int) := by omega
    have HC := Lib.hid hC
    have hB0 := below_alloc (Below.refl w.heap.size w) (.cells #[.pointer none, .slice none 0 0] 88)
    have hbi : BIs (w.alloc (.cells #[.pointer none, .slice none 0 0] 88)) w.heap.size w.heap.size (.slice none 0 0) [] := .inl ⟨World.alloc_heap_new _ _, World.ownsRowF_nil _ _ _ _⟩
    have HB0 := Lib.hid hB0
    have HBI := Lib.hid hbi
    obtain ⟨n, hn⟩ : ∃ n, xs.length = n := ⟨_, rfl⟩
    have HN := Lib.hid hn
    rw [hn] at hl hl' ⊢
    clear hC hB0 hbi hn
    go_enter Tryz.func51, Tryz.ntmps51
    go_wp2
    go_loopw [11] (fun p wr => ∃ (k : Nat) (v : Value), k ≤ n ∧ p = .int .i64 k ∧ (xs.take k).all knownT = true ∧ Aside0 (BIs wr w.heap.size w.heap.size v (Lib.byteCells ((xs.take k).map ltr))) ∧ Aside0 (Below w.heap.size w wr)) (fun p _ => n - (intOf p).toNat)
    case atStart => exact ⟨0, _, by omega, rfl, rfl, Aside0.mk HBI.out, Aside0.mk HB0.out⟩
    case round =>
      obtain ⟨k, v, hk, rfl, hall, HI, HB⟩ := hrel
      by_cases hp : k < n
      · have hp2 : (k : Int) < (n : Int) := by omega
        obtain ⟨ad, hA, e1⟩ := Kd.at_int (Kd.C_below HC.out HB.out) (k : Int) (by omega) (by have := HN.out; omega)
        subst hA
        rw [Int.toNat_natCast] at e1
        obtain ⟨t, ht⟩ : ∃ t, rd xs (k : Int) = t := ⟨_, rfl⟩
        rw [ht] at e1
        have htm : t ∈ xs := by rw [← ht]; exact List.mem_of_getElem? (rd_get (by have := HN.out; omega))
        have hts : xs.take (k + 1) = xs.take k ++ [t] := by
          rw [List.take_add_one, rd_get (xs := xs) (by have := HN.out; omega), ht]; rfl
        cases hkt : knownT t
        · have hT : textL xs = [] := by
            unfold textL
            rw [if_neg]
            intro ⟨h1, _⟩
            have := List.all_eq_true.1 h1 t htm
            rw [hkt] at this; cases this
          have HKn := Lib.hid (known_any t false hkt.symm)
          have HT := Lib.hid hT
          clear hT hall htm hts ht hkt
          go_wp2_with (go_at_call 10; refine (HKn.out _).mono ?_; rintro e w3 ⟨rfl, mk, rfl⟩)
          go_ret
          rw [HT.out]
          exact ⟨rfl, pw_below_drewN HB.out _⟩
        · have HKn := Lib.hid (known_any t true hkt.symm)
          have HLt := Lib.hid (letter_any t hkt)
          have hle : (Lib.byteCells ((xs.take k).map ltr)).length + (⟨#[ltr t]⟩ : ByteArray).size ≤ 140737488355328 := by
            rw [Lib.byteCells_length, List.length_map, List.length_take, show (⟨#[ltr t]⟩ : ByteArray).size = 1 from rfl]; omega
          have HTS := Lib.hid hts
          have HAL := Lib.hid hall
          have HKT := Lib.hid hkt
          clear hall htm hts ht hkt
          go_wp2_with (first | (go_at_call 10; refine (HKn.out _).mono ?_; rintro e w3 ⟨rfl, mk, hmk⟩; have HB3 := Lib.hid (pw_below_drewN (Below.refl wr.heap.size wr) mk); rw [← hmk] at HB3; clear hmk) | (go_at_call 36; refine (HLt.out _).mono ?_; rintro e w4 ⟨rfl, hb4⟩; have HB4 := Lib.hid (below_step HB3.out hb4); clear hb4) | (go_at_call 49; refine (WriteString63_any _ w.heap.size w.heap.size v _ ⟨#[ltr t]⟩ (HI.out.below HB4.out) hle (Nat.le_trans HB.out.size HB4.out.size)).mono ?_; rintro e w5 ⟨r5, v5, rfl, h5, f5⟩; have H5 := Lib.hid h5; have F5 := Lib.hid f5; clear h5 f5))
          go_roundw
          case rel =>
            refine ⟨k + 1, v5, by omega, by go_num, ?_, Aside0.mk (.inr ?_), Aside0.mk ?_⟩
            · rw [HTS.out, List.all_append, HAL.out]; simp [HKT.out]
            · rw [HTS.out, List.map_append, Lib.byteCells_append]; exact H5.out
            · refine (below_then HB.out HB.out.size HB4.out).trans (F5.out.below (Nat.le_trans HB.out.size HB4.out.size) (fun i hi hS => ?_))
              rcases hS with h | h
              · omega
              · have := HI.out.lo i h; omega
          case measure => simp [intOf]; omega
      · obtain rfl : k = n := by omega
        have hp2 : ¬ (k : Int) < (k : Int) := by omega
        have e1 : xs.take k = xs := List.take_of_length_le (by have := HN.out; omega)
        rw [e1] at hall HI
        have hT : textL xs = xs.map ltr := by unfold textL; rw [if_pos ⟨hall, by have := HN.out; omega⟩]
        have HT := Lib.hid hT
        clear hall hT e1
        go_wp2_with (go_at_call 50; refine (Tryz.Builder_String_any_f w.heap.size w.heap.size _ _ (HI.out.isF (Nat.le_refl _) (Nat.le_refl _)) HB.out.size).mono ?_; rintro e w3 ⟨rfl, _, hb3⟩)
        go_ret
        rw [HT.out]
        exact ⟨rfl, HB.out.trans hb3⟩
end Go.Proofs.YtamagdnlicnefaaGreatDoor
