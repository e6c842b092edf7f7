/- AsmWords: strings.Lines' iterator yields a text's pieces. -/
import Derived.Test.YtfodaegdkcbenaaPb
import Derived.Test.YtfodaegdkcbenaaRb
import Derived.Test.YtfodaegdkcbenaaAa
import Derived.Test.YtfodaegdkcbenaaShelf
import Derived.RangeFuncBound
import Derived.RangeFuncBox
import Derived.Shelf.Abstract
import Derived.Shelf.RegionOpen
import Derived.OwnWalkIn
import Derived.TacticsInMore
import Derived.LoopNIn
import Derived.LoopIn
import Derived.WalkLawsBesides
import Derived.WalkSpells
import Derived.Outline
import Derived.Lib.IndexLaws
import Derived.IntWalk
namespace Go.Proofs.Ytfodaegdkcbenaa
open Go.RowKit Go.Shelf Go.Proofs.YtfodaegdkcbenaaW.PrintWords Go.Proofs.YtfodaegdkcbenaaW.PrintLast Go.Proofs.YtfodaegdkcbenaaW.PrintMore
attribute [local go_sem] Oper.semAt_some
@[local go_sem] theorem wide_fn (f : Nat) : Fence.wide.fn f = True := rfl
@[local go_sem] theorem wide_depth : Fence.wide.depth.isSome = false := rfl

/-- What a text's box holds. -/
def boxLen (W : World) (b : Nat) : Nat := match W.cell? ⟨b, 0, none⟩ with | some (.string r) => r.size | _ => 0
theorem boxLen_at {W : World} {b : Nat} {r : ByteArray} (h : W.heap[b]? = some (.cells #[.string r] 9 (0, 0))) : boxLen W b = r.size := by
  unfold boxLen
  rw [blk_cell h 0]
  rfl

/-- What the text r falls into, behind what was yielded. -/
def LS (s : ByteArray) (pre : List ByteArray) (r : ByteArray) : Prop := pre.map (·.data.toList) ++ pieces r.data.toList = pieces s.data.toList
theorem LS_next {s r : ByteArray} {pre : List ByteArray} {o : Nat} (h : LS s pre r) (ho : Lib.indexByte r.data.toList 10 = o) (hor : o < r.size) : LS s (pre ++ [r.extract 0 (o + 1)]) (r.extract (o + 1) r.size) := by
  unfold LS at h ⊢
  obtain ⟨h1, h2⟩ := Lib.indexByte_some ho
  have hl : r.data.toList.length = r.size := by simp
  have ho' : o < r.data.toList.length := by omega
  have h10 : r.data.toList[o] = 10 := by
    rw [List.getElem?_eq_getElem ho'] at h1
    exact Option.some.inj h1
  have hp := pieces_idx r.data.toList o ho' h10 (fun b hb e => by
    obtain ⟨j, hj, rfl⟩ := List.mem_iff_getElem.1 hb
    rw [List.length_take] at hj
    rw [List.getElem_take] at e
    exact h2 j (by omega) (by rw [List.getElem?_eq_getElem (by omega), e]))
  rw [hp] at h
  rw [List.map_append, List.map_cons, List.map_nil, extract_sub, extract_sub, List.append_assoc, List.singleton_append]
  rw [show sub r.data.toList 0 (o + 1) = r.data.toList.take (o + 1) by simp [sub], show sub r.data.toList (o + 1) r.size = r.data.toList.drop (o + 1) by unfold sub; exact List.take_of_length_le (by simp)]
  exact h
theorem LS_last {s r : ByteArray} {pre : List ByteArray} (h : LS s pre r) (ho : Lib.indexByte r.data.toList 10 = -1) (hr : 0 < r.size) : LS s (pre ++ [r]) ⟨#[]⟩ := by
  unfold LS at h ⊢
  have h2 := Lib.indexByte_none ho
  have hl : r.data.toList.length = r.size := by simp
  have hp := pieces_last r.data.toList (by intro e; rw [e] at hl; simp at hl; omega) (fun b hb e => by
    obtain ⟨j, hj, rfl⟩ := List.mem_iff_getElem.1 hb
    exact h2 j (by rw [List.getElem?_eq_getElem hj, e]))
  rw [hp] at h
  rw [List.map_append, List.map_cons, List.map_nil]
  rw [show (⟨#[]⟩ : ByteArray).data.toList = [] from rfl, pieces_nil, List.append_nil]
  exact h
theorem LS_done {s r : ByteArray} {pre : List ByteArray} (h : LS s pre r) (hr : r.size = 0) : pre.map (·.data.toList) = pieces s.data.toList := by
  unfold LS at h
  have : r.data.toList = [] := by
    have hl : r.data.toList.length = r.size := by simp
    exact List.eq_nil_of_length_eq_zero (by omega)
  rw [this, pieces_nil, List.append_nil] at h
  exact h
theorem LS_pre {s r x : ByteArray} {pre : List ByteArray} (h : LS s (pre ++ [x]) r) : (pre ++ [x]).map (·.data.toList) <+: pieces s.data.toList := ⟨_, h⟩

theorem ix20 (r : ByteArray) (o : Int) (hx : Lib.indexByte r.data.toList 10 = o) (w : World) : Calls Try.prog 20 #[.string r, .int .u8 10] w fun e w' => e = .returned (.int .i64 o) ∧ w = w' :=
  (Try.strings_IndexByte r 10 w).mono fun _ _ ⟨h1, h2⟩ => ⟨by rw [h1, ← hx]; rfl, h2.symm⟩
theorem cut_str_h (s : ByteArray) (k : Nat) (h2 : k ≤ s.size) (W : World) : (Instr.slice 9 (.string s) none (some (.int .i64 k)) none).run Try.prog W = .ok (.string (s.extract 0 k)) W := by
  have h := run_slice_string_h (P := Try.prog) (w := W) (t := 9) (s := s) Try.underlying9 .i64 (k : Int) (by omega) (by omega)
  simpa using h
set_option maxRecDepth 100000 in
set_option maxHeartbeats 4000000 in
theorem lines19_seq (n bs B : Nat) (s : ByteArray) (w : World) (hs : s.size ≤ 140737488351232) (hw : w.heap[bs]? = some (.cells #[.string s] 9 (0, 0))) :
    SeqG Fence.wide n Try.prog 19 #[.pointer (some ⟨bs, 0, none⟩)] (fun x : ByteArray => #[.string x]) (fun pre x _ => (pre ++ [x]).map (·.data.toList) <+: pieces s.data.toList) (fun i => i = bs)
      (fun xs => xs.map (·.data.toList) = pieces s.data.toList) (fun _ => True) B w := by
  intro l J Jx W hB hbel hJ hJx hY h0
  have hb0 := (hbel.block bs (Array.getElem?_eq_some_iff.1 hw).1).trans hw
  have HJ := Lib.hid hJ
  have HJx := Lib.hid hJx
  have HY := Lib.hid hY
  have hLS : LS s [] s := by unfold LS; rfl
  clear hJ hJx hY hw hbel hB
  refine callsIn_of_wp Try.func19 rfl trivial ?_ rfl
  simp only [Try.ntmps19, List.size_toArray, List.length_cons, List.length_nil, Nat.reduceAdd, Nat.reduceSub, Array.replicate_succ, Array.replicate_zero, List.push_toArray, List.append_toArray, List.nil_append, List.cons_append]
  gi_wp2
  gi_loopw [3] (fun _ wr => ∃ (pre : List ByteArray) (r : ByteArray), r.size ≤ s.size ∧ Hid (LS s pre r) ∧ J pre wr ∧ wr.heap[bs]? = some (.cells #[.string r] 9 (0, 0)))
    (fun _ wr => boxLen wr bs)
  case atStart => exact ⟨[], s, Nat.le_refl _, Lib.hid hLS, h0, hb0⟩
  case round =>
    clear hb0 h0 hLS
    obtain ⟨pre, r, hrs, hLS, hJr, hb⟩ := hrel
    have hc := blk_cell hb 0
    have hf := blk_frozen hb 0
    simp at hc
    by_cases hr : 0 < r.size
    · have hge := Lib.indexByte_ge r.data.toList 10
      by_cases hx : Lib.indexByte r.data.toList 10 = -1
      · have hn := LS_last hLS.out hx hr
        have HIX := Lib.hid (ix20 r (-1) hx)
        have HN := Lib.hid hn
        clear hx hge hn hLS
        gi_wp2_with (gi_at_call 20; refine (callsIn_wide.2 (HIX.out _)).mono ?_; rintro e w' ⟨rfl, rfl⟩)
        have hJ2 : J pre (wr.setCell ⟨bs, 0, none⟩ (.string ⟨#[]⟩)) := HJ.out _ _ _ hJr (Fr.set (S := fun i => i = bs) (Fr.refl _ _) _ _ (fun _ => rfl))
        have hb2 : (wr.setCell ⟨bs, 0, none⟩ (.string ⟨#[]⟩)).heap[bs]? = some (.cells #[.string ⟨#[]⟩] 9 (0, 0)) := blk_set hb 0 _
        obtain ⟨fn, tmps, assign, body, hy, hR⟩ := HY.out pre r _ hJ2 (LS_pre HN.out)
        have hl2 : boxLen wr bs = r.size := boxLen_at hb
        generalize wr.setCell ⟨bs, 0, none⟩ (.string ⟨#[]⟩) = W2 at *
        have HL2 := Lib.hid hl2
        have HB2 := Lib.hid hb2
        clear hl2 hb2 hc hf hb hJr hJ2
        rw [hy]
        refine ⟨nofun, (roundIn_wide0 hR).mono ?_⟩
        rintro e W3 (⟨rfl, hJ3, hk3⟩ | ⟨rfl, hJx3, _⟩)
        · have HB3 := Lib.hid (hk3.at rfl HB2.out)
          clear hk3
          gi_wp2
          go_roundw
          case rel => exact ⟨_, _, Nat.zero_le _, HN, hJ3, HB3.out⟩
          case measure => rw [boxLen_at HB3.out, HL2.out]; exact hr
        · gi_wp2
          refine bodyPost_ret (results_none rfl _ _ _) rfl ?_
          exact ⟨⟨_, rfl⟩, .inr ⟨_, trivial, hJx3⟩⟩
      · obtain ⟨o, ho⟩ : ∃ o : Nat, Lib.indexByte r.data.toList 10 = o := ⟨(Lib.indexByte r.data.toList 10).toNat, by omega⟩
        have hor : o < r.size := by
          have := (Lib.indexByte_some ho).1
          by_cases h : o < r.data.toList.length
          · simpa using h
          · rw [List.getElem?_eq_none (by omega)] at this; cases this
        have hn := LS_next hLS.out ho hor
        have HIX := Lib.hid (ix20 r o ho)
        have c1 := cut_str_h r (o + 1) (by omega)
        have c2 := cut_str_end r (o + 1) (by omega)
        have HN := Lib.hid hn
        have hw1 : IntKind.i64.wrap ((o : Int) + 1) = ((o + 1 : Nat) : Int) := IntWalk.i64_in _ (by omega)
        clear hx hge ho hn hLS
        gi_wp2_with (gi_at_call 20; refine (callsIn_wide.2 (HIX.out _)).mono ?_; rintro e w' ⟨rfl, rfl⟩)
        gi_region
        have hJ2 : J pre (wr.setCell ⟨bs, 0, none⟩ (.string (r.extract (o + 1) r.size))).drew := HJ.out _ _ _ hJr (Fr.set (S := fun i => i = bs) (Fr.refl _ _) _ _ (fun _ => rfl)).drew
        have hb2 : (wr.setCell ⟨bs, 0, none⟩ (.string (r.extract (o + 1) r.size))).drew.heap[bs]? = some (.cells #[.string (r.extract (o + 1) r.size)] 9 (0, 0)) := blk_set hb 0 _
        obtain ⟨fn, tmps, assign, body, hy, hR⟩ := HY.out pre (r.extract 0 (o + 1)) _ hJ2 (LS_pre HN.out)
        have hl2 : boxLen wr bs = r.size := boxLen_at hb
        generalize (wr.setCell ⟨bs, 0, none⟩ (.string (r.extract (o + 1) r.size))).drew = W2 at *
        have HL2 := Lib.hid hl2
        have HB2 := Lib.hid hb2
        clear hl2 hb2 hc hf hb hJr hJ2 c1 c2 hw1
        gi_wp2
        refine (roundIn_wide0 hR).mono ?_
        rintro e W3 (⟨rfl, hJ3, hk3⟩ | ⟨rfl, hJx3, _⟩)
        · have HB3 := Lib.hid (hk3.at rfl HB2.out)
          clear hk3
          gi_wp2
          go_roundw
          case rel => exact ⟨_, _, by simp; omega, HN, hJ3, HB3.out⟩
          case measure => rw [boxLen_at HB3.out, HL2.out]; simp; omega
        · gi_wp2
          refine bodyPost_ret (results_none rfl _ _ _) rfl ?_
          exact ⟨⟨_, rfl⟩, .inr ⟨_, trivial, hJx3⟩⟩
    · have hr0 : r.size = 0 := by omega
      have HD := Lib.hid (LS_done hLS.out hr0)
      clear hLS hr0
      gi_wp2
      go_end0
      exact ⟨⟨_, rfl⟩, .inl ⟨_, HD.out, hJr⟩⟩
end Go.Proofs.Ytfodaegdkcbenaa
