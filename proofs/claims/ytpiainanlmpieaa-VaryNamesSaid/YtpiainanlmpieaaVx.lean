/- Contract of the law's 'reads': true where what is read is what was told. -/
import Derived.Test.YtpiainanlmpieaaVw
import Derived.Lib.ConvBytes
namespace Go.Proofs.Ytpiainanlmpieaa
open Go.RowKit Go.Shelf Go.Proofs.YtpiainanlmpieaaW.PrintWords Go.Proofs.YtpiainanlmpieaaW.PrintLast Go.Proofs.YtpiainanlmpieaaW.PrintMore

/-- A string's bytes, as whole numbers. -/
def intsOf (s : ByteArray) : List Int := s.data.toList.map fun b => (b.toNat : Int)
theorem intsOf_length (s : ByteArray) : (intsOf s).length = s.size := by simp [intsOf]
theorem intsOf_bd (s : ByteArray) : ∀ b ∈ intsOf s, 0 ≤ b ∧ b ≤ 255 := by
  intro b hb
  obtain ⟨c, _, rfl⟩ := List.mem_map.1 hb
  have := c.toNat_lt
  omega

theorem bytes_C (w : World) (s : ByteArray) (hs : s.size ≤ 140737488355328) : (Kd.int .u8).C (Lib.bytesWorld w 5 s) (some ⟨w.heap.size, 0, none⟩) (intsOf s).length (intsOf s) := by
  refine ⟨rfl, by rw [intsOf_length]; omega, fun _ => ⟨_, rfl, fun i x hx => ⟨[.int .u8 x], rfl, rfl, fun j u hu => ?_⟩⟩⟩
  have hi : i < s.size := by
    rw [← intsOf_length]
    exact (List.getElem?_eq_some_iff.1 hx).1
  cases j with
  | zero =>
    simp only [List.getElem?_cons_zero, Option.some.injEq] at hu
    subst hu
    have h := Lib.bytesWorld_cell w 5 s i hi
    have e : (s.data.toList.getD i 0).toNat = x := by
      simp only [intsOf, List.getElem?_map] at hx
      rw [List.getD_eq_getElem?_getD]
      cases h2 : s.data.toList[i]? with
      | none => rw [h2] at hx; simp at hx
      | some y => rw [h2] at hx; simpa using hx
    rw [e] at h
    have e2 : Addr.add ⟨w.heap.size, 0, none⟩ (i * 1 + 0) = ⟨w.heap.size, i, none⟩ := by
      unfold Addr.add
      split
      · rename_i h0; simp at h0; simp
      · simp
    show (Lib.bytesWorld w 5 s).cell? (Addr.add ⟨w.heap.size, 0, none⟩ (i * 1 + 0)) = _
    rw [e2]
    exact h
  | succ j => simp at hu

theorem bytes_below (w : World) (s : ByteArray) : Below w.heap.size w (Lib.bytesWorld w 5 s) := by
  refine ⟨rfl, rfl, rfl, by rw [Lib.bytesWorld_size]; omega, fun i hi => Lib.bytesWorld_at_old w 5 s i hi⟩

set_option maxHeartbeats 1000000 in
theorem reads_true (s : ByteArray) (most want e : Int) (n f : Nat) (hs : s.size ≤ 140737488355328) (hn : want = n) (hn2 : n < 18446744073709551616) (hf : e = f)
    (hr : readN (rest (intsOf s) 0) most = (n, f, if f = 0 then VP.wid n else 0)) (w : World) :
    Calls Try.prog 41 #[.string s, .int .u64 most, .int .u64 want, .int .i64 e] w fun en w' => en = .returned (.bool true) ∧ Below w.heap.size w w' := by
  subst hn
  subst hf
  have hcv := Lib.run_convert_string_bytes (P := Try.prog) w 9 30 5 s Try.underlying9 Try.underlying30 Try.underlying5
  have hC := bytes_C w s hs
  have hB := bytes_below w s
  have hl : (intsOf s).length ≤ 140737488355328 := by rw [intsOf_length]; exact hs
  have hbd := intsOf_bd s
  rw [show s.size = (intsOf s).length from (intsOf_length s).symm] at hcv
  generalize intsOf s = bs at *
  generalize Lib.bytesWorld w 5 s = w1 at *
  generalize grownCap w bs.length 0 5 = c at *
  obtain ⟨A, hA⟩ : ∃ A : Option Addr, A = some ⟨w.heap.size, 0, none⟩ := ⟨_, rfl⟩
  rw [← hA] at hcv hC
  have HC := Lib.hid hC
  have HB := Lib.hid hB
  have HL := Lib.hid hl
  have HBD := Lib.hid hbd
  have HR := Lib.hid hr
  clear hC hB hl hbd hr hA
  by_cases h0 : f = 0
  · subst h0
    go_enter Try.func41, Try.ntmps41
    go_wp2_with fail
    refine (On_any A c bs w1 HC.out HL.out HBD.out).mono ?_
    rintro e w2 ⟨g, v, rfl, hg, hR2, hb2⟩
    have HR2 := Lib.hid hR2
    have HB2 := Lib.hid (below_then HB.out HB.out.size hb2)
    clear hR2 hb2 hcv
    have hN := RNumber_any w2 g _ v bs 0 most HR2.out
    rw [HR.out] at hN
    have HN := Lib.hid hN
    clear hN
    go_wp2_with (first | (go_at_call 29; refine HN.out.mono ?_; rintro e w3 ⟨rfl, hR3, hF3⟩; have HR3 := Lib.hid hR3; have HF3 := Lib.hid hF3; clear hR3 hF3) | (go_at_call 13; refine (Width_any n hn2 _).mono ?_; rintro e w' ⟨rfl, rfl⟩) | (go_at_call 28; refine (At_any _ g _ v bs _ HR3.out).mono ?_; rintro e w' ⟨rfl, rfl⟩))
    go_ret
    exact ⟨by simp, HB2.out.trans (HF3.out.below HB2.out.size (fun i hi e => by have := HB.out.size; omega))⟩
  · have hk : ((f : Int) == 0) = false := by simp; omega
    have hk2 : ((f : Int) != 0) = true := by simp; omega
    go_enter Try.func41, Try.ntmps41
    go_wp2_with fail
    refine (On_any A c bs w1 HC.out HL.out HBD.out).mono ?_
    rintro e w2 ⟨g, v, rfl, hg, hR2, hb2⟩
    have HR2 := Lib.hid hR2
    have HB2 := Lib.hid (below_then HB.out HB.out.size hb2)
    clear hR2 hb2 hcv
    have hN := RNumber_any w2 g _ v bs 0 most HR2.out
    rw [HR.out, if_neg h0] at hN
    have HN := Lib.hid hN
    clear hN
    go_wp2_with (first | (go_at_call 29; refine HN.out.mono ?_; rintro e w3 ⟨rfl, hR3, hF3⟩; have HR3 := Lib.hid hR3; have HF3 := Lib.hid hF3; clear hR3 hF3) | (go_at_call 28; refine (At_any _ g _ v bs _ HR3.out).mono ?_; rintro e w' ⟨rfl, rfl⟩))
    go_ret
    exact ⟨by simp, HB2.out.trans (HF3.out.below HB2.out.size (fun i hi e => by have := HB.out.size; omega))⟩
end Go.Proofs.Ytpiainanlmpieaa
