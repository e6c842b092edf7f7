/- Plain law of VaryBack: what calls write is read in order as it was; cut, it is not read to its end. No program in sight. -/
import Derived.Test.YtpiainanlmpieaaVk
import Derived.Test.YtpiainanlmpieaaVo
import Derived.Test.YtpiainanlmpieaaVi
namespace Go.Proofs.Ytpiainanlmpieaa
open Go.RowKit Go.Shelf Go.Proofs.YtpiainanlmpieaaW.PrintWords Go.Proofs.YtpiainanlmpieaaW.PrintLast Go.Proofs.YtpiainanlmpieaaW.PrintMore
open Go.Proofs.Ytpiainanlmpieaa.Pgreat

/-- A call's bytes. -/
def opBytes (o : S35) : List Int := if o.f0 = 0 then encI o.f2.toNat else if o.f0 = 1 then encI (Lib.zigzag o.f3) else if o.f0 = 2 then encI o.f5.length ++ o.f5 else []
def opsBytes : List S35 → List Int
  | [] => []
  | o :: l => opBytes o ++ opsBytes l

/-- Is a call's number or bytes read at the place? The new place. -/
def backStep (bs : List Int) (p : Nat) (o : S35) : Option Nat :=
  if o.f0 = 0 then (let r := readN (rest bs p) 18446744073709551615; if r.2.1 = 0 ∧ (r.1 : Int) = o.f2 then some (p + r.2.2) else none)
  else if o.f0 = 1 then (let r := readS (rest bs p) (-9223372036854775808) 9223372036854775807; if r.2.1 = 0 ∧ r.1 = o.f3 then some (p + r.2.2) else none)
  else if o.f0 = 2 then (let r := readB bs p o.f5.length; if r.2.1 = 0 ∧ r.1 = o.f5 then some (p + r.2.2) else none)
  else some p
def backB (bs : List Int) : Nat → List S35 → Option Nat
  | p, [] => some p
  | p, o :: l => (backStep bs p o).bind fun q => backB bs q l

theorem zig_zag' (n : Nat) : Lib.zigzag (zag n) = n := by
  unfold zag Lib.zigzag
  split <;> split <;> omega
theorem zag_zig' (a : Int) : zag (Lib.zigzag a) = a := by
  unfold zag Lib.zigzag
  split <;> split <;> omega

theorem readN_ok {bs : List Int} {p : Nat} {most : Int} (h : (readN (rest bs p) most).2.1 = 0) :
    (look (rest bs p)).2.2 = 0 ∧ readN (rest bs p) most = ((look (rest bs p)).1, 0, (look (rest bs p)).2.1) := by
  unfold readN at *
  by_cases he : (look (rest bs p)).2.2 = 0
  · rw [if_pos he] at *
    split at h
    · simp at h
    · rename_i hm
      exact ⟨he, by rw [if_neg hm]⟩
  · rw [if_neg he] at h
    exact absurd h he

theorem readS_ok {bs : List Int} {p : Nat} {least most : Int} (h : (readS (rest bs p) least most).2.1 = 0) :
    (look (rest bs p)).2.2 = 0 ∧ readS (rest bs p) least most = (zag (look (rest bs p)).1, 0, (look (rest bs p)).2.1) := by
  unfold readS at *
  by_cases he : (look (rest bs p)).2.2 = 0
  · rw [if_pos he] at *
    split at h
    · simp at h
    · rename_i hm
      exact ⟨he, by rw [if_neg hm]⟩
  · rw [if_neg he] at h
    exact absurd h he

theorem readB_ok {bs : List Int} {p : Nat} {most : Int} (h : (readB bs p most).2.1 = 0) :
    (look (rest bs p)).2.2 = 0 ∧ (look (rest bs p)).1 ≤ bs.length - p - (look (rest bs p)).2.1 ∧ readB bs p most = ((bs.take (p + (look (rest bs p)).2.1 + (look (rest bs p)).1)).drop (p + (look (rest bs p)).2.1), 0, (look (rest bs p)).2.1 + (look (rest bs p)).1) := by
  unfold readB at *
  by_cases he : (look (rest bs p)).2.2 = 0
  · rw [if_pos he] at *
    split at h
    · simp at h
    · rename_i hm
      rw [if_neg hm]
      split at h
      · simp at h
      · rename_i hs
        exact ⟨he, by omega, by rw [if_neg hs]⟩
  · rw [if_neg he] at h
    exact absurd h he

/-- What a step reads are the call's bytes. -/
theorem backStep_bytes {bs : List Int} (hb : ∀ b ∈ bs, 0 ≤ b ∧ b ≤ 255) {p q : Nat} (hp : p ≤ bs.length) {o : S35} (h : backStep bs p o = some q) :
    p ≤ q ∧ q ≤ bs.length ∧ (bs.take q).drop p = opBytes o := by
  unfold backStep opBytes at *
  by_cases h0 : o.f0 = 0
  · rw [if_pos h0] at *
    simp only at h
    split at h
    · rename_i hc
      obtain ⟨he, hr⟩ := readN_ok hc.1
      rw [hr] at h hc
      cases h
      obtain ⟨hw1, _⟩ := look_wide bs p hp hb he
      refine ⟨by omega, hw1, ?_⟩
      rw [(look_bytes bs p hb he).1, ← hc.2, Int.toNat_natCast]
    · cases h
  · rw [if_neg h0] at *
    by_cases h1 : o.f0 = 1
    · rw [if_pos h1] at *
      simp only at h
      split at h
      · rename_i hc
        obtain ⟨he, hr⟩ := readS_ok hc.1
        rw [hr] at h hc
        cases h
        obtain ⟨hw1, _⟩ := look_wide bs p hp hb he
        refine ⟨by omega, hw1, ?_⟩
        rw [(look_bytes bs p hb he).1, ← hc.2, zig_zag']
      · cases h
    · rw [if_neg h1] at *
      by_cases h2 : o.f0 = 2
      · rw [if_pos h2] at *
        simp only at h
        split at h
        · rename_i hc
          obtain ⟨he, hle, hr⟩ := readB_ok hc.1
          rw [hr] at h hc
          cases h
          obtain ⟨hw1, _⟩ := look_wide bs p hp hb he
          have hlb := (look_bytes bs p hb he).1
          have hlen : o.f5.length = (look (rest bs p)).1 := by
            rw [← hc.2, List.length_drop, List.length_take]; omega
          refine ⟨by omega, by show p + (_ + _) ≤ _; omega, ?_⟩
          rw [hlen, ← hlb, ← hc.2]
          show (bs.take (p + ((look (rest bs p)).2.1 + (look (rest bs p)).1))).drop p = _
          generalize (look (rest bs p)).1 = n at *
          generalize (look (rest bs p)).2.1 = d at *
          rw [← Nat.add_assoc]
          have e : bs.take (p + d + n) = bs.take (p + d) ++ (bs.take (p + d + n)).drop (p + d) := by
            have := List.take_append_drop (p + d) (bs.take (p + d + n))
            rw [List.take_take, Nat.min_eq_left (by omega)] at this
            exact this.symm
          rw [e, List.drop_append_of_le_length (by rw [List.length_take]; omega)]
          congr 1
          rw [← e]
        · cases h
      · rw [if_neg h2] at *
        cases h
        exact ⟨Nat.le_refl _, hp, List.drop_of_length_le (by rw [List.length_take]; omega)⟩

theorem back_bytes {bs : List Int} (hb : ∀ b ∈ bs, 0 ≤ b ∧ b ≤ 255) : ∀ {l : List S35} {p q : Nat}, p ≤ bs.length → backB bs p l = some q → p ≤ q ∧ q ≤ bs.length ∧ q = p + (opsBytes l).length
  | [], p, q, hp, h => by cases h; exact ⟨Nat.le_refl _, hp, rfl⟩
  | o :: l, p, q, hp, h => by
    simp only [backB] at h
    cases hs : backStep bs p o with
    | none => rw [hs] at h; cases h
    | some m =>
      rw [hs] at h
      obtain ⟨h1, h2, h3⟩ := backStep_bytes hb hp hs
      obtain ⟨h4, h5, h6⟩ := back_bytes hb h2 h
      have hl := congrArg List.length h3
      rw [List.length_drop, List.length_take] at hl
      refine ⟨by omega, h5, ?_⟩
      show q = p + (opBytes o ++ opsBytes l).length
      rw [List.length_append]; omega

theorem rest_of {bs : List Int} {p n : Nat} {T : List Int} (h : bs.drop p = encI n ++ T) : rest bs p = VP.enc n ++ T.map Int.toNat := by
  rw [rest, h, List.map_append]
  congr 1
  rw [encI, List.map_map]
  exact (List.map_congr_left (g := id) fun b _ => by simp).trans (List.map_id _)

theorem backStep_of {bs : List Int} {p : Nat} {o : S35} (hf : OpFits o) {T : List Int} (h : bs.drop p = opBytes o ++ T) : backStep bs p o = some (p + (opBytes o).length) := by
  unfold backStep
  by_cases h0 : o.f0 = 0
  · have ho : opBytes o = encI o.f2.toNat := by unfold opBytes; rw [if_pos h0]
    rw [ho] at h ⊢
    rw [if_pos h0]
    have hn := hf.f2
    have hr := rest_of h
    have hl := look_enc o.f2.toNat (by omega) (T.map Int.toNat)
    rw [← hr] at hl
    have e : readN (rest bs p) 18446744073709551615 = (o.f2.toNat, 0, VP.wid o.f2.toNat) := by
      unfold readN
      rw [hl]
      simp only [if_true]
      rw [if_neg (by omega)]
    simp only [e]
    rw [if_pos ⟨trivial, by omega⟩, encI_length]
  · by_cases h1 : o.f0 = 1
    · have ho : opBytes o = encI (Lib.zigzag o.f3) := by unfold opBytes; rw [if_neg h0, if_pos h1]
      rw [ho] at h ⊢
      rw [if_neg h0, if_pos h1]
      have hn := hf.f3
      have hr := rest_of h
      have hl := look_enc (Lib.zigzag o.f3) (zigzag_lt _ hn.1 hn.2) (T.map Int.toNat)
      rw [← hr] at hl
      have e : readS (rest bs p) (-9223372036854775808) 9223372036854775807 = (o.f3, 0, VP.wid (Lib.zigzag o.f3)) := by
        unfold readS
        rw [hl]
        simp only [if_true]
        rw [zag_zig', if_neg (by omega)]
      simp only [e]
      rw [if_pos ⟨trivial, trivial⟩, encI_length]
    · by_cases h2 : o.f0 = 2
      · have ho : opBytes o = encI o.f5.length ++ o.f5 := by unfold opBytes; rw [if_neg h0, if_neg h1, if_pos h2]
        rw [ho] at h ⊢
        rw [if_neg h0, if_neg h1, if_pos h2]
        have hs := hf.small
        have h' := h
        rw [List.append_assoc] at h'
        have hr := rest_of h'
        have hl := look_enc o.f5.length (by omega) ((o.f5 ++ T).map Int.toNat)
        rw [← hr] at hl
        have hlen := congrArg List.length h
        rw [List.length_drop, List.length_append, List.length_append, encI_length] at hlen
        have e : readB bs p (o.f5.length : Int) = (o.f5, 0, VP.wid o.f5.length + o.f5.length) := by
          unfold readB
          rw [hl]
          simp only [if_true, Int.toNat_natCast]
          rw [if_neg (by omega), if_neg (by omega)]
          congr 1
          rw [List.drop_take, Nat.add_sub_cancel_left, ← List.drop_drop, h', ← encI_length, List.drop_left, List.take_left]
        simp only [e]
        rw [if_pos ⟨trivial, trivial⟩, List.length_append, encI_length]
      · have ho : opBytes o = [] := by unfold opBytes; rw [if_neg h0, if_neg h1, if_neg h2]
        rw [ho, if_neg h0, if_neg h1, if_neg h2]
        rfl

theorem back_of {bs : List Int} : ∀ {l : List S35} {p : Nat}, p ≤ bs.length → (∀ o ∈ l, OpFits o) → bs.drop p = opsBytes l → backB bs p l = some bs.length
  | [], p, hp, _, h => by
    have := congrArg List.length h
    rw [List.length_drop] at this
    simp only [opsBytes, List.length_nil] at this
    show some p = _
    congr 1; omega
  | o :: l, p, hp, hf, h => by
    have hs := backStep_of (hf o (by simp)) h
    have hlen := congrArg List.length h
    have h2 : bs.drop (p + (opBytes o).length) = opsBytes l := by
      rw [← List.drop_drop, h]
      exact List.drop_left
    simp only [backB, hs]
    refine back_of ?_ (fun o' h' => hf o' (by simp [h'])) h2
    rw [List.length_drop] at hlen
    simp only [opsBytes, List.length_append] at hlen
    by_cases hz : (opBytes o).length = 0
    · omega
    · omega

theorem back_all (l : List S35) (hf : ∀ o ∈ l, OpFits o) : backB (opsBytes l) 0 l = some (opsBytes l).length := back_of (Nat.zero_le _) hf rfl

theorem opBytes_fit {o : S35} (hf : OpFits o) : ∀ b ∈ opBytes o, 0 ≤ b ∧ b ≤ 255 := by
  intro b hb
  unfold opBytes at hb
  have key : ∀ n, n < 18446744073709551616 → b ∈ encI n → 0 ≤ b ∧ b ≤ 255 := by
    intro n hn h
    obtain ⟨y, hy, rfl⟩ := List.mem_map.1 h
    have := VP.enc_lt n hn y hy
    simp only [Int.ofNat_eq_natCast]
    omega
  have h2 := hf.f2
  have h3 := hf.f3
  have hs := hf.small
  split at hb
  · exact key _ (by omega) hb
  · split at hb
    · exact key _ (zigzag_lt _ h3.1 h3.2) hb
    · split at hb
      · rcases List.mem_append.1 hb with h | h
        · exact key _ (by omega) h
        · exact hf.f5 b h
      · cases hb

theorem opsBytes_fit : ∀ {l : List S35}, (∀ o ∈ l, OpFits o) → ∀ b ∈ opsBytes l, 0 ≤ b ∧ b ≤ 255
  | [], _, b, hb => by cases hb
  | o :: l, hf, b, hb => by
    rcases List.mem_append.1 hb with h | h
    · exact opBytes_fit (hf o (by simp)) b h
    · exact opsBytes_fit (fun o' h' => hf o' (by simp [h'])) b h

theorem back_cut (l : List S35) (hf : ∀ o ∈ l, OpFits o) (t : Nat) (ht : t < (opsBytes l).length) : backB ((opsBytes l).take t) 0 l = none := by
  cases h : backB ((opsBytes l).take t) 0 l with
  | none => rfl
  | some q =>
    obtain ⟨_, h2, h3⟩ := back_bytes (fun b hb => opsBytes_fit hf b (List.mem_of_mem_take hb)) (Nat.zero_le _) h
    rw [List.length_take] at h2
    omega

theorem opBytes_length (o : S35) : (opBytes o).length ≤ 9 + o.f5.length := by
  unfold opBytes
  split
  · rw [encI_length]; have := (VP.wid_pos o.f2.toNat).2; omega
  · split
    · rw [encI_length]; have := (VP.wid_pos (Lib.zigzag o.f3)).2; omega
    · split
      · rw [List.length_append, encI_length]; have := (VP.wid_pos o.f5.length).2; omega
      · simp

theorem opsBytes_length : ∀ l : List S35, (opsBytes l).length ≤ 9 * l.length + opsSum l
  | [] => by simp [opsBytes]
  | o :: l => by
    have h1 := opBytes_length o
    have h2 := opsBytes_length l
    simp only [opsBytes, opsSum, List.length_append, List.length_cons]
    omega
end Go.Proofs.Ytpiainanlmpieaa
