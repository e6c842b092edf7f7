/- What the walks of this chapter's laws have in common. -/
import Derived.Test.YtacmajlbaenjfaaS3
import Derived.Test.YtacmajlbaenjfaaCa
namespace Go.Proofs.Ytacmajlbaenjfaa
open Go.RowKit Go.Shelf Go.Proofs.YtacmajlbaenjfaaW.PrintWords Go.Proofs.YtacmajlbaenjfaaW.PrintLast Go.Proofs.YtacmajlbaenjfaaW.PrintMore
open Go.Proofs.Ytacmajlbaenjfaa.PRef

theorem quiet_same {P : Program} {f : FuncId} {args : Array Value} {w : World} {n : Nat} {v : Value}
    (h : Calls P f args (w.drewN n) fun e w' => e = .returned v ∧ w.drewN n = w') : Calls P f args (w.drewN n) fun e w'' => e = .returned v ∧ ∃ m, w'' = w.drewN m :=
  h.mono fun _ _ ⟨he, hm⟩ => ⟨he, n, hm.symm⟩
theorem great9 (W : World) (A : Option Addr) (c : Nat) (xs : List Int) (hC : (Kd.int .i64).C W A xs.length xs) (hc : xs.length ≤ c) (r : Int) (hr : r = if 100 < xs.length then 1 else 0) :
    Calls Try.prog 9 #[.slice A xs.length c, .agg #[.slice none 0 0, .slice none 0 0]] W fun e w' => e = .returned (.int .i64 r) ∧ Below W.heap.size W w' := by
  refine backstayref06_Great.calls A c xs none 0 [] none 0 [] r W hC hc (Kd.C_nil _ _) (Nat.le_refl _) (Kd.C_nil _ _) (Nat.le_refl _) ?_
  unfold backstayref06_Great.f
  by_cases h : 100 < xs.length
  · rw [if_pos (by omega), hr, if_pos h]
  · rw [if_neg (by omega), if_neg (by simp), if_neg (by simp), hr, if_neg h]
theorem ints20 (W : World) (A B : Option Addr) (c d : Nat) (xs : List Int) (hC : (Kd.int .i64).C W A xs.length xs) (hc : xs.length ≤ c) (hD : (Kd.int .i64).C W B xs.length xs) (hd : xs.length ≤ d) (hl : xs.length ≤ 1000) :
    Calls Try.prog 20 #[.slice A xs.length c, .slice B xs.length d] W fun e w' => e = .returned (.bool true) ∧ ∃ n, w' = W.drewN n :=
  (backstayref02_Ints.calls 2000 A c xs B d xs true W hC hc hD hd (by rw [ints_f xs xs hl, decide_eq_true rfl])).mono fun _ _ ⟨a, b⟩ => ⟨a, b.out⟩
def chk (xs : List Int) : Int := if shapeOk xs then 0 else 60
theorem check22 (w : World) (A : Option Addr) (c : Nat) (xs : List Int) (hC : (Kd.int .i64).C w A xs.length xs) :
    Calls Try.prog 22 #[.slice A xs.length c] w fun e w' => e = .returned (.int .i64 (chk xs)) ∧ Below w.heap.size w w' := Check_any w A c xs hC
theorem check23 (W : World) (A : Option Addr) (c : Nat) (xs : List Int) (hC : (Kd.int .i64).C W A xs.length xs) (hc : xs.length ≤ c) (hl : xs.length ≤ 1000) :
    Calls Try.prog 23 #[.slice A xs.length c] W fun e w' => e = .returned (.int .i64 (chk xs)) ∧ Below W.heap.size W w' :=
  (backstayref06_Check.calls 2000 A c xs _ W hC hc (check_f xs hl)).mono fun _ _ ⟨a, b⟩ => ⟨a, drawn0_below b⟩
theorem R_own8 {w : World} {base : Nat} {v : Value} {xs : List Int} {ok : Nat → Prop} (h : Kd.R (Kd.int .u8) 5 w base ok v xs) : w.ownsRow base 5 1 v xs.length (nums .u8 xs) := Kd.own_of_R h
theorem R_own64 {w : World} {base : Nat} {v : Value} {xs : List Int} {ok : Nat → Prop} (h : Kd.R (Kd.int .i64) 3 w base ok v xs) : w.ownsRow base 3 1 v xs.length (nums .i64 xs) := Kd.own_of_R h

/-- The rows that the call made, and those that came in. -/
structure Rows3 (W : World) (A A2 A1 A3 : Option Addr) (xs bs : List Int) : Prop where
  s : (Kd.int .i64).C W A xs.length xs
  own : (Kd.int .i64).C W A2 xs.length xs
  b : (Kd.int .u8).C W A1 bs.length bs
  raw : (Kd.int .u8).C W A3 bs.length bs
theorem Rows3.below {W W' : World} {A A2 A1 A3 : Option Addr} {xs bs : List Int} (h : Rows3 W A A2 A1 A3 xs bs) (hb : Below W.heap.size W W') : Rows3 W' A A2 A1 A3 xs bs :=
  ⟨Kd.C_below h.s hb, Kd.C_below h.own hb, Kd.C_below h.b hb, Kd.C_below h.raw hb⟩
/-- Bytes that were made, twice. -/
structure Two8 (W : World) (A B : Option Addr) (zs : List Int) : Prop where
  a : (Kd.int .u8).C W A zs.length zs
  b : (Kd.int .u8).C W B zs.length zs
structure Two64 (W : World) (A B : Option Addr) (zs : List Int) : Prop where
  a : (Kd.int .i64).C W A zs.length zs
  b : (Kd.int .i64).C W B zs.length zs
theorem Two8.below {W W' : World} {A B : Option Addr} {zs : List Int} (h : Two8 W A B zs) (hb : Below W.heap.size W W') : Two8 W' A B zs := ⟨Kd.C_below h.a hb, Kd.C_below h.b hb⟩
theorem Two64.below {W W' : World} {A B : Option Addr} {zs : List Int} (h : Two64 W A B zs) (hb : Below W.heap.size W W') : Two64 W' A B zs := ⟨Kd.C_below h.a hb, Kd.C_below h.b hb⟩
theorem decSh_len (bs : List Int) (p : Nat) : (decSh bs p).1.length ≤ 16 := by
  unfold decSh
  split
  · rename_i h
    exact (shapeOk_len h.2).2
  · simp
theorem readSh_len (l : List UInt8) : (readSh l).1.length ≤ 16 := by
  unfold readSh
  split
  · rename_i h
    exact (shapeOk_len h.2).2
  · simp

end Go.Proofs.Ytacmajlbaenjfaa
