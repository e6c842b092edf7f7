/- Maps of pairs that the call makes, writes and ranges over: laws for the walk; how looking up goes on behind a store. -/
import Derived.Test.YtnomjjhocblkkaaHj
import Derived.Maps.RangeWalk
import Derived.Maps.OwnOps
namespace Go.Proofs.Ytnomjjhocblkkaa
open Go.RowKit Go.Shelf Go.Proofs.YtnomjjhocblkkaaW.PrintWords Go.Proofs.YtnomjjhocblkkaaW.PrintLast Go.Proofs.YtnomjjhocblkkaaW.PrintMore
open Go.ChangeMaps Go.MapKept Go.WideShapes

abbrev Pairs := List ((Int × Int) × (Int × Int))

theorem findC_add (k : Int × Int) : ∀ (D : Pairs) (i j : Nat), findC k D (i + j) = (findC k D i).map fun r => (r.1 + j, r.2)
  | [], _, _ => rfl
  | p :: D, i, j => by
    unfold findC
    by_cases h : p.1 = k
    · rw [if_pos h, if_pos h]; rfl
    · rw [if_neg h, if_neg h, show i + j + 1 = (i + 1) + j by omega, findC_add k D (i + 1) j]
theorem lookC_nil (k : Int × Int) : lookC [] k = none := rfl
theorem lookC_cons (p : (Int × Int) × (Int × Int)) (D : Pairs) (k : Int × Int) : lookC (p :: D) k = if p.1 = k then some p.2 else lookC D k := by
  unfold lookC
  rw [findC]
  by_cases h : p.1 = k
  · rw [if_pos h, if_pos h]; rfl
  · rw [if_neg h, if_neg h, findC_add k D 0 1, Option.map_map]
    cases findC k D 0 <;> rfl
theorem findC_none {k : Int × Int} {D : Pairs} : findC k D 0 = none ↔ lookC D k = none := by unfold lookC; simp
theorem lookC_append (D E : Pairs) (k : Int × Int) : lookC (D ++ E) k = (lookC D k).or (lookC E k) := by
  induction D with
  | nil => simp [lookC_nil]
  | cons p D ih =>
    rw [List.cons_append, lookC_cons, lookC_cons, ih]
    by_cases h : p.1 = k <;> simp [h]
theorem lookC_modify (v k k' : Int × Int) : ∀ (D : Pairs) (i j : Nat) (u : Int × Int), findC k D j = some (i + j, u) → lookC (D.modify i fun _ => (k, v)) k' = if k' = k then some v else lookC D k'
  | [], _, _, _, h => by simp [findC] at h
  | p :: D, i, j, u, h => by
    rw [findC] at h
    by_cases hp : p.1 = k
    · rw [if_pos hp] at h
      simp only [Option.some.injEq, Prod.mk.injEq] at h
      obtain rfl : i = 0 := by omega
      rw [List.modify_zero_cons, lookC_cons, lookC_cons]
      by_cases hk : k' = k
      · subst hk; simp
      · have h1 : ¬ k = k' := fun e => hk e.symm
        have h2 : ¬ p.1 = k' := fun e => hk (e.symm.trans hp)
        simp [hk, h1, h2]
    · rw [if_neg hp] at h
      obtain ⟨hle, _⟩ := findC_some k D (j + 1) (i + j) u h
      obtain ⟨i, rfl⟩ : ∃ i', i = i' + 1 := ⟨i - 1, by omega⟩
      rw [List.modify_succ_cons, lookC_cons, lookC_cons, lookC_modify v k k' D i (j + 1) u (by rw [show i + (j + 1) = i + 1 + j by omega]; exact h)]
      by_cases hk : k' = k
      · subst hk; simp [hp]
      · simp [hk]
theorem lookC_put (D : Pairs) (k v k' : Int × Int) : lookC (putC D k v) k' = if k' = k then some v else lookC D k' := by
  unfold putC
  cases h : findC k D 0 with
  | none =>
    rw [lookC_append, lookC_cons, lookC_nil]
    by_cases hk : k' = k
    · subst hk; simp [findC_none.1 h]
    · have h1 : ¬ k = k' := fun e => hk e.symm
      simp [hk, h1]
  | some r => exact lookC_modify v k k' D r.1 0 r.2 h
theorem putC_length (D : Pairs) (k v : Int × Int) : (putC D k v).length = if (lookC D k).isSome then D.length else D.length + 1 := by
  unfold putC lookC
  cases h : findC k D 0 <;> simp

/-- No key stands twice. -/
def Once (D : Pairs) : Prop := (D.map (·.1)).Nodup
theorem lookC_mem {k v : Int × Int} : ∀ {D : Pairs}, lookC D k = some v → (k, v) ∈ D
  | [], h => by simp [lookC_nil] at h
  | p :: D, h => by
    rw [lookC_cons] at h
    by_cases hp : p.1 = k
    · rw [if_pos hp] at h
      simp only [Option.some.injEq] at h
      subst hp; subst h
      exact List.mem_cons_self
    · rw [if_neg hp] at h
      exact List.mem_cons_of_mem _ (lookC_mem h)
theorem Once.look : ∀ {D : Pairs}, Once D → ∀ p ∈ D, lookC D p.1 = some p.2
  | [], _, _, hp => by simp at hp
  | q :: D, h, p, hp => by
    unfold Once at h
    rw [List.map_cons, List.nodup_cons] at h
    rw [lookC_cons]
    rcases List.mem_cons.1 hp with rfl | hp
    · rw [if_pos rfl]
    · rw [if_neg (fun (e : q.1 = p.1) => h.1 (List.mem_map.2 ⟨p, hp, e.symm⟩))]
      exact Once.look (D := D) h.2 p hp
theorem Once.put {D : Pairs} (h : Once D) (k v : Int × Int) : Once (putC D k v) := by
  unfold putC Once
  cases hf : findC k D 0 with
  | none =>
    simp only [List.map_append, List.map_cons, List.map_nil]
    rw [List.nodup_append]
    refine ⟨h, by simp, fun a ha b hb => ?_⟩
    obtain rfl : b = k := by simpa using hb
    obtain ⟨q, hq, rfl⟩ := List.mem_map.1 ha
    intro e
    have := h.look q hq
    rw [e, findC_none.1 hf] at this
    cases this
  | some r =>
    obtain ⟨i, u⟩ := r
    obtain ⟨_, hi⟩ := findC_some k D 0 i u hf
    rw [Nat.sub_zero] at hi
    have e : (D.modify i fun _ => (k, v)).map (·.1) = D.map (·.1) := by
      apply List.ext_getElem?
      intro j
      simp only [List.getElem?_map, List.getElem?_modify]
      by_cases hij : i = j
      · subst hij; simp [hi]
      · simp [hij]
    show ((D.modify i fun _ => (k, v)).map (·.1)).Nodup
    rw [e]
    exact h

def Stamps (es : Array MapEntry) (clock : Nat) : Prop := (∀ x ∈ es.toList, x.born < clock) ∧ (es.toList.map (·.born)).Nodup
/-- Block m is a map of these pairs. -/
def MapIs (W : World) (m : Nat) (D : Pairs) : Prop := ∃ es clock, W.heap[m]? = some (.map es clock) ∧ Ents es D ∧ Stamps es clock
theorem MapIs.lt {W : World} {m : Nat} {D : Pairs} (h : MapIs W m D) : m < W.heap.size := by
  obtain ⟨_, _, h, _⟩ := h
  exact (Array.getElem?_eq_some_iff.1 h).1
theorem MapIs.fr {W W' : World} {m : Nat} {D : Pairs} {S : Nat → Prop} (h : MapIs W m D) (hF : Fr S W W') (hm : ¬ S m) : MapIs W' m D := by
  have hl := h.lt
  obtain ⟨es, clock, h1, h2⟩ := h
  exact ⟨es, clock, (hF.block m hl hm).trans h1, h2⟩
theorem MapIs.below {W W' : World} {m : Nat} {D : Pairs} (h : MapIs W m D) (hB : Below W.heap.size W W') : MapIs W' m D := h.fr (S := fun _ => False) (Fr.of_below hB) (fun e => e)
theorem MapIs.made (W : World) : MapIs (W.alloc (.map #[] 0)) W.heap.size [] := ⟨#[], 0, World.alloc_heap_new W _, rfl, by simp [Stamps]⟩

section
variable {T : TypeId}
theorem run_update_is {M : TypeId} (K : KeyT T) (hM : Try.prog.underlying M = some (.map T 32)) (m : Nat) (k v : Int × Int) (w : World) (D : Pairs) (h : MapIs w m D) :
    ∃ o, (Instr.mapUpdate M (.map (some m)) (two k) (two v)).run Try.prog w = .ok () (World.withBlock w m o) ∧ MapIs (World.withBlock w m o) m (putC D k v) := by
  have hl := h.lt
  obtain ⟨es, clock, hb, he, hs⟩ := h
  obtain ⟨fs, hu⟩ := K.st
  have hf := run_findKey_two K.eq hu k w es D he
  unfold Instr.mapUpdate
  simp only [Sem.run_bind, run_underlying hM, Result.andThen_ok, getObj, Sem.run, hb, K.ok]
  unfold putC
  cases hc : findC k D 0 with
  | none =>
    refine ⟨.map (es.push { key := two k, val := two v, born := clock }) (clock + 1), by simp [hf, hc, setObj, Sem.run, hb, World.withBlock], _, _, withBlock_at w m _ hl, ?_, ?_⟩
    · unfold Ents at he ⊢
      simp [he]
    · obtain ⟨s1, s2⟩ := hs
      refine ⟨fun x hx => ?_, ?_⟩
      · simp only [Array.toList_push, List.mem_append, List.mem_singleton] at hx
        rcases hx with hx | rfl
        · have := s1 x hx; omega
        · exact Nat.lt_succ_self _
      · simp only [Array.toList_push, List.map_append, List.map_cons, List.map_nil]
        rw [List.nodup_append]
        refine ⟨s2, by simp, fun a ha b hb' => ?_⟩
        obtain rfl : b = clock := by simpa using hb'
        obtain ⟨q, hq, rfl⟩ := List.mem_map.1 ha
        have := s1 q hq
        omega
  | some r =>
    obtain ⟨i, u⟩ := r
    obtain ⟨_, hi⟩ := findC_some k D 0 i u hc
    rw [Nat.sub_zero] at hi
    have hk : ((es[i]?).map (·.key)).getD (two k) = two k := by
      have := congrArg (fun l => l[i]?) he
      simp only [List.getElem?_map, hi, Option.map_some, Array.getElem?_toList] at this
      cases he : es[i]? with
      | none => rfl
      | some e => rw [he] at this; simp at this; simp [this.1]
    refine ⟨.map (es.modify i fun e => { e with key := two k, val := two v }) clock, by simp [hf, hc, Instr.keyThatStays, hk, same_two, setObj, Sem.run, hb, World.withBlock], _, _, withBlock_at w m _ hl, ?_, ?_⟩
    · unfold Ents at he ⊢
      apply List.ext_getElem?
      intro j
      have hj := congrArg (fun l => l[j]?) he
      simp only [List.getElem?_map, Array.getElem?_toList, Array.getElem?_modify, List.getElem?_modify] at hj ⊢
      by_cases hij : i = j
      · subst hij
        rw [hi] at hj ⊢
        cases h2 : es[i]? with
        | none => rw [h2] at hj; simp at hj
        | some e => simp
      · simp [hij, hj]
    · have e : (es.modify i fun e => { e with key := two k, val := two v }).toList.map (·.born) = es.toList.map (·.born) := by
        apply List.ext_getElem?
        intro j
        simp only [List.getElem?_map, Array.getElem?_toList, Array.getElem?_modify]
        by_cases hij : i = j
        · subst hij; cases es[i]? <;> simp
        · simp [hij]
      obtain ⟨s1, s2⟩ := hs
      refine ⟨fun x hx => ?_, by rw [e]; exact s2⟩
      have : x.born ∈ es.toList.map (·.born) := by rw [← e]; exact List.mem_map.2 ⟨x, hx, rfl⟩
      obtain ⟨q, hq, hqx⟩ := List.mem_map.1 this
      rw [← hqx]
      exact s1 q hq
end

/-- The iterator at block r goes over the map at block m; so many are to come. -/
def RangeIs (W : World) (m r : Nat) (D : Pairs) (cnt : Nat) : Prop := ∃ es clock since seen c0, W.heap[m]? = some (.map es clock) ∧ Ents es D ∧ (es.toList.map (·.born)).Nodup ∧ W.heap[r]? = some (.mapIter (some m) since seen c0) ∧ (∀ x ∈ es.toList, x.born < since) ∧ since ≤ c0 ∧ since ≤ clock ∧ (leftOf es seen).size = cnt
theorem RangeIs.lt {W : World} {m r : Nat} {D : Pairs} {cnt : Nat} (h : RangeIs W m r D cnt) : m < W.heap.size ∧ r < W.heap.size ∧ m ≠ r := by
  obtain ⟨es, clock, since, seen, c0, h1, _, _, h2, _⟩ := h
  refine ⟨(Array.getElem?_eq_some_iff.1 h1).1, (Array.getElem?_eq_some_iff.1 h2).1, ?_⟩
  rintro rfl
  rw [h1] at h2
  cases h2
theorem RangeIs.fr {W W' : World} {m r : Nat} {D : Pairs} {cnt : Nat} {S : Nat → Prop} (h : RangeIs W m r D cnt) (hF : Fr S W W') (hm : ¬ S m) (hr : ¬ S r) : RangeIs W' m r D cnt := by
  obtain ⟨l1, l2, _⟩ := h.lt
  obtain ⟨es, clock, since, seen, c0, h1, h2, h3, h4, h5⟩ := h
  exact ⟨es, clock, since, seen, c0, (hF.block m l1 hm).trans h1, h2, h3, (hF.block r l2 hr).trans h4, h5⟩
theorem RangeIs.below {W W' : World} {m r : Nat} {D : Pairs} {cnt : Nat} (h : RangeIs W m r D cnt) (hB : Below W.heap.size W W') : RangeIs W' m r D cnt := h.fr (S := fun _ => False) (Fr.of_below hB) (fun e => e) (fun e => e)
theorem RangeIs.left {W : World} {m r : Nat} {D : Pairs} {cnt : Nat} (h : RangeIs W m r D cnt) : W.rangeLeft m r = cnt := by
  obtain ⟨es, clock, since, seen, c0, h1, _, _, h2, _, _, _, h3⟩ := h
  simp only [World.rangeLeft, h1, h2]
  exact h3

section
variable {ops : Array Oper} {rest : List Oper} {o : Oper} {a : Act} {Q : Exit → Act → World → Prop}

theorem wpList_update_is (w : World) (hg : o.guard = none) (m x v : Operand) (t : TypeId) (hop : o.op = Op.mapUpdate t m x v) {T : TypeId} (K : KeyT T) (ht : Try.prog.underlying t = some (.map T 32)) (b : Nat) (D : Pairs)
    (hm : a.eval m = .map (some b)) (h : MapIs w b D) (k0 k1 u0 u1 : Int) (hx : a.eval x = .agg #[.int .i64 k0, .int .i64 k1]) (hv : a.eval v = .agg #[.int .i64 u0, .int .i64 u1])
    (hK : ∀ w', MapIs w' b (putC D (k0, k1) (u0, u1)) → Fr (fun i => i = b) w w' → wpList Try.prog ops Q rest (a.put o.dst undef) w') :
    wpList Try.prog ops Q (o :: rest) a w := by
  refine wpList_plain hg fun K' hK' => ?_
  obtain ⟨ob, hrun, r1⟩ := run_update_is K ht b (k0, k1) (u0, u1) w D h
  have hrun' : (Instr.mapUpdate t (.map (some b)) (.agg #[.int .i64 k0, .int .i64 k1]) (.agg #[.int .i64 u0, .int .i64 u1])).run Try.prog w = .ok () (World.withBlock w b ob) := hrun
  unfold Oper.wp
  simp [execOp, hop, hm, hx, hv, hrun', Result.andThen]
  exact hK' _ _ (hK _ r1 (withBlock_fr w b ob))

theorem wpList_look_is (w : World) (hg : o.guard = none) (m x : Operand) (t : TypeId) (hop : o.op = Op.lookup t m x true) {T : TypeId} (K : KeyT T) (ht : Try.prog.underlying t = some (.map T 32)) (b : Nat) (D : Pairs)
    (hm : a.eval m = .map (some b)) (h : MapIs w b D) (k0 k1 u0 u1 : Int) (hx : a.eval x = .agg #[.int .i64 k0, .int .i64 k1]) (hl : lookC D (k0, k1) = some (u0, u1))
    (hK : wpList Try.prog ops Q rest (a.put o.dst (.tuple #[.agg #[.int .i64 u0, .int .i64 u1], .bool true])) w) :
    wpList Try.prog ops Q (o :: rest) a w := by
  refine wpList_plain hg fun K' hK' => ?_
  obtain ⟨es, clock, hb, he, _⟩ := h
  have hrun := run_lookup_two K ht b (k0, k1) w es clock D hb he zero32
  rw [hl] at hrun
  have hrun' : (Instr.lookup t (.map (some b)) (.agg #[.int .i64 k0, .int .i64 k1]) true).run Try.prog w = .ok (.tuple #[.agg #[.int .i64 u0, .int .i64 u1], .bool true]) w := hrun
  unfold Oper.wp
  simp [execOp, hop, hm, hx, hrun', Result.andThen]
  exact hK' _ _ hK

theorem wpList_len_is (w : World) (hg : o.guard = none) (m : Operand) (t : TypeId) (hop : o.op = Op.call { callee := Callee.builtin Builtin.len, args := #[m], argTypes := #[t] }) {T : TypeId} (ht : Try.prog.underlying t = some (.map T 32)) (b : Nat) (D : Pairs)
    (hm : a.eval m = .map (some b)) (h : MapIs w b D) (hK : wpList Try.prog ops Q rest (a.put o.dst (.int .i64 D.length)) w) :
    wpList Try.prog ops Q (o :: rest) a w := by
  refine wpList_plain hg fun K' hK' => ?_
  obtain ⟨es, clock, hb, he, _⟩ := h
  have hsz : es.size = D.length := by
    have := congrArg List.length he
    simpa using this
  have hrun : (Go.Builtin.len_ #[t] o.type #[.map (some b)]).run Try.prog w = .ok (.int .i64 D.length) w := by
    simp [Builtin.len_, run_underlying ht, getObj, Sem.run, hb, hsz, Result.andThen, goInt]
  unfold Oper.wp
  simp [execOp, hop, resolve, invoke, builtin, hm, hrun, Result.andThen]
  exact hK' _ _ hK

theorem wpList_range_is (w : World) (hg : o.guard = none) (t : TypeId) (m : Operand) (hop : o.op = Op.range t m) {T : TypeId} (ht : Try.prog.underlying t = some (.map T 32)) (b : Nat) (D : Pairs) (hm : a.eval m = .map (some b)) (h : MapIs w b D)
    (hK : ∀ w', RangeIs w' b w.heap.size D D.length → Below w.heap.size w w' → w'.heap.size = w.heap.size + 1 → wpList Try.prog ops Q rest (a.put o.dst (.pointer (some ⟨w.heap.size, 0, none⟩))) w') :
    wpList Try.prog ops Q (o :: rest) a w := by
  refine wpList_plain hg fun K' hK' => ?_
  have hlt := h.lt
  obtain ⟨es, clock, hb, he, hs⟩ := h
  have hsz : es.size = D.length := by
    have := congrArg List.length he
    simpa using this
  have hrun := run_range_map w t T 32 b es clock ht hb
  unfold Oper.wp
  simp [execOp, hop, hm, hrun, Result.andThen]
  refine hK' _ _ (hK _ ⟨es, clock, clock, #[], clock, (World.alloc_heap_old' w _ hlt).trans hb, he, hs.2, World.alloc_heap_new w _, hs.1, Nat.le_refl _, Nat.le_refl _, ?_⟩ (below_alloc (Below.refl _ _) _) (by simp))
  have e : leftOf es #[] = es := Array.filter_eq_self.2 (by simp)
  rw [e]; exact hsz

theorem wpList_next_is (w : World) (hg : o.guard = none) (it : Operand) (hop : o.op = Op.next it false) (b r : Nat) (D : Pairs) (cnt : Nat) (hit : a.eval it = .pointer (some ⟨r, 0, none⟩)) (h : RangeIs w b r D cnt)
    (hDone : wpList Try.prog ops Q rest (a.put o.dst (.tuple #[.bool false])) w)
    (hMore : ∀ (k0 k1 u0 u1 : Int) (w' : World) (cnt' : Nat), ((k0, k1), (u0, u1)) ∈ D → RangeIs w' b r D cnt' → cnt' < cnt → Fr (fun i => i = r) w w' → (Instr.entry (.pointer (some ⟨r, 0, none⟩))).run Try.prog w' = .ok (.tuple #[.agg #[.int .i64 k0, .int .i64 k1], .agg #[.int .i64 u0, .int .i64 u1]]) w' →
      wpList Try.prog ops Q rest (a.put o.dst (.tuple #[.bool true, .agg #[.int .i64 k0, .int .i64 k1], .agg #[.int .i64 u0, .int .i64 u1]])) w') :
    wpList Try.prog ops Q (o :: rest) a w := by
  refine wpList_plain hg fun K' hK' => ?_
  obtain ⟨_, _, hne⟩ := h.lt
  obtain ⟨es, clock, since, seen, c0, hb, he, hn, hr, hold, hsc, hck, rfl⟩ := h
  unfold Oper.wp
  rcases run_next_at (P := Try.prog) w o.type r b since c0 seen es clock hr hb hold hsc with ⟨_, hrun⟩ | ⟨e, hem, w1, hw1, hrun⟩
  · simp [execOp, hop, hit, hrun, Result.andThen]
    exact hK' _ _ hDone
  · obtain ⟨hme, hse⟩ := mem_left hem
    have hmap : (e.key, e.val) ∈ es.toList.map (fun e => (e.key, e.val)) := List.mem_map.2 ⟨e, hme, rfl⟩
    rw [he] at hmap
    obtain ⟨⟨⟨k0, k1⟩, ⟨u0, u1⟩⟩, hD, hkv⟩ := List.mem_map.1 hmap
    simp only [Prod.mk.injEq] at hkv
    obtain ⟨hk, hv⟩ := hkv
    have hk' : e.key = .agg #[.int .i64 k0, .int .i64 k1] := hk.symm
    have hv' : e.val = .agg #[.int .i64 u0, .int .i64 u1] := hv.symm
    rw [hk', hv'] at hrun
    have hr1 : w1.heap[r]? = some (.mapIter (some b) since seen c0) := by rcases hw1 with rfl | rfl <;> exact hr
    have hb1 : w1.heap[b]? = some (.map es clock) := by rcases hw1 with rfl | rfl <;> exact hb
    have hset := heap_set (o' := .mapIter (some b) since (seen.push e.born) clock) hr1
    have hb2 : (setBlock w1 r (.mapIter (some b) since (seen.push e.born) clock)).heap[b]? = some (.map es clock) := (hset.2 b hne).trans hb1
    have hen := run_entry_at (P := Try.prog) _ r b since seen es clock e hset.1 hb2 hme hn
    rw [hk', hv'] at hen
    simp [execOp, hop, hit, hrun, Result.andThen]
    refine hK' _ _ (hMore k0 k1 u0 u1 _ _ hD ⟨es, clock, since, seen.push e.born, clock, hb2, he, hn, hset.1, hold, hck, hck, rfl⟩ (left_shrinks es seen e hem) ?_ hen)
    rcases hw1 with rfl | rfl <;> exact ⟨rfl, rfl, rfl, by simp [setBlock], fun i _ hi => hset.2 i hi⟩
end
end Go.Proofs.Ytnomjjhocblkkaa
