/- Part 16 of the proof of LexTokensSaid: The law LexTokens: for all arguments it returns true; each argument reads behind the call as it read before. Out of the plain theorem of YtlamgdibnnmbmaaLtA and the printed contract. -/
import Derived.Test.YtlamgdibnnmbmaaQLexTokens14
import Derived.Laws.Rows
import Derived.Tactics
section
namespace Go.Proofs.YtlamgdibnnmbmaaW.PrintMore
open Go.RowKit Go.Proofs.YtlamgdibnnmbmaaW.PrintWords Go.Proofs.YtlamgdibnnmbmaaW.PrintLast
set_option linter.unusedVariables false
section
variable {P : Program} {ops : Array Oper} {rest : List Oper} {o : Oper} {a : Act} {Q : Exit → Act → World → Prop}
theorem boxA {w0 W W0 : World} (HB : Aside0 (Below w0.heap.size w0 W0)) (N : Tmp) (cs : Array Value) (t : TypeId)
    (h : ∀ (g : Nat) (w1 : World), Aside0 (w1.heap[g]? = some (.cells cs t (0, 0))) → Aside0 (w0.heap.size ≤ g) → g = W.heap.size → Below W.heap.size W w1 → Aside0 (Below w0.heap.size w0 w1) → wpList P ops Q rest (a.put o.dst (.pointer (some ⟨g, 0, none⟩))) w1)
    (hd : o.dst = some N := by rfl) (hgd : o.guard = none := by rfl) (hrun : (execOp a.eval o).run P W = .ok (.value (.pointer (some ⟨W.heap.size, 0, none⟩))) (W.alloc (.cells cs t (0, 0))) := by go_simp; done)
    (s : Below w0.heap.size w0 W0 → Below w0.heap.size w0 W := by intro h; repeat (first | (with_reducible first | exact h | apply below_alloc | apply pw_below_drewN | apply below_drew1) | refine below_set ?_ (by first | assumption | exact Aside0.out (by assumption)))) :
    wpList P ops Q (o :: rest) a W :=
  box_event hgd hd hrun fun g hg w1 hbox hb => h g w1 (Aside0.mk hbox) (ge1 HB hg s) hg hb (hb1 HB hb s)
theorem callA {w : World} (N : Option Tmp) {f : FuncId} {fn : Func} {as_ : Array Operand} {ts : Array TypeId} (hf : P.funcs[f]? = some fn) (args : Array Value)
    (h : Calls P f args w fun e w' => ∃ v, e = .returned v ∧ wpList P ops Q rest (a.put N v) w')
    (hop : o.op = .call { callee := .value (.func f), args := as_, argTypes := ts } := by rfl) (hd : o.dst = N := by rfl) (hg : o.guard = none := by rfl) (hname : (fn.name == "runtime.NumGoroutine") = false := by kernel_rfl) (hb : fn.body.isSome = true := by rfl)
    (hargs : as_.map a.eval = args := by (try simp only [List.map_toArray, List.map_cons, List.map_nil]); rfl) : wpList P ops Q (o :: rest) a w :=
  goesL_ N hd hg hf hname hb args hop hargs h
end
section
variable {W : World} {g g' : Nat} {ob : Obj} {t : TypeId}
theorem nbA (h : Aside0 (W.heap[g]? = some ob)) (hg : g' = W.heap.size) : Aside0 (g ≠ g') := ⟨by rw [hg]; exact Nat.ne_of_lt (blk_lt h.out)⟩
theorem nbB (h : Aside0 (W.heap[g]? = some ob)) (hg : g' = W.heap.size) : Aside0 (g' ≠ g) := ⟨by rw [hg]; exact Nat.ne_of_gt (blk_lt h.out)⟩
theorem cf3 {v0 v1 v2 : Value} (h : Aside0 (W.heap[g]? = some (.cells #[v0, v1, v2] t (0, 0)))) : W.cell? ⟨g, 0, none⟩ = some v0 ∧ W.cell? ⟨g, 1, none⟩ = some v1 ∧ W.cell? ⟨g, 2, none⟩ = some v2 ∧ W.frozen? ⟨g, 0, none⟩ = false ∧ W.frozen? ⟨g, 1, none⟩ = false ∧ W.frozen? ⟨g, 2, none⟩ = false := ⟨(blk_cell h.out 0).trans rfl, (blk_cell h.out 1).trans rfl, (blk_cell h.out 2).trans rfl, blk_frozen h.out 0, blk_frozen h.out 1, blk_frozen h.out 2⟩
theorem put3 {v0 v1 v2 u0 u1 u2 : Value} (h : Aside0 (W.heap[g]? = some (.cells #[v0, v1, v2] t (0, 0)))) : (World.heap (World.setCell (World.setCell (World.setCell W ⟨g, 0, none⟩ u0) ⟨g, 1, none⟩ u1) ⟨g, 2, none⟩ u2))[g]? = some (.cells #[u0, u1, u2] t (0, 0)) := blk_put (cs' := #[u0, u1, u2]) (blk_put (cs' := #[u0, u1, v2]) (blk_put (cs' := #[u0, v1, v2]) (h.out) 0 _ rfl) 1 _ rfl) 2 _ rfl
theorem cf9 {v0 v1 v2 v3 v4 v5 v6 v7 v8 : Value} (h : Aside0 (W.heap[g]? = some (.cells #[v0, v1, v2, v3, v4, v5, v6, v7, v8] t (0, 0)))) : W.cell? ⟨g, 0, none⟩ = some v0 ∧ W.cell? ⟨g, 1, none⟩ = some v1 ∧ W.cell? ⟨g, 2, none⟩ = some v2 ∧ W.cell? ⟨g, 3, none⟩ = some v3 ∧ W.cell? ⟨g, 4, none⟩ = some v4 ∧ W.cell? ⟨g, 5, none⟩ = some v5 ∧ W.cell? ⟨g, 6, none⟩ = some v6 ∧ W.cell? ⟨g, 7, none⟩ = some v7 ∧ W.cell? ⟨g, 8, none⟩ = some v8 ∧ W.frozen? ⟨g, 0, none⟩ = false ∧ W.frozen? ⟨g, 1, none⟩ = false ∧ W.frozen? ⟨g, 2, none⟩ = false ∧ W.frozen? ⟨g, 3, none⟩ = false ∧ W.frozen? ⟨g, 4, none⟩ = false ∧ W.frozen? ⟨g, 5, none⟩ = false ∧ W.frozen? ⟨g, 6, none⟩ = false ∧ W.frozen? ⟨g, 7, none⟩ = false ∧ W.frozen? ⟨g, 8, none⟩ = false := ⟨(blk_cell h.out 0).trans rfl, (blk_cell h.out 1).trans rfl, (blk_cell h.out 2).trans rfl, (blk_cell h.out 3).trans rfl, (blk_cell h.out 4).trans rfl, (blk_cell h.out 5).trans rfl, (blk_cell h.out 6).trans rfl, (blk_cell h.out 7).trans rfl, (blk_cell h.out 8).trans rfl, blk_frozen h.out 0, blk_frozen h.out 1, blk_frozen h.out 2, blk_frozen h.out 3, blk_frozen h.out 4, blk_frozen h.out 5, blk_frozen h.out 6, blk_frozen h.out 7, blk_frozen h.out 8⟩
end
section
variable {P : Program} {fn : Func} {R : Ending → World → Prop} {a : Act} {w : World}
theorem retA {p : Tmp} {ty : TypeId} {d : TypeDesc} (g : Nat) (t : TypeId) (cs : Array Value) (hg : w.heap[g]? = some (.cells cs t (0, 0))) (hu : P.underlying ty = some d) (hR : R (.returned (.agg cs)) w)
    (h : fn.results = #[.cell p ty] := by rfl) (hp : a.tmps.getD p undef = .pointer (some ⟨g, 0, none⟩) := by rfl) (hd : (match d with | .struct _ | .array _ _ => true | _ => false) = true := by rfl) (hi : (P.info? ty).map (·.size) = some cs.size := by kernel_rfl) (hdf : a.defers = [] := by rfl) : bodyPost P fn R .ret a w :=
  bodyPost_ret (results_cell_row h _ _ g t cs (0, 0) d hp hg hu hd hi) hdf hR
end
section
variable {α β : Type} {c : Prop} [Decidable c] {x y : Option α} {r : α}
theorem iN (h : (if c then x else none) = some r) : decide c = true ∧ x = some r := by
  by_cases k : c
  · exact ⟨decide_eq_true k, by rw [if_pos k] at h; exact h⟩
  · rw [if_neg k] at h; cases h
theorem iD (h : (if c then x else y) = some r) : (decide c = true ∧ x = some r) ∨ (decide c = false ∧ y = some r) := by
  by_cases k : c
  · exact .inl ⟨decide_eq_true k, by rw [if_pos k] at h; exact h⟩
  · exact .inr ⟨decide_eq_false k, by rw [if_neg k] at h; exact h⟩
theorem iE {γ : Type} [BEq γ] [LawfulBEq γ] {m n : γ} [Decidable (m = n)] (h : (if m = n then x else y) = some r) : ((m == n) = true ∧ (m != n) = false ∧ x = some r) ∨ (¬ m = n ∧ (m == n) = false ∧ (m != n) = true ∧ y = some r) := by
  by_cases k : m = n
  · exact .inl ⟨beq_iff_eq.mpr k, bne_eq_false_iff_eq.mpr k, by rw [if_pos k] at h; exact h⟩
  · exact .inr ⟨k, beq_eq_false_iff_ne.mpr k, bne_iff_ne.mpr k, by rw [if_neg k] at h; exact h⟩
theorem iB {b : Bool} (h : (if b = true then x else y) = some r) : (b = true ∧ x = some r) ∨ (b = false ∧ y = some r) := by
  cases b
  · exact .inr ⟨rfl, by rw [if_neg (by decide)] at h; exact h⟩
  · exact .inl ⟨rfl, by rw [if_pos rfl] at h; exact h⟩
theorem bN {z : Option β} {f : β → Option α} (h : z.bind f = some r) : ∃ v, Aside0 (z = some v) ∧ f v = some r := by
  obtain ⟨v, h1, h2⟩ := Option.bind_eq_some_iff.mp h
  exact ⟨v, ⟨h1⟩, h2⟩
theorem s2 {β : Type} {p p' : α} {q q' : β} (h : some (p, q) = some (p', q')) : p = p' ∧ q = q' := by simpa using h
theorem s3 {β γ : Type} {p p' : α} {q q' : β} {s s' : γ} (h : some (p, q, s) = some (p', q', s')) : p = p' ∧ q = q' ∧ s = s' := by simpa using h
theorem s4 {β γ δ : Type} {p p' : α} {q q' : β} {s s' : γ} {u u' : δ} (h : some (p, q, s, u) = some (p', q', s', u')) : p = p' ∧ q = q' ∧ s = s' ∧ u = u' := by simpa using h
end
end Go.Proofs.YtlamgdibnnmbmaaW.PrintMore
end
