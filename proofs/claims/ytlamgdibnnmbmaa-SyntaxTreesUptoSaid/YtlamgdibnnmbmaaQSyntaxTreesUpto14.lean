/- Part 15 of the proof of SyntaxTreesUptoSaid: The law SyntaxTrees, where the trees that it reads are of bulk at most 1048576: it returns true; the trees read behind the call as it read before. Out of the plain theorem of YtlamgdibnnmbmaaTr5. -/
import Derived.Test.YtlamgdibnnmbmaaQSyntaxTreesUpto13
import Derived.Test.YtlamgdibnnmbmaaRows
import Derived.Deep.Slices
import Derived.Deep.Strs
import Derived.OpenShut
section
namespace Go.Proofs.Ytlamgdibnnmbmaa.PSyn
open Go.RowKit Go.Deep Go.ChangeShapes Go.Proofs.YtlamgdibnnmbmaaW.PrintWords Go.Proofs.YtlamgdibnnmbmaaW.PrintLast Go.Proofs.YtlamgdibnnmbmaaW.PrintMore
set_option linter.unusedVariables false
set_option linter.unusedSimpArgs false
mutual
def S27.bulk : S27 → Nat
  | ⟨_, _, _, s, t, _, _, kids⟩ => 1 + s.size + t.size + bulkAll kids
def bulkAll : List S27 → Nat
  | [] => 0
  | a :: l => a.bulk + bulkAll l
end
mutual
def S27.ok : S27 → Prop
  | ⟨a, b, c, _, _, n, _, kids⟩ => (Lit.int .i64 a).wf = true ∧ (Lit.int .i64 b).wf = true ∧ (Lit.int .i64 c).wf = true ∧ ((Lit.int .i64 n.f0).wf = true ∧ (Lit.int .u64 n.f1).wf = true ∧ (Lit.int .u64 n.f2).wf = true) ∧ okAll kids
def okAll : List S27 → Prop
  | [] => True
  | a :: l => a.ok ∧ okAll l
end
theorem okAll_mk : ∀ l : List S27, (∀ a ∈ l, a.ok) → okAll l
  | [], _ => trivial
  | a :: l, h => ⟨h a (List.mem_cons_self ..), okAll_mk l fun b hb => h b (List.mem_cons_of_mem _ hb)⟩
theorem bulkAll_le {H : Type} : ∀ (l : List S27) (es : List (DataW H)), l.length = es.length → (∀ i (h : i < l.length) (h' : i < es.length), (l[i]).bulk ≤ Rows.uptoBulk es[i]) → bulkAll l ≤ Rows.uptoBulkAll es
  | [], _, _, _ => Nat.zero_le _
  | a :: l, [], h, _ => by cases h
  | a :: l, e :: es, h, hb => by
    have h0 := hb 0 (by simp) (by simp)
    have h1 := bulkAll_le l es (by simpa using h) fun i h h' => hb (i + 1) (by simpa using h) (by simpa using h')
    simp only [bulkAll, Rows.uptoBulkAll]
    simp only [List.getElem_cons_zero] at h0
    omega
def TreeAt (fuel : Nat) : Prop :=
  ∀ (H : Type) (enc : TypeId × Value → H) (w : World) (cs : List Value) (x : DataW H × List MemPlace), DataW.trod enc Try.prog w 0 (fun _ => true) true fuel 27 cs = some x → ∃ a : S27, k27.K w a cs ∧ cs.length = 10 ∧ a.ok ∧ a.bulk ≤ Rows.uptoBulk x.1
theorem cells27 : Try.prog.cellsOf 27 = 10 := by kernel_rfl
theorem kids_at {n : Nat} (h : TreeAt n) {H : Type} {enc : TypeId × Value → H} {w : World} {cs : List Value} {x : DataW H × List MemPlace} (hx : DataW.trod enc Try.prog w 0 (fun _ => true) true (n + 1) 25 cs = some x) :
    ∃ (A : Option Addr) (cap : Nat) (l : List S27), cs = [.slice A l.length cap] ∧ l.length ≤ cap ∧ cap ≤ maxLen ∧ k27.C w A l.length l ∧ okAll l ∧ bulkAll l + 1 ≤ Rows.uptoBulk x.1 := by
  rcases DataW.trod_slice Try.underlying25 hx with ⟨h0, hx0⟩ | ⟨a, len, cap, elems, rest, m, hm, h0, hx0, _, hl, hmax, hlen, hel, _, _⟩
  · subst h0; subst hx0
    exact ⟨none, 0, [], rfl, Nat.le_refl _, Nat.zero_le _, Kd.C_nil k27 w, trivial, by simp [bulkAll, Rows.uptoBulk]⟩
  · obtain rfl : m = n := by omega
    subst h0; subst hx0
    have each : ∀ i : Fin len, ∃ a' : S27, a'.ok ∧ a'.bulk ≤ Rows.uptoBulk (elems[i.1]'(by omega)).1 ∧ ∃ c : List Value, c.length = k27.sz ∧ k27.K w a' c ∧ ∀ j u, c[j]? = some u → w.cell? (a.add (i.1 * k27.sz + j)) = some u := by
      intro i
      have he := hel i.1 i.2
      rw [List.getElem?_eq_getElem (by omega)] at he
      obtain ⟨cs', hc, hr⟩ := Option.bind_eq_some_iff.1 he
      obtain ⟨a', hK, hl10, hok, hb⟩ := h H enc w cs' _ hr
      obtain ⟨_, hlc, hcell⟩ := World.cells?_some hc
      refine ⟨a', hok, hb, cs', hl10, hK, fun j u hu => ?_⟩
      have hj : j < cs'.length := (List.getElem?_eq_some_iff.1 hu).1
      have := hcell j (by omega)
      rw [cells27, Go.Deep.add_add] at this
      have e10 : k27.sz = 10 := rfl
      rw [e10, this]; exact hu
    have hlenF : (List.ofFn fun i : Fin len => Classical.choose (each i)).length = len := by simp
    refine ⟨some a, cap, List.ofFn fun i => Classical.choose (each i), by rw [hlenF], by rw [hlenF]; exact hl, hmax, ⟨rfl, by rw [hlenF]; unfold maxLen at hmax; omega, fun _ => ⟨a, rfl, fun j p hj => ?_⟩⟩, okAll_mk _ fun b hb => ?_, ?_⟩
    · obtain ⟨hlt, hp⟩ := List.getElem?_eq_some_iff.1 hj
      rw [List.length_ofFn] at hlt
      rw [List.getElem_ofFn] at hp
      subst hp
      obtain ⟨c, h1, h2, h3⟩ := (Classical.choose_spec (each ⟨j, hlt⟩)).2.2
      exact ⟨c, h1, h2, h3⟩
    · obtain ⟨i, rfl⟩ := List.mem_ofFn.1 hb
      exact (Classical.choose_spec (each i)).1
    · have hb : bulkAll (List.ofFn fun i => Classical.choose (each i)) ≤ Rows.uptoBulkAll (elems.map (·.1)) := by
        refine bulkAll_le _ _ (by simp [hlen]) fun i h h' => ?_
        rw [List.getElem_ofFn, List.getElem_map]
        exact (Classical.choose_spec (each ⟨i, by simpa using h⟩)).2.1
      simp only [Rows.uptoBulk]
      omega
set_option maxRecDepth 100000 in
theorem tree_at : ∀ n, TreeAt n
  | 0 => fun H enc w cs x h => by simp [DataW.trod] at h
  | n + 1 => fun H enc w cs x h => by
    obtain ⟨xs, m, hm, rfl, hl, hlen, hf⟩ := DataW.trod_struct Try.underlying27 h
    obtain rfl : m = n := by omega
    rw [cells27] at hl
    have c3 : Try.prog.cellsOf 3 = 1 := by kernel_rfl
    have c9 : Try.prog.cellsOf 9 = 1 := by kernel_rfl
    have c24 : Try.prog.cellsOf 24 = 3 := by kernel_rfl
    have c4 : Try.prog.cellsOf 4 = 1 := by kernel_rfl
    have c25 : Try.prog.cellsOf 25 = 1 := by kernel_rfl
    have c22 : Try.prog.cellsOf 22 = 1 := by kernel_rfl
    match xs, hlen, cs, hl with
    | [y0, y1, y2, y3, y4, y5, y6, y7], _, [v0, v1, v2, v3, v4, v5, v6, v7, v8, v9], _ =>
      have h0 := hf 0 _ rfl
      have h1 := hf 1 _ rfl
      have h2 := hf 2 _ rfl
      have h3 := hf 3 _ rfl
      have h4 := hf 4 _ rfl
      have h5 := hf 5 _ rfl
      have h6 := hf 6 _ rfl
      have h7 := hf 7 _ rfl
      simp only [c3, c9, c24, c4, c25, List.drop_zero, List.drop_succ_cons, List.take_succ_cons, List.take_zero, List.getElem?_cons_zero, List.getElem?_cons_succ] at h0 h1 h2 h3 h4 h5 h6 h7
      obtain ⟨a, e0, z0, wa⟩ := DataW.trod_int Try.underlying3 h0
      obtain ⟨b, e1, z1, wb⟩ := DataW.trod_int Try.underlying3 h1
      obtain ⟨c, e2, z2, wc⟩ := DataW.trod_int Try.underlying3 h2
      obtain ⟨s, e3, z3, ws⟩ := DataW.trod_string Try.underlying9 h3
      obtain ⟨t, e4, z4, wt⟩ := DataW.trod_string Try.underlying9 h4
      obtain ⟨q, e6, z6⟩ := DataW.trod_bool Try.underlying4 h6
      obtain ⟨us, m5, hm5, z5, hl5, hlen5, hf5⟩ := DataW.trod_struct Try.underlying24 h5
      match us, hlen5 with
      | [u0, u1, u2], _ =>
        have g0 := hf5 0 _ rfl
        have g1 := hf5 1 _ rfl
        have g2 := hf5 2 _ rfl
        simp only [c3, c22, List.drop_zero, List.drop_succ_cons, List.take_succ_cons, List.take_zero, List.getElem?_cons_zero, List.getElem?_cons_succ] at g0 g1 g2
        obtain ⟨d0, p0, _, w0⟩ := DataW.trod_int Try.underlying3 g0
        obtain ⟨d1, p1, _, w1⟩ := DataW.trod_int Try.underlying22 g1
        obtain ⟨d2, p2, _, w2⟩ := DataW.trod_int Try.underlying22 g2
        cases m with
        | zero => simp [DataW.trod] at h7
        | succ m =>
          have hk : TreeAt m := fun H enc w cs x h => tree_at m H enc w cs x h
          obtain ⟨A, cap, l, e7, lc, lm, hC, hok, hb⟩ := kids_at hk h7
          injection e0 with e0; injection e1 with e1; injection e2 with e2; injection e3 with e3; injection e4 with e4; injection e6 with e6; injection e7 with e7
          injection p0 with p0; injection p1 with p1; injection p2 with p2
          subst e0; subst e1; subst e2; subst e3; subst e4; subst e6; subst e7; subst p0; subst p1; subst p2
          refine ⟨⟨a, b, c, s, t, ⟨d0, d1, d2⟩, q, l⟩, k27_mk w ⟨a, b, c, s, t, ⟨d0, d1, d2⟩, q, l⟩ lc hC, rfl, ⟨wa, wb, wc, ⟨w0, w1, w2⟩, hok⟩, ?_⟩
          simp only [S27.bulk, Rows.uptoBulk, Rows.uptoBulkAll, List.map_cons, List.map_nil, z0, z1, z2, z3, z4, z5, z6, Array.length_toList]
          have es : s.data.size = s.size := rfl
          have et : t.data.size = t.size := rfl
          omega
end Go.Proofs.Ytlamgdibnnmbmaa.PSyn
end
