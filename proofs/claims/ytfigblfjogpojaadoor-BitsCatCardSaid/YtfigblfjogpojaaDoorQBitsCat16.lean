/- Part 17 of the proof of BitsCatCardSaid: The law BitsCat: for all arguments it returns true; each argument reads behind the call as it read before. Out of the plain theorem of YtfigblfjogpojaaDoorPureBitsCat and the printed contract. -/
import Derived.Test.YtfigblfjogpojaaDoorQBitsCat12
import Derived.Deep.Slices
import Derived.Deep.Strs
import Derived.OpenShut
section
namespace Go.Proofs.YtfigblfjogpojaaDoor.PBits
open Go.RowKit Go.Deep Go.ChangeShapes Go.Proofs.YtfigblfjogpojaaDoorW.PrintWords Go.Proofs.YtfigblfjogpojaaDoorW.PrintLast Go.Proofs.YtfigblfjogpojaaDoorW.PrintMore
set_option linter.unusedVariables false
def Reads (P : Program) {α : Type} (k : Kd α) (t : TypeId) (ok : α → Prop) : Prop :=
  ∀ (H : Type) (enc : TypeId × Value → H) (w : World) (fuel : Nat) (cs : List Value) (x : DataW H × List MemPlace), DataW.trod enc P w 0 (fun _ => true) true fuel t cs = some x → ∃ a : α, k.K w a cs ∧ cs.length = k.sz ∧ ok a
theorem Reads.slice {P : Program} {α : Type} {k : Kd α} {t e : TypeId} {ok : α → Prop} (h : Reads P k e ok) (ht : P.underlying t = some (.slice e)) (hs : P.cellsOf e = k.sz)
    {H : Type} {enc : TypeId × Value → H} {w : World} {fuel : Nat} {A : Option Addr} {len cap : Nat} {x : DataW H × List MemPlace} (hx : DataW.trod enc P w 0 (fun _ => true) true fuel t [.slice A len cap] = some x) :
    ∃ l : List α, k.C w A len l ∧ l.length = len ∧ len ≤ cap ∧ cap ≤ maxLen ∧ (∀ a ∈ l, ok a) ∧ (A = none ∧ x.1 = .nil ∨ ∃ el sp, x.1 = .slice el sp ∧ el.length = len ∧ el.length + sp.length = cap) := by
  rcases open_slice ht hx with ⟨h0, hx0⟩ | ⟨a, len', cap', m, n, D, Pl, h0, _, hl, hm, hmm, hx0, hel⟩
  · simp only [List.cons.injEq, Value.slice.injEq, and_true] at h0
    obtain ⟨rfl, rfl, rfl⟩ := h0
    exact ⟨[], Kd.C_nil k w, rfl, Nat.le_refl _, Nat.zero_le _, by simp, .inl ⟨rfl, by rw [hx0]⟩⟩
  · simp only [List.cons.injEq, Value.slice.injEq, and_true] at h0
    obtain ⟨rfl, rfl, rfl⟩ := h0
    have hmc : m = cap := by simpa using hmm
    have each : ∀ i : Fin len, ∃ a' : α, ok a' ∧ ∃ c : List Value, c.length = k.sz ∧ k.K w a' c ∧ ∀ j u, c[j]? = some u → w.cell? (a.add (i.1 * k.sz + j)) = some u := by
      intro i
      obtain ⟨cs', hc, hr⟩ := hel i.1 (by omega)
      obtain ⟨a', hK, hlen, hok⟩ := h H enc w n cs' _ hr
      obtain ⟨_, hlc, hcell⟩ := World.cells?_some hc
      refine ⟨a', hok, cs', hlen, hK, fun j u hu => ?_⟩
      have hj : j < cs'.length := (List.getElem?_eq_some_iff.1 hu).1
      have := hcell j (by omega)
      rw [hs, Go.Deep.add_add] at this
      rw [this]; exact hu
    refine ⟨List.ofFn fun i => Classical.choose (each i), ⟨by simp, by unfold maxLen at hm; omega, fun _ => ⟨a, rfl, fun j p hj => ?_⟩⟩, by simp, hl, hm, ?_, .inr ⟨_, _, by rw [hx0], by simp, by simp; omega⟩⟩
    · obtain ⟨hlt, hp⟩ := List.getElem?_eq_some_iff.1 hj
      rw [List.length_ofFn] at hlt
      rw [List.getElem_ofFn] at hp
      subst hp
      obtain ⟨c, h1, h2, h3⟩ := (Classical.choose_spec (each ⟨j, hlt⟩)).2
      exact ⟨c, h1, h2, h3⟩
    · intro b hb
      obtain ⟨i, rfl⟩ := List.mem_ofFn.1 hb
      exact (Classical.choose_spec (each i)).1
def ok24 (s : S24) : Prop := (Lit.int .i64 s.f0).wf = true ∧ (Lit.int .u64 s.f1).wf = true ∧ (Lit.int .u64 s.f2).wf = true
theorem cells24 : Tryd.prog.cellsOf 24 = 3 := by kernel_rfl
set_option maxRecDepth 100000 in
theorem reads24 : Reads Tryd.prog k24 24 ok24 := by
  intro H enc w fuel cs x h
  obtain ⟨y0, y1, y2, n, _, hl, h0, h1, h2⟩ := trod_struct3 Tryd.underlying24 h
  rw [cells24] at hl
  match cs, hl with
  | [c0, c1, c2], _ =>
    obtain ⟨a, e0, _, wa⟩ := DataW.trod_int Tryd.underlying3 h0
    obtain ⟨b, e1, _, wb⟩ := DataW.trod_int Tryd.underlying22 h1
    obtain ⟨c, e2, _, wc⟩ := DataW.trod_int Tryd.underlying22 h2
    have k3 : Tryd.prog.cellsOf 3 = 1 := by kernel_rfl
    have k22 : Tryd.prog.cellsOf 22 = 1 := by kernel_rfl
    simp [k3, k22] at e0 e1 e2
    subst e0; subst e1; subst e2
    exact ⟨⟨a, b, c⟩, k24_mk w ⟨a, b, c⟩, rfl, wa, wb, wc⟩
end Go.Proofs.YtfigblfjogpojaaDoor.PBits
end
