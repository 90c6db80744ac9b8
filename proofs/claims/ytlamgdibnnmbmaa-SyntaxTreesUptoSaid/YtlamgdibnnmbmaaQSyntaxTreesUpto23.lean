/- Part 24 of the proof of SyntaxTreesUptoSaid: The law SyntaxTrees, where the trees that it reads are of bulk at most 1048576: it returns true; the trees read behind the call as it read before. Out of the plain theorem of YtlamgdibnnmbmaaTr5. -/
import Derived.Test.YtlamgdibnnmbmaaQSyntaxTreesUpto18
import Derived.Test.YtlamgdibnnmbmaaQSyntaxTreesUpto16
section
namespace Go.Proofs.Ytlamgdibnnmbmaa.PSyn
open Go.RowKit Go.Proofs.YtlamgdibnnmbmaaW.PrintWords Go.Proofs.YtlamgdibnnmbmaaW.PrintLast Go.Proofs.YtlamgdibnnmbmaaW.PrintMore
set_option linter.unusedVariables false
set_option linter.unusedSimpArgs false
mutual
def S27.visit (stop : Int) : S27 → List Int
  | ⟨a0, _, _, _, _, _, _, kids⟩ => a0 :: (if a0 = stop then [] else visitAll stop kids)
def visitAll (stop : Int) : List S27 → List Int
  | [] => []
  | a :: l => a.visit stop ++ visitAll stop l
end
theorem visit_eq (stop : Int) : ∀ a : S27, a.visit stop = a.f0 :: (if a.f0 = stop then [] else visitAll stop a.f7)
  | ⟨_, _, _, _, _, _, _, _⟩ => by simp only [S27.visit]
mutual
theorem visit_len (stop : Int) : ∀ a : S27, (a.visit stop).length ≤ a.cnt
  | ⟨_, _, _, _, _, _, _, kids⟩ => by
    have := visitAll_len stop kids
    simp only [S27.visit, S27.cnt, List.length_cons]
    split
    · simp
    · omega
theorem visitAll_len (stop : Int) : ∀ l : List S27, (visitAll stop l).length ≤ cntAll l
  | [] => Nat.le_refl _
  | a :: l => by
    have h1 := visit_len stop a
    have h2 := visitAll_len stop l
    simp only [visitAll, cntAll, List.length_append]; omega
end
structure Stp (B g : Nat) (w1 w : World) (xs : List Int) : Prop where
  os : w.os = w1.os
  tape : w.tape = w1.tape
  output : w.output = w1.output
  size : w1.heap.size ≤ w.heap.size
  keep : ∀ k, k < B → k ≠ g → w.heap[k]? = w1.heap[k]?
  cell : ∃ v, w.heap[g]? = some (.cells #[v] 42 (0, 0)) ∧ (Kd.int .i64).R 3 w B (fun _ => True) v xs
theorem Stp.below {B g : Nat} {w1 w w2 : World} {xs : List Int} (h : Stp B g w1 w xs) (hB : B ≤ w1.heap.size) (hb : Below w.heap.size w w2) : Stp B g w1 w2 xs := by
  obtain ⟨h1, h2, h3, h4, h5, v, h6, h7⟩ := h
  exact ⟨hb.os.trans h1, hb.tape.trans h2, hb.output.trans h3, Nat.le_trans h4 hb.size, fun k hk hne => (hb.block k (by omega)).trans (h5 k hk hne), v, blk_below h6 hb, Kd.R_below h7 hb⟩
theorem Stp.drew {B g : Nat} {w1 w : World} {xs : List Int} (h : Stp B g w1 w xs) : Stp B g w1 w.drew xs := ⟨h.os, h.tape, h.output, h.size, h.keep, h.cell⟩
theorem Stp.old {B g : Nat} {w1 w : World} {xs : List Int} (h : Stp B g w1 w xs) {w0 : World} (hb : Below w0.heap.size w0 w1) (hg : w0.heap.size ≤ g) (hB : w0.heap.size ≤ B) : Below w0.heap.size w0 w :=
  ⟨h.os.trans hb.os, h.tape.trans hb.tape, h.output.trans hb.output, Nat.le_trans hb.size h.size, fun k hk => (h.keep k (by omega) (by omega)).trans (hb.block k hk)⟩
theorem Stp.put {B g : Nat} {w1 w w3 : World} {xs ys : List Int} {v3 : Value} (h : Stp B g w1 w xs) (hgB : g < B) (hB : B ≤ w1.heap.size) (hb : Below B w w3) (hR : (Kd.int .i64).R 3 w3 B (fun _ => True) v3 ys) : Stp B g w1 (w3.setCell ⟨g, 0, none⟩ v3) ys := by
  obtain ⟨h1, h2, h3, h4, h5, v, h6, h7⟩ := h
  have hg3 : w3.heap[g]? = some (.cells #[v] 42 (0, 0)) := (hb.block g hgB).trans h6
  refine ⟨hb.os.trans h1, hb.tape.trans h2, hb.output.trans h3, Nat.le_trans h4 (by simpa [World.setCell] using hb.size), fun k hk hne => ?_, v3, blk_put (cs' := #[v3]) hg3 0 _ rfl, ?_⟩
  · rw [Below.heap_setCell _ _ _ _ hne]
    exact (hb.block k hk).trans (h5 k hk hne)
  · exact Kd.R_mono (Kd.R_far (p := ⟨g, 0, none⟩) (Kd.R_mono (ok' := fun k => B ≤ k) (Kd.R_bound hR) (fun k hk => hk.2.1)) (fun k hk => by show k ≠ g; have : B ≤ k := hk; omega) _) (fun _ _ => trivial)
def rowOf (w : World) (g : Nat) : Option Nat := match w.heap[g]? with
  | some (.cells cs _ _) => (cs[0]!).ownBlock
  | _ => none
theorem rowOf_eq {w : World} {g : Nat} {v : Value} (h : w.heap[g]? = some (.cells #[v] 42 (0, 0))) : rowOf w g = v.ownBlock := by
  unfold rowOf; rw [h]; rfl
structure Fr (g : Nat) (w w' : World) : Prop where
  keep : ∀ k, k < w.heap.size → k ≠ g → some k ≠ rowOf w g → w'.heap[k]? = w.heap[k]?
  row : rowOf w' g = rowOf w g ∨ ∃ b, rowOf w' g = some b ∧ w.heap.size ≤ b
  size : w.heap.size ≤ w'.heap.size
theorem Fr.trans {g : Nat} {w w' w'' : World} (h : Fr g w w') (k : Fr g w' w'') : Fr g w w'' := by
  refine ⟨fun j hj hne hr => ?_, ?_, Nat.le_trans h.size k.size⟩
  · refine (k.keep j (Nat.lt_of_lt_of_le hj h.size) hne (fun e => ?_)).trans (h.keep j hj hne hr)
    rcases h.row with q | ⟨b, q, hb⟩
    · rw [q] at e; exact hr e
    · rw [q] at e; injection e with e; omega
  · rcases k.row with q | ⟨b, q, hb⟩
    · rw [q]; exact h.row
    · exact .inr ⟨b, q, Nat.le_trans h.size hb⟩
theorem Fr.of_below {g : Nat} {w w' : World} (hg : g < w.heap.size) (hb : Below w.heap.size w w') : Fr g w w' :=
  ⟨fun k hk _ _ => hb.block k hk, .inl (by unfold rowOf; rw [hb.block g hg]), hb.size⟩
theorem Stp.appended {B g gs gb : Nat} {stop : Int} {w1 w2 w3 : World} {xs ys : List Int} {v v3 : Value} {bs : Array Value} (hB : B ≤ w1.heap.size) (hgB : g < B) (hgs : w1.heap[gs]? = some (.cells #[.int .i64 stop] 3 (0, 0))) (hsB : gs < B) (hne : gs ≠ g)
    (HS2 : Stp B g w1 w2 xs) (hv : w2.heap[g]? = some (.cells #[v] 42 (0, 0))) (hbox : w2.heap[gb]? = some (.cells bs 27 (0, 0))) (hgb : B ≤ gb) (hvb : v.ownBlock ≠ some gb)
    (ho : (Kd.int .i64).R 3 w3 B (fun _ => True) v3 ys) (hb : Below B w2 w3) (hg : w2.grownBy w3 v.ownBlock) (hat : v3.ownBlock = v.ownBlock ∨ ∃ b, v3.ownBlock = some b ∧ w2.heap.size ≤ b) :
    ∃ A3 c3, v3 = .slice A3 ys.length c3 ∧ w3.cell? ⟨g, 0, none⟩ = some v ∧ w3.frozen? ⟨g, 0, none⟩ = false ∧ w3.heap[gb]? = some (.cells bs 27 (0, 0)) ∧ w3.cell? ⟨gs, 0, none⟩ = some (.int .i64 stop) ∧ gb ≠ g ∧ Aside0 (Stp B g w1 (w3.setCell ⟨g, 0, none⟩ v3) ys ∧ Fr g w2 (w3.setCell ⟨g, 0, none⟩ v3)) := by
  obtain ⟨A3, c3, e3⟩ := Kd.R_slice ho
  have hg3 : w3.heap[g]? = some (.cells #[v] 42 (0, 0)) := (hb.block g hgB).trans hv
  have hgs3 : w3.heap[gs]? = some (.cells #[.int .i64 stop] 3 (0, 0)) := (hb.block gs hsB).trans ((HS2.keep gs hsB hne).trans hgs)
  refine ⟨A3, c3, e3, (blk_cell hg3 0).trans rfl, blk_frozen hg3 0, blk_grown hbox hg (fun e => hvb e.symm), (blk_cell hgs3 0).trans rfl, by omega, Aside0.mk ⟨HS2.put hgB hB hb ho, fun k hk hne' hr => ?_, ?_, by simpa [World.setCell] using hg.size⟩⟩
  · rw [Below.heap_setCell _ _ _ _ hne', hg.block k hk (by rwa [rowOf_eq hv] at hr)]
  · rw [rowOf_eq (blk_put (cs' := #[v3]) hg3 0 _ rfl), rowOf_eq hv]; exact hat
theorem Stp.row_lt {B g gb : Nat} {w1 w w2 : World} {xs : List Int} {v : Value} (h : Stp B g w1 w xs) (hb : Below w.heap.size w w2) (hv : w2.heap[g]? = some (.cells #[v] 42 (0, 0))) (hg : gb = w.heap.size) : v.ownBlock ≠ some gb := by
  obtain ⟨v', hv', hR'⟩ := h.cell
  have e1 := blk_below hv' hb
  rw [hv] at e1
  injection e1 with e1
  injection e1 with e1
  have e2 : v = v' := by simpa using e1
  subst e2
  intro hk
  have := own_lt hR'.2.choose_spec.1 gb hk
  omega
section
variable {w0 w1 : World} {B g gs : Nat} {stop : Int}
set_option maxHeartbeats 4000000 in
set_option maxRecDepth 100000 in
theorem clos18 (hB : B ≤ w1.heap.size) (hgB : g < B) (hgs : w1.heap[gs]? = some (.cells #[.int .i64 stop] 3 (0, 0))) (hsB : gs < B) (hne : gs ≠ g) (h01 : Below w0.heap.size w0 w1) (h0g : w0.heap.size ≤ g) (h0B : w0.heap.size ≤ B)
    (a : S27) (cs : List Value) (w : World) (xs : List Int) (hK : k27.K w0 a cs) (hS : Stp B g w1 w xs) (hx : xs.length + 1 ≤ 1000000) :
    Calls Try.prog 18 #[.agg cs.toArray, .pointer (some ⟨g, 0, none⟩), .pointer (some ⟨gs, 0, none⟩)] w fun e w' => e = .returned (.bool (a.f0 != stop)) ∧ Stp B g w1 w' (xs ++ [a.f0]) ∧ Fr g w w' := by
  obtain ⟨A9, c9, rfl, hl9, hC9⟩ := k27_open hK
  have HX := Aside0.mk hx
  have HS := Aside0.mk hS
  have ST := Aside0.mk (And.intro hB (And.intro hgB (And.intro hgs (And.intro hsB hne))))
  clear hS hK hC9 hB hgB hgs hsB hne h01 h0g h0B hx
  go_enter Try.func18, Try.ntmps18
  go_wp2_with (first
    | ((with_reducible refine gate_dst (N := 3) rfl ?_); refine box_event ?hg (N := 3) ?hd (cs := #[.int .i64 a.f0, .int .i64 a.f1, .int .i64 a.f2, .string a.f3, .string a.f4, .int .i64 a.f5.f0, .int .u64 a.f5.f1, .int .u64 a.f5.f2, .bool a.f6, .slice A9 a.f7.length c9]) (t := 27) ?hr ?_; (case hd => rfl); (case hg => rfl); (case hr => (go_simp; done)); intro gb hg w2 hbox hb
       have HS2 := Aside0.mk (HS.out.below ST.out.1 hb)
       obtain ⟨v, hv, hR⟩ := HS2.out.cell
       have HR := Aside0.mk hR
       have HBX := Aside0.mk hbox
       have GB := Aside0.mk (show B ≤ gb by rw [hg]; exact Nat.le_trans ST.out.1 HS.out.size)
       have HV := Aside0.mk hv
       have OL := Aside0.mk (HS.out.row_lt hb hv hg)
       have F1 := Aside0.mk (Fr.of_below (g := g) (Nat.lt_of_lt_of_le ST.out.2.1 (Nat.le_trans ST.out.1 HS.out.size)) hb)
       have hc0 : w2.cell? ⟨gb, 0, none⟩ = some (.int .i64 a.f0) := (blk_cell hbox 0).trans rfl
       have hcv : w2.cell? ⟨g, 0, none⟩ = some v := (blk_cell hv 0).trans rfl
       clear hbox hb hg hv hR)
    | ((with_reducible refine gate_builtin (b := .append) (xs := #[.tmp 5, .tmp 8]) rfl ?_); at_builtin; refine Kd.R_append (Kd.int .i64) (w0 := w2) B rfl (.tmp 5) (.tmp 8) 42 3 (.int .i64 0) 8 rfl Try.underlying42 ?inf rfl (by decide) (by omega) v xs a.f0 [.int .i64 a.f0] (fun _ => True) (fun _ => False) rfl rfl ?aP (fun _ hk => hk.elim) ?aF ?aO ?aB ?aS ?aL ?_; (case inf => kernel_rfl); (case aP => exact rfl); (case aB => exact Below.refl _ _); (case aF => exact (fun _ _ => trivial)); (case aO => exact HR.out); (case aS => exact Nat.le_trans ST.out.1 HS2.out.size); (case aL => have := HX.out; omega); intro v3 w3 ho hb hg hat; clear hcv hc0; obtain ⟨A3, c3, rfl, hcg, hfg, hb3, hcs, hn1, S4⟩ := Stp.appended ST.out.1 ST.out.2.1 ST.out.2.2.1 ST.out.2.2.2.1 ST.out.2.2.2.2 HS2.out HV.out HBX.out GB.out OL.out ho hb hg hat; have hcb : w3.cell? ⟨gb, 0, none⟩ = some (.int .i64 a.f0) := (blk_cell hb3 0).trans rfl; have hn2 := ST.out.2.2.2.2; clear hb3 ho hb hg hat))
  go_ret
  refine ⟨rfl, ?_⟩
  rw [show xs.length + 1 = (xs ++ [a.f0]).length by simp]
  exact ⟨S4.out.1, F1.out.trans S4.out.2⟩
end
end Go.Proofs.Ytlamgdibnnmbmaa.PSyn
end
