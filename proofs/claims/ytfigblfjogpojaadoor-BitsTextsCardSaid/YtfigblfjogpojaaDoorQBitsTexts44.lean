/- Part 45 of the proof of BitsTextsCardSaid: The law BitsTexts: for all arguments it returns true; each argument reads behind the call as it read before. Out of the plain theorem of YtfigblfjogpojaaDoorPureBitsTexts and the printed contract. -/
import Derived.Maps.OwnOps
import Derived.Maps.Keyed
import Derived.Below
import Derived.WalkKit
import Derived.Test.YtfigblfjogpojaaDoorQBitsTexts7
import Derived.Test.YtfigblfjogpojaaDoorProg
section
namespace Go.Proofs.YtfigblfjogpojaaDoor
open Go Go.RowKit Go.Proofs.YtfigblfjogpojaaDoorW.PrintWords
open Go.Maps (Keyed)
theorem wpList_insert_own {H : Type} {P : Program} (w : World) {ops : Array Oper} {rest : List Oper} {o : Oper} {a : Act} {Q : Exit → Act → World → Prop}
    (hg : o.guard = none) (m x v : Operand) (t : TypeId) (hop : o.op = Op.insert t m x v)
    (k e : TypeId) (K : Keyed P k) (ht : P.underlying t = some (.map k e)) (R : Value → Option (DataW H × List MemPlace)) (b n : Nat) (D : DataW H)
    (hm : a.eval m = .map (some b)) (hown : w.ownsMap P k R b n D) (hn : n < maxLen) (key val : Value) (kl : Lit) (hx : a.eval x = key) (hv : a.eval v = val) (hkey : keyOf P k key = some kl)
    (d : DataW H) (ps : List MemPlace) (hval : R val = some (d, ps))
    (hK : ∀ w', w'.ownsMap P k R b (n + 1) (D.put kl d) → w.grownBy w' (some b) → wpList P ops Q rest (a.put o.dst undef) w') :
    wpList P ops Q (o :: rest) a w := by
  refine wpList_plain hg fun K' hK' => ?_
  obtain ⟨w', hrun, r1, r2⟩ := hown.update K ht hn hkey hval
  unfold Oper.wp
  simp [execOp, hop, hm, hx, hv, hrun, Result.andThen]
  exact hK' _ _ (hK w' r1 r2)
def litD {H : Type} (qk qe : IntKind) (kvs : List (Int × Int)) : DataW H → DataW H := fun D => kvs.foldl (fun D kv => D.put (.int qk kv.1) (.lit (.int qe kv.2))) D
theorem wpList_inserts {H : Type} {P : Program} {ops : Array Oper} {rest : List Oper} {a : Act} {Q : Exit → Act → World → Prop}
    (t k e : TypeId) (qk qe : IntKind) (K : Keyed P k) (ht : P.underlying t = some (.map k e)) (hk : P.underlying k = some (.int qk)) (he : P.underlying e = some (.int qe)) (N : Tmp) (w0 : World) (b : Nat) (hb0 : w0.heap.size ≤ b) (hN : a.eval (.tmp N) = .map (some b)) :
    ∀ (kvs : List (Int × Int)) (ins : List Oper) (w : World) (n : Nat) (D : DataW H),
      (∀ kv ∈ kvs, (Lit.int qk kv.1).wf = true ∧ (Lit.int qe kv.2).wf = true) →
      ins.map (fun o => (o.dst, o.op, o.guard)) = kvs.map (fun kv => (none, Op.insert t (.tmp N) (.const (.int qk kv.1)) (.const (.int qe kv.2)), none)) →
      n + kvs.length < maxLen → w.ownsMap P k (plainElem P e) b n D → Below w0.heap.size w0 w →
      (∀ w', w'.ownsMap P k (plainElem P e) b (n + kvs.length) (litD qk qe kvs D) → Below w0.heap.size w0 w' → wpList P ops Q rest a w') →
      wpList P ops Q (ins ++ rest) a w := by
  intro kvs
  induction kvs with
  | nil =>
    intro ins w n D _ hi _ hown hB h
    obtain rfl : ins = [] := by simpa using hi
    exact h w hown hB
  | cons kv kvs ih =>
    intro ins w n D hwf hi hn hown hB h
    cases ins with
    | nil => simp at hi
    | cons o ins =>
      simp only [List.map_cons, List.cons.injEq, Prod.mk.injEq] at hi
      obtain ⟨⟨h1, h2, h3⟩, hi⟩ := hi
      have hw1 := hwf kv List.mem_cons_self
      refine wpList_insert_own w h3 _ _ _ t h2 k e K ht (plainElem P e) b n D hN hown (by rw [List.length_cons] at hn; omega) _ _ (.int qk kv.1) rfl rfl (Go.Maps.keyOf_int_mk hk hw1.1) (.lit (.int qe kv.2)) [] (plainElem_int he hw1.2) ?_
      intro w' hown' hg'
      rw [h1]
      refine ih ins w' (n + 1) _ (fun x hx => hwf x (List.mem_cons_of_mem _ hx)) hi (by rw [List.length_cons] at hn; omega) hown' (hB.grown hg' hB.size (fun j hj => by cases hj; exact hb0)) (fun w2 ho hB2 => ?_)
      refine h w2 ?_ hB2
      rw [List.length_cons, show n + (kvs.length + 1) = n + 1 + kvs.length by omega]
      exact ho
theorem wpList_mapLit {H : Type} {P : Program} {ops : Array Oper} {rest : List Oper} {o : Oper} {a : Act} {Q : Exit → Act → World → Prop} {w : World}
    (t k e : TypeId) (qk qe : IntKind) (K : Keyed P k) (ht : P.underlying t = some (.map k e)) (hk : P.underlying k = some (.int qk)) (he : P.underlying e = some (.int qe))
    (hg : o.guard = none) (hop : o.op = .makeMap t none) (N : Tmp) (hd : o.dst = some N) (hN : ∀ v, (a.put (some N) v).eval (.tmp N) = v)
    (kvs : List (Int × Int)) (hwf : ∀ kv ∈ kvs, (Lit.int qk kv.1).wf = true ∧ (Lit.int qe kv.2).wf = true) (hn : kvs.length < maxLen) (ins : List Oper)
    (hins : ins.map (fun o => (o.dst, o.op, o.guard)) = kvs.map (fun kv => (none, Op.insert t (.tmp N) (.const (.int qk kv.1)) (.const (.int qe kv.2)), none)))
    (h : ∀ w', w'.ownsMap (H := H) P k (plainElem P e) w.heap.size (0 + kvs.length) (litD qk qe kvs (.map [])) → Below w.heap.size w w' → wpList P ops Q rest (a.put (some N) (.map (some w.heap.size))) w') :
    wpList P ops Q (o :: (ins ++ rest)) a w := by
  refine wpList_plain hg fun K' hK' => ?_
  unfold Oper.wp
  have hrun := run_makeMap (P := P) t w
  simp [execOp, hop, hrun, Result.andThen]
  refine hK' _ _ ?_
  rw [hd]
  exact wpList_inserts t k e qk qe K ht hk he N w w.heap.size (Nat.le_refl _) (hN _) kvs ins _ 0 (.map []) hwf hins (by omega) (World.ownsMap_made _ _ _ _) ((Below.refl _ _).alloc (Nat.le_refl _) _) h
theorem lawU8 : Keyed Tryd.prog 5 := Go.Maps.int_keyed Tryd.underlying5
theorem zeroI64 (w : World) : (zeroValue 3).run Tryd.prog w = .ok (.int .i64 0) w := by kernel_rfl
theorem ownsMap_drewN {H : Type} {P : Program} {k : TypeId} {R : Value → Option (DataW H × List MemPlace)} {w : World} {b n : Nat} {D : DataW H} (h : w.ownsMap P k R b n D) (m : Nat) : (w.drewN m).ownsMap P k R b n D := by
  induction m generalizing w with
  | zero => exact h
  | succ m ih => rw [← World.drew_drewN]; exact ih h.drew
end Go.Proofs.YtfigblfjogpojaaDoor
end
