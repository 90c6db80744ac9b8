/- Part 34 of the proof of LexTokensSaid: The law LexTokens: for all arguments it returns true; each argument reads behind the call as it read before. Out of the plain theorem of YtlamgdibnnmbmaaLtA and the printed contract. -/
import Derived.Maps.OwnOps
import Derived.Maps.Keyed
import Derived.Below
import Derived.WalkKit
import Derived.Test.YtlamgdibnnmbmaaQLexTokens12
import Derived.Test.YtlamgdibnnmbmaaProg
import Derived.Lib.OthersKept
import Derived.Test.YtlamgdibnnmbmaaQLexTokens13
import Derived.Test.YtlamgdibnnmbmaaQLexTokens32
import Derived.Test.YtlamgdibnnmbmaaQLexTokens15
section
namespace Go.Proofs.Ytlamgdibnnmbmaa
open Go Go.RowKit Go.Proofs.YtlamgdibnnmbmaaW.PrintWords
open Go.Maps (Keyed)
theorem wpList_insert_own {H : Type} {P : Program} (w : World) {ops : Array Oper} {rest : List Oper} {o : Oper} {a : Act} {Q : Exit → Act → World → Prop}
    (hg : o.guard = none) (m x v : Operand) (t : TypeId) (hop : o.op = Op.insert t m x v)
    (k e : TypeId) (K : Keyed P k) (ht : P.underlying t = some (.map k e)) (R : Value → Option (DataW H × List MemPlace)) (b n : Nat) (D : DataW H)
    (hm : a.eval m = .map (some b)) (hown : w.ownsMap P k R b n D) (hn : n < maxLen) (key val : Value) (kl : Lit) (hx : a.eval x = key) (hv : a.eval v = val) (hkey : keyOf P k key = some kl)
    (d : DataW H) (ps : List MemPlace) (hval : R val = some (d, ps))
    (hK : ∀ w', w'.ownsMap P k R b (n + 1) (D.put kl d) → w.grownBy w' (some b) → wpList P ops Q rest (a.put o.dst undef) w') :
    wpList P ops Q (o :: rest) a w := by
  refine wpList_plain hg fun K' hK' => ?_
  obtain ⟨w', hrun, r1, r2⟩ := hown.update K ht hn hkey hval
  unfold Oper.wp
  simp [execOp, hop, hm, hx, hv, hrun, Result.andThen]
  exact hK' _ _ (hK w' r1 r2)
def litD {H : Type} (qk qe : IntKind) (kvs : List (Int × Int)) : DataW H → DataW H := fun D => kvs.foldl (fun D kv => D.put (.int qk kv.1) (.lit (.int qe kv.2))) D
theorem wpList_inserts {H : Type} {P : Program} {ops : Array Oper} {rest : List Oper} {a : Act} {Q : Exit → Act → World → Prop}
    (t k e : TypeId) (qk qe : IntKind) (K : Keyed P k) (ht : P.underlying t = some (.map k e)) (hk : P.underlying k = some (.int qk)) (he : P.underlying e = some (.int qe)) (N : Tmp) (w0 : World) (b : Nat) (hb0 : w0.heap.size ≤ b) (hN : a.eval (.tmp N) = .map (some b)) :
    ∀ (kvs : List (Int × Int)) (ins : List Oper) (w : World) (n : Nat) (D : DataW H),
      (∀ kv ∈ kvs, (Lit.int qk kv.1).wf = true ∧ (Lit.int qe kv.2).wf = true) →
      ins.map (fun o => (o.dst, o.op, o.guard)) = kvs.map (fun kv => (none, Op.insert t (.tmp N) (.const (.int qk kv.1)) (.const (.int qe kv.2)), none)) →
      n + kvs.length < maxLen → w.ownsMap P k (plainElem P e) b n D → Below w0.heap.size w0 w →
      (∀ w', w'.ownsMap P k (plainElem P e) b (n + kvs.length) (litD qk qe kvs D) → Below w0.heap.size w0 w' → wpList P ops Q rest a w') →
      wpList P ops Q (ins ++ rest) a w := by
  intro kvs
  induction kvs with
  | nil =>
    intro ins w n D _ hi _ hown hB h
    obtain rfl : ins = [] := by simpa using hi
    exact h w hown hB
  | cons kv kvs ih =>
    intro ins w n D hwf hi hn hown hB h
    cases ins with
    | nil => simp at hi
    | cons o ins =>
      simp only [List.map_cons, List.cons.injEq, Prod.mk.injEq] at hi
      obtain ⟨⟨h1, h2, h3⟩, hi⟩ := hi
      have hw1 := hwf kv List.mem_cons_self
      refine wpList_insert_own w h3 _ _ _ t h2 k e K ht (plainElem P e) b n D hN hown (by rw [List.length_cons] at hn; omega) _ _ (.int qk kv.1) rfl rfl (Go.Maps.keyOf_int_mk hk hw1.1) (.lit (.int qe kv.2)) [] (plainElem_int he hw1.2) ?_
      intro w' hown' hg'
      rw [h1]
      refine ih ins w' (n + 1) _ (fun x hx => hwf x (List.mem_cons_of_mem _ hx)) hi (by rw [List.length_cons] at hn; omega) hown' (hB.grown hg' hB.size (fun j hj => by cases hj; exact hb0)) (fun w2 ho hB2 => ?_)
      refine h w2 ?_ hB2
      rw [List.length_cons, show n + (kvs.length + 1) = n + 1 + kvs.length by omega]
      exact ho
theorem wpList_mapLit {H : Type} {P : Program} {ops : Array Oper} {rest : List Oper} {o : Oper} {a : Act} {Q : Exit → Act → World → Prop} {w : World}
    (t k e : TypeId) (qk qe : IntKind) (K : Keyed P k) (ht : P.underlying t = some (.map k e)) (hk : P.underlying k = some (.int qk)) (he : P.underlying e = some (.int qe))
    (hg : o.guard = none) (hop : o.op = .makeMap t none) (N : Tmp) (hd : o.dst = some N) (hN : ∀ v, (a.put (some N) v).eval (.tmp N) = v)
    (kvs : List (Int × Int)) (hwf : ∀ kv ∈ kvs, (Lit.int qk kv.1).wf = true ∧ (Lit.int qe kv.2).wf = true) (hn : kvs.length < maxLen) (ins : List Oper)
    (hins : ins.map (fun o => (o.dst, o.op, o.guard)) = kvs.map (fun kv => (none, Op.insert t (.tmp N) (.const (.int qk kv.1)) (.const (.int qe kv.2)), none)))
    (h : ∀ w', w'.ownsMap (H := H) P k (plainElem P e) w.heap.size (0 + kvs.length) (litD qk qe kvs (.map [])) → Below w.heap.size w w' → wpList P ops Q rest (a.put (some N) (.map (some w.heap.size))) w') :
    wpList P ops Q (o :: (ins ++ rest)) a w := by
  refine wpList_plain hg fun K' hK' => ?_
  unfold Oper.wp
  have hrun := run_makeMap (P := P) t w
  simp [execOp, hop, hrun, Result.andThen]
  refine hK' _ _ ?_
  rw [hd]
  exact wpList_inserts t k e qk qe K ht hk he N w w.heap.size (Nat.le_refl _) (hN _) kvs ins _ 0 (.map []) hwf hins (by omega) (World.ownsMap_made _ _ _ _) ((Below.refl _ _).alloc (Nat.le_refl _) _) h
theorem lawU8 : Keyed Try.prog 5 := Go.Maps.int_keyed Try.underlying5
theorem zeroI64 (w : World) : (zeroValue 3).run Try.prog w = .ok (.int .i64 0) w := by kernel_rfl
theorem ownsMap_drewN {H : Type} {P : Program} {k : TypeId} {R : Value → Option (DataW H × List MemPlace)} {w : World} {b n : Nat} {D : DataW H} (h : w.ownsMap P k R b n D) (m : Nat) : (w.drewN m).ownsMap P k R b n D := by
  induction m generalizing w with
  | zero => exact h
  | succ m ih => rw [← World.drew_drewN]; exact ih h.drew
end Go.Proofs.Ytlamgdibnnmbmaa
end
section
namespace Go.Proofs.Ytlamgdibnnmbmaa
open Go Go.RowKit Go.Proofs.YtlamgdibnnmbmaaW.PrintWords Go.Proofs.YtlamgdibnnmbmaaW.PrintLast Go.Proofs.YtlamgdibnnmbmaaW.PrintMore
theorem sizeMap {c x : Int} (h : (litD .u8 .i64 [(98, 1), (111, 3), (104, 4), (100, 99)] (.map [] : DataW Unit)).atKey (.int .u8 x) (.lit (.int .i64 0)) = .lit (.int .i64 c)) :
    c = if x = 98 then 1 else if x = 111 then 3 else if x = 104 then 4 else if x = 100 then 99 else 0 := by
  have e : litD .u8 .i64 [(98, 1), (111, 3), (104, 4), (100, 99)] (.map [] : DataW Unit) = .map [(.int .u8 98, .lit (.int .i64 1)), (.int .u8 100, .lit (.int .i64 99)), (.int .u8 104, .lit (.int .i64 4)), (.int .u8 111, .lit (.int .i64 3))] := by rfl
  rw [e] at h
  by_cases h1 : x = 98
  · subst h1; simp [DataW.atKey, Lit.sameKey] at h; rw [if_pos rfl]; exact h.symm
  · rw [if_neg h1]
    by_cases h2 : x = 111
    · subst h2; simp [DataW.atKey, Lit.sameKey] at h; rw [if_pos rfl]; exact h.symm
    · rw [if_neg h2]
      by_cases h3 : x = 104
      · subst h3; simp [DataW.atKey, Lit.sameKey] at h; rw [if_pos rfl]; exact h.symm
      · rw [if_neg h3]
        by_cases h4 : x = 100
        · subst h4; simp [DataW.atKey, Lit.sameKey] at h; rw [if_pos rfl]; exact h.symm
        · rw [if_neg h4]
          have n1 : ¬ (98 : Int) = x := fun q => h1 q.symm
          have n2 : ¬ (111 : Int) = x := fun q => h2 q.symm
          have n3 : ¬ (104 : Int) = x := fun q => h3 q.symm
          have n4 : ¬ (100 : Int) = x := fun q => h4 q.symm
          simp [DataW.atKey, Lit.sameKey, n1, n2, n3, n4] at h; exact h.symm
def readK.f (_ _ : Int) : Option ByteArray := some ⟨#[]⟩
def sizeT.f (x : Int) : Option Int := if 0 ≤ x ∧ x ≤ 255 then some (if x = 98 then 1 else if x = 111 then 3 else if x = 104 then 4 else if x = 100 then 99 else 0) else none
theorem sizeT_wf {x c : Int} (h : sizeT.f x = some c) : (Lit.int .u8 x).wf = true := by
  unfold sizeT.f at h
  split at h
  · rename_i h1
    simp [Lit.wf, IntKind.min, IntKind.max, IntKind.signed, IntKind.bits]; omega
  · cases h
theorem sizeT_eq {x c r : Int} (h : sizeT.f x = some r) (hat : (litD .u8 .i64 [(98, 1), (111, 3), (104, 4), (100, 99)] (.map [] : DataW Unit)).atKey (.int .u8 x) (.lit (.int .i64 0)) = .lit (.int .i64 c)) : c = r := by
  unfold sizeT.f at h
  split at h
  · injection h with h
    rw [sizeMap hat, h]
  · cases h
theorem next_in (w : World) (k : Nat) (T : ByteArray) (x : Int) (hx : 0 ≤ x) (hlt : x < (T.size : Int)) (ha : bt T x ≤ 127) (hk : w.heap[k]? = some (.stringIter T x.toNat)) :
    ∀ ty, (Instr.next (.pointer (some ⟨k, 0, none⟩)) true ty).run Try.prog w = .ok (.tuple #[.bool true, .int .i64 x, .int .i32 (bt T x)]) (w.iterAt k T (x.toNat + 1)) := by
  intro ty
  have hl : x.toNat < T.size := by omega
  have hb : ((T[x.toNat]'hl).toNat : Int) = bt T x := by
    unfold bt
    rw [dif_pos hl]
  rw [Lib.run_next_ascii_at w k T x.toNat ty hk hl (by omega), hb, Int.toNat_of_nonneg hx]
theorem next_out (w : World) (k : Nat) (T : ByteArray) (x : Int) (hlt : ¬ x < (T.size : Int)) (hk : w.heap[k]? = some (.stringIter T x.toNat)) :
    ∀ ty, (Instr.next (.pointer (some ⟨k, 0, none⟩)) true ty).run Try.prog w = .ok (.tuple #[.bool false]) w :=
  fun ty => Lib.run_next_end_at w k T x.toNat ty hk (by omega)
theorem iter_start (w : World) (T : ByteArray) : (w.iter T 0).heap[w.heap.size]? = some (.stringIter T 0) := (MapKept.heap_alloc w _).1
theorem iter_blk {w : World} {T : ByteArray} {g : Nat} {o : Obj} (h : w.heap[g]? = some o) : (w.iter T 0).heap[g]? = some o := by
  have hlt : g < w.heap.size := (Array.getElem?_eq_some_iff.1 h).1
  exact (Below.heap_alloc w _ g hlt).trans h
theorem iter_below {B : Nat} {w0 w : World} {T : ByteArray} (h : Below B w0 w) (hB : B ≤ w.heap.size) : Below B w0 (w.iter T 0) := h.alloc hB _
end Go.Proofs.Ytlamgdibnnmbmaa
end
section
namespace Go.Proofs.Ytlamgdibnnmbmaa.PLex
open Go.RowKit Go.Proofs.YtlamgdibnnmbmaaW.PrintWords Go.Proofs.YtlamgdibnnmbmaaW.PrintLast Go.Proofs.YtlamgdibnnmbmaaW.PrintMore
attribute [local go_sem] max2_int min2_int max_two min_two max_three min_three max_four min_four
set_option linter.unusedVariables false
set_option linter.unusedSimpArgs false
theorem bt_byte (T : ByteArray) (x : Int) : 0 ≤ bt T x ∧ bt T x ≤ 255 := by
  unfold bt
  split
  · rename_i h
    have := UInt8.toNat_lt (T[x.toNat]'h)
    omega
  · omega
mutual
def maskref1_ReadBits.l0 : Nat → ByteArray → Int → Option (Int × Int × Int × Int)
 | 0, _, _ => none
 | k + 1, x0, x4 => if x4 < (x0.size : Int) then (if 0 ≤ x4 then (if (bt x0 x4) ≥ 48 then (maskref1_ReadBits.j1 k x0 x4 (decide ((bt x0 x4) ≤ 57))) else (maskref1_ReadBits.j1 k x0 x4 false)) else (none)) else (maskref1_ReadBits.j1 k x0 x4 false)
def maskref1_ReadBits.j1 : Nat → ByteArray → Int → Bool → Option (Int × Int × Int × Int)
 | 0, _, _, _ => none
 | k + 1, x0, x4, x24 => if x24 = true then (maskref1_ReadBits.l0 k x0 (wrap64 (x4 + 1))) else (if x4 = 0 then (maskref1_ReadBits.j2 k x0 x4 true) else (if 0 < (x0.size : Int) then (if (bt x0 0) = 48 then (maskref1_ReadBits.j2 k x0 x4 true) else (if x4 = (x0.size : Int) then (maskref1_ReadBits.j2 k x0 x4 true) else (if 0 ≤ x4 then (if x4 < (x0.size : Int) then (maskref1_ReadBits.j2 k x0 x4 ((bt x0 x4) != 39)) else (none)) else (none)))) else (none)))
def maskref1_ReadBits.j2 : Nat → ByteArray → Int → Bool → Option (Int × Int × Int × Int)
 | 0, _, _, _ => none
 | k + 1, x0, x4, x45 => if x45 = true then (some (0, 0, 0, 10)) else (if 0 ≤ x4 then (if x4 ≤ (x0.size : Int) then (maskref1_ReadBits.l1 k x0 x4 0 (x0.extract 0 (x4 : Int).toNat) 0) else (none)) else (none))
def maskref1_ReadBits.l1 : Nat → ByteArray → Int → Int → ByteArray → Int → Option (Int × Int × Int × Int)
 | 0, _, _, _, _, _ => none
 | k + 1, x0, x4, x5, x49, x50 => if x50 < (x49.size : Int) then (if 0 ≤ x50 then (if 0 ≤ (wrap32 (127 - (wrap32 (bt x49 x50)))) then (if 0 ≤ (wrap64 (100000 - x50)) then (if x5 < 1000 then (maskref1_ReadBits.l1 k x0 x4 (wrap64 ((wrap64 (10 * x5)) + (wrap64 (wrap32 ((wrap32 (bt x49 x50)) - 48))))) x49 (wrap64 (x50 + 1))) else (maskref1_ReadBits.l1 k x0 x4 x5 x49 (wrap64 (x50 + 1)))) else (none)) else (none)) else (none)) else (if 0 ≤ (wrap64 (x4 + 1)) then (if (wrap64 (x4 + 1)) ≤ (x0.size : Int) then (if ((x0.extract ((wrap64 (x4 + 1)) : Int).toNat x0.size).size : Int) > 0 then (if 0 < ((x0.extract ((wrap64 (x4 + 1)) : Int).toNat x0.size).size : Int) then (maskref1_ReadBits.j4 k (x0.extract ((wrap64 (x4 + 1)) : Int).toNat x0.size) x5 ((bt (x0.extract ((wrap64 (x4 + 1)) : Int).toNat x0.size) 0) == 115)) else (none)) else (maskref1_ReadBits.j4 k (x0.extract ((wrap64 (x4 + 1)) : Int).toNat x0.size) x5 false)) else (none)) else (none))
def maskref1_ReadBits.j4 : Nat → ByteArray → Int → Bool → Option (Int × Int × Int × Int)
 | 0, _, _, _ => none
 | k + 1, x0, x5, x73 => if x73 = true then (if 1 ≤ (x0.size : Int) then (maskref1_ReadBits.j5 k (x0.extract 1 x0.size) x5) else (none)) else (maskref1_ReadBits.j5 k x0 x5)
def maskref1_ReadBits.j5 : Nat → ByteArray → Int → Option (Int × Int × Int × Int)
 | 0, _, _ => none
 | k + 1, x0, x5 => if (x0.size : Int) < 2 then (some (0, 0, 0, 10)) else ((readK.f 0 10).bind fun t247 => (if 0 < (x0.size : Int) then ((sizeT.f (bt x0 0)).bind fun t248 => (if t248 = 0 then (some (0, 0, 0, 10)) else (if t248 = 99 then (if 1 ≤ (x0.size : Int) then ((maskref1_readDecimal.f k (x0.extract 1 x0.size) x5).bind fun bt249 => (some (bt249.1, bt249.2.1, bt249.2.2.1, bt249.2.2.2))) else (none)) else (if 1 ≤ (x0.size : Int) then ((maskref1_readDigits.f k (x0.extract 1 x0.size) x5 t248).bind fun bt253 => (some (bt253.1, bt253.2.1, bt253.2.2.1, bt253.2.2.2))) else (none))))) else (none)))
end
def maskref1_ReadBits.f (k : Nat) (a0 : ByteArray) : Option (Int × Int × Int × Int) := maskref1_ReadBits.l0 k a0 0
set_option maxHeartbeats 8000000 in
set_option maxRecDepth 100000 in
theorem maskref1_ReadBits.calls (k : Nat) (a0 : ByteArray) (r1 : Int) (r2 : Int) (r3 : Int) (r4 : Int) (w : World) (h : maskref1_ReadBits.f k a0 = some (r1, r2, r3, r4)) :
  Calls Try.prog 78 #[.string a0] w fun e w' => e = .returned (.tuple #[.agg #[.int .i64 r1, .int .u64 r2, .int .u64 r3], .int .i64 r4]) ∧ Below w.heap.size w w' := by
 have hu24 := Try.underlying24
 have HB := Aside0.mk (Below.refl w.heap.size w)
 have H : (maskref1_ReadBits.l0 k a0 0) = some (r1, r2, r3, r4) := h
 clear h
 have H' := Aside0.mk H
 clear H
 go_enter Try.func78, Try.ntmps78
 go_wp2_with (first | ((with_reducible refine gate_dst (N := 2) rfl ?_); (try (refine gate_guard (by rfl) ?_; dsimp only)); refine box_event ?hg (N := 2) ?hd (cs := #[.int .i64 0, .int .u64 0, .int .u64 0]) (t := 24) ?hr ?_; (case hd => rfl); (case hg => rfl); (case hr => first | (go_simp; done) | (go_simp; rfl)); intro gb246 hg w2 hbox hb; have n0_ := Aside0.mk (below_step (by repeat (first | (with_reducible first | exact HB.out | apply below_alloc | apply pw_below_drewN | apply below_drew1) | exact HB.out)) hb); have n1_ := Aside0.mk (hbox); have n2_ := Aside0.mk ((by rw [hg]; exact (below_size (by repeat (first | (with_reducible first | exact HB.out | apply below_alloc | apply pw_below_drewN | apply below_drew1) | exact HB.out))) : w.heap.size ≤ gb246)); have n3_ := Aside0.mk ((by rw [hg]; exact (below_size (by repeat (first | (with_reducible first | exact HB.out | apply below_alloc | apply pw_below_drewN | apply below_drew1) | exact HB.out))) : w.heap.size ≤ gb246)); clear HB; have HB := n0_; have BK246 := n1_; have GW246 := n2_; have GE246 := n3_; clear n0_ n1_ n2_ n3_; clear hb hbox hg))
 go_loopg [4] k (fun kq v4 w' => ∃ (x4_1 : Int), v4 = .int .i64 x4_1 ∧ Aside0 (maskref1_ReadBits.l0 kq a0 x4_1 = some (r1, r2, r3, r4)) ∧ Aside0 (kq ≤ k) ∧ Aside0 (w'.heap[gb246]? = some (.cells #[.int .i64 0, .int .u64 0, .int .u64 0] 24 (0, 0))) ∧ Aside0 (Below w.heap.size w w'))
 case atStart => exact ⟨(0), (by first | rfl | (simp; done) | (simp [*]; done)), H', ⟨Nat.le_refl _⟩, ⟨by (with_reducible repeat (first | refine blk_drewN ?_ _ | refine blk_drew ?_ | refine blk_alloc ?_ _)); exact BK246.out⟩, ⟨by repeat (first | (with_reducible first | exact HB.out | apply below_alloc | apply pw_below_drewN | apply below_drew1 | refine below_set ?_ GE246.out) | exact HB.out)⟩⟩
 case round =>
  clear H'
  (try clear c1); (try clear p2)
  obtain ⟨x4_1, rfl, HA, HK1, BK246, HB⟩ := hrel
  cases gk with
  | zero => exact absurd HA.out (by simp [maskref1_ReadBits.l0])
  | succ k1 =>
   have H := HA.out
   clear HA
   simp only [maskref1_ReadBits.l0] at H
   have HC3 := Aside0.mk H
   clear H
   go_upto_region 2 with (fail)
   go_cut [24] (fun v24 wc => ∃ (kq : Nat) (x24_2 : Bool), v24 = .bool x24_2 ∧ Aside0 (maskref1_ReadBits.j1 kq a0 x4_1 x24_2 = some (r1, r2, r3, r4)) ∧ Aside0 (kq ≤ k1) ∧ Aside0 (wc.heap[gb246]? = some (.cells #[.int .i64 0, .int .u64 0, .int .u64 0] 24 (0, 0))) ∧ Aside0 (Below w.heap.size w wc))
   case first =>
    have H := HC3.out
    clear HC3
    by_cases c4 : x4_1 < (a0.size : Int)
    ·rw [if_pos c4] at H
     have c4b0 : decide (x4_1 < (a0.size : Int)) = true := decide_eq_true c4
     clear c4
     (first | rw [c4b0] | (simp only [i64_w, i32_w]; rw [c4b0]) | skip)
     by_cases c5 : 0 ≤ x4_1
     ·rw [if_pos c5] at H
      have c5b0 : decide (0 ≤ x4_1) = true := decide_eq_true c5
      clear c5
      by_cases c7 : (bt a0 x4_1) ≥ 48
      ·rw [if_pos c7] at H
       have c7b0 : decide (48 ≤ (bt a0 x4_1)) = true := decide_eq_true c7
       clear c7
       have H' := Aside0.mk H
       clear H
       have p6 : 0 ≤ (x4_1 : Int) := of_decide_eq_true (by first | (with_reducible assumption) | assumption)
       have q6 : x4_1 < (a0.size : Int) := of_decide_eq_true (by first | (with_reducible assumption) | assumption)
       have hx6 := bt_at a0 x4_1
       replace p6 := eq_true p6
       replace q6 := eq_true q6
       have p8 : 0 ≤ (x4_1 : Int) := of_decide_eq_true (by first | (with_reducible assumption) | assumption)
       have q8 : x4_1 < (a0.size : Int) := of_decide_eq_true (by first | (with_reducible assumption) | assumption)
       have hx8 := bt_at a0 x4_1
       replace p8 := eq_true p8
       replace q8 := eq_true q8
       go_wp2
       go_meet
       case rel => exact ⟨_, (decide ((bt a0 x4_1) ≤ 57)), (by first | rfl | (simp; done) | (simp [*]; done)), H', ⟨by have := HK1.out; first | omega | exact Nat.le_refl _⟩, ⟨by (with_reducible repeat (first | refine blk_drewN ?_ _ | refine blk_drew ?_ | refine blk_alloc ?_ _)); exact BK246.out⟩, ⟨by repeat (first | (with_reducible first | exact HB.out | apply below_alloc | apply pw_below_drewN | apply below_drew1 | refine below_set ?_ GE246.out) | exact HB.out)⟩⟩
      ·rw [if_neg c7] at H
       have c7b0 : decide (48 ≤ (bt a0 x4_1)) = false := decide_eq_false c7
       clear c7
       have H' := Aside0.mk H
       clear H
       have p6 : 0 ≤ (x4_1 : Int) := of_decide_eq_true (by first | (with_reducible assumption) | assumption)
       have q6 : x4_1 < (a0.size : Int) := of_decide_eq_true (by first | (with_reducible assumption) | assumption)
       have hx6 := bt_at a0 x4_1
       replace p6 := eq_true p6
       replace q6 := eq_true q6
       go_wp2
       go_meet
       case rel => exact ⟨_, (false), (by first | rfl | (simp; done) | (simp [*]; done)), H', ⟨by have := HK1.out; first | omega | exact Nat.le_refl _⟩, ⟨by (with_reducible repeat (first | refine blk_drewN ?_ _ | refine blk_drew ?_ | refine blk_alloc ?_ _)); exact BK246.out⟩, ⟨by repeat (first | (with_reducible first | exact HB.out | apply below_alloc | apply pw_below_drewN | apply below_drew1 | refine below_set ?_ GE246.out) | exact HB.out)⟩⟩
     ·rw [if_neg c5] at H
      exact absurd H (by simp)
    ·rw [if_neg c4] at H
     have c4b0 : decide (x4_1 < (a0.size : Int)) = false := decide_eq_false c4
     clear c4
     (first | rw [c4b0] | (simp only [i64_w, i32_w]; rw [c4b0]) | skip)
     have H' := Aside0.mk H
     clear H
     go_wp2
     go_meet
     case rel => exact ⟨_, (false), (by first | rfl | (simp; done) | (simp [*]; done)), H', ⟨by have := HK1.out; first | omega | exact Nat.le_refl _⟩, ⟨by (with_reducible repeat (first | refine blk_drewN ?_ _ | refine blk_drew ?_ | refine blk_alloc ?_ _)); exact BK246.out⟩, ⟨by repeat (first | (with_reducible first | exact HB.out | apply below_alloc | apply pw_below_drewN | apply below_drew1 | refine below_set ?_ GE246.out) | exact HB.out)⟩⟩
   case rest =>
    clear HC3
    (try clear c1); (try clear p2); (try clear c4); (try clear c4b0); (try clear c5); (try clear c5b0); (try clear p6); (try clear q6); (try clear hx6); (try clear c7); (try clear c7b0); (try clear p8); (try clear q8); (try clear hx8); (try clear p2); (try clear p6); (try clear p8); (try clear q6); (try clear q8)
    obtain ⟨kq, x24_2, rfl, HA, HJ2, BK246, HB⟩ := hcut
    cases kq with
    | zero => exact absurd HA.out (by simp [maskref1_ReadBits.j1])
    | succ kj2 =>
     have H := HA.out
     clear HA
     simp only [maskref1_ReadBits.j1] at H
     by_cases c9 : x24_2 = true
     ·subst c9
      have H1 : (maskref1_ReadBits.l0 kj2 a0 (wrap64 (x4_1 + 1))) = some (r1, r2, r3, r4) := by rw [if_pos rfl] at H; exact H
      clear H
      have H := H1
      clear H1
      have H' := Aside0.mk H
      clear H
      go_wp2
      go_roundg kj2
      case measure => have := HK1.out; have := HJ2.out; omega
      case rel => exact ⟨(wrap64 (x4_1 + 1)), (by first | rfl | (simp; done) | (simp [*]; done)), H', ⟨by have := HK1.out; have := HJ2.out; omega⟩, ⟨by (with_reducible repeat (first | refine blk_drewN ?_ _ | refine blk_drew ?_ | refine blk_alloc ?_ _)); exact BK246.out⟩, ⟨by repeat (first | (with_reducible first | exact HB.out | apply below_alloc | apply pw_below_drewN | apply below_drew1 | refine below_set ?_ GE246.out) | exact HB.out)⟩⟩
     ·replace c9 := Bool.eq_false_iff.mpr c9
      subst c9
      have H1 : (if x4_1 = 0 then (maskref1_ReadBits.j2 kj2 a0 x4_1 true) else (if 0 < (a0.size : Int) then (if (bt a0 0) = 48 then (maskref1_ReadBits.j2 kj2 a0 x4_1 true) else (if x4_1 = (a0.size : Int) then (maskref1_ReadBits.j2 kj2 a0 x4_1 true) else (if 0 ≤ x4_1 then (if x4_1 < (a0.size : Int) then (maskref1_ReadBits.j2 kj2 a0 x4_1 ((bt a0 x4_1) != 39)) else (none)) else (none)))) else (none))) = some (r1, r2, r3, r4) := by rw [if_neg (show ¬ (false = true) by decide)] at H; exact H
      clear H
      have H := H1
      clear H1
      have HC10 := Aside0.mk H
      clear H
      go_upto_region 4 with (fail)
      go_cut [45] (fun v45 wc => ∃ (kq : Nat) (x45_9 : Bool), v45 = .bool x45_9 ∧ Aside0 (maskref1_ReadBits.j2 kq a0 x4_1 x45_9 = some (r1, r2, r3, r4)) ∧ Aside0 (kq ≤ kj2) ∧ Aside0 (wc.heap[gb246]? = some (.cells #[.int .i64 0, .int .u64 0, .int .u64 0] 24 (0, 0))) ∧ Aside0 (Below w.heap.size w wc))
      case first =>
       have H := HC10.out
       clear HC10
       by_cases c11 : x4_1 = 0
       ·rw [if_pos c11] at H
        have c11b0 : (x4_1 == 0) = true := beq_iff_eq.mpr c11
        have c11b1 : (x4_1 != 0) = false := bne_eq_false_iff_eq.mpr c11
        clear c11
        (first | rw [c11b0] | (simp only [i64_w, i32_w]; rw [c11b0]) | skip)
        have H' := Aside0.mk H
        clear H
        go_wp2
        go_meet
        case rel => exact ⟨_, (true), (by first | rfl | (simp; done) | (simp [*]; done)), H', ⟨by have := HK1.out; have := HJ2.out; first | omega | exact Nat.le_refl _⟩, ⟨by (with_reducible repeat (first | refine blk_drewN ?_ _ | refine blk_drew ?_ | refine blk_alloc ?_ _)); exact BK246.out⟩, ⟨by repeat (first | (with_reducible first | exact HB.out | apply below_alloc | apply pw_below_drewN | apply below_drew1 | refine below_set ?_ GE246.out) | exact HB.out)⟩⟩
       ·rw [if_neg c11] at H
        have c11b0 : (x4_1 == 0) = false := beq_eq_false_iff_ne.mpr c11
        have c11b1 : (x4_1 != 0) = true := bne_iff_ne.mpr c11
        (first | rw [c11b0] | (simp only [i64_w, i32_w]; rw [c11b0]) | skip)
        by_cases c12 : 0 < (a0.size : Int)
        ·rw [if_pos c12] at H
         have c12b0 : decide (0 < (a0.size : Int)) = true := decide_eq_true c12
         have c12b1 : decide (0 < a0.size) = true := decide_eq_true (by omega)
         clear c12
         by_cases c14 : (bt a0 0) = 48
         ·rw [if_pos c14] at H
          have c14b0 : ((bt a0 0) == 48) = true := beq_iff_eq.mpr c14
          have c14b1 : ((bt a0 0) != 48) = false := bne_eq_false_iff_eq.mpr c14
          clear c14
          have H' := Aside0.mk H
          clear H
          have p13 : 0 ≤ (0 : Int) := (by omega)
          have q13 : 0 < a0.size := (by have : (0 : Int) < (a0.size : Int) := of_decide_eq_true (by first | (with_reducible assumption) | assumption); omega)
          have hx13 : ∀ h : 0 < a0.size, ((a0[0]'h).toNat : Int) = bt a0 0 := bt_at a0 0
          clear p13
          have qi13 : (0 < (a0.size : Int)) = True := eq_true (of_decide_eq_true (by first | (with_reducible assumption) | assumption))
          replace q13 := eq_true q13
          go_wp2
          go_meet
          case rel => exact ⟨_, (true), (by first | rfl | (simp; done) | (simp [*]; done)), H', ⟨by have := HK1.out; have := HJ2.out; first | omega | exact Nat.le_refl _⟩, ⟨by (with_reducible repeat (first | refine blk_drewN ?_ _ | refine blk_drew ?_ | refine blk_alloc ?_ _)); exact BK246.out⟩, ⟨by repeat (first | (with_reducible first | exact HB.out | apply below_alloc | apply pw_below_drewN | apply below_drew1 | refine below_set ?_ GE246.out) | exact HB.out)⟩⟩
         ·rw [if_neg c14] at H
          have c14b0 : ((bt a0 0) == 48) = false := beq_eq_false_iff_ne.mpr c14
          have c14b1 : ((bt a0 0) != 48) = true := bne_iff_ne.mpr c14
          by_cases c15 : x4_1 = (a0.size : Int)
          ·rw [if_pos c15] at H
           have c15b0 : (x4_1 == (a0.size : Int)) = true := beq_iff_eq.mpr c15
           have c15b1 : (x4_1 != (a0.size : Int)) = false := bne_eq_false_iff_eq.mpr c15
           clear c15
           have H' := Aside0.mk H
           clear H
           have p13 : 0 ≤ (0 : Int) := (by omega)
           have q13 : 0 < a0.size := (by have : (0 : Int) < (a0.size : Int) := of_decide_eq_true (by first | (with_reducible assumption) | assumption); omega)
           have hx13 : ∀ h : 0 < a0.size, ((a0[0]'h).toNat : Int) = bt a0 0 := bt_at a0 0
           clear p13
           have qi13 : (0 < (a0.size : Int)) = True := eq_true (of_decide_eq_true (by first | (with_reducible assumption) | assumption))
           replace q13 := eq_true q13
           go_wp2
           go_meet
           case rel => exact ⟨_, (true), (by first | rfl | (simp; done) | (simp [*]; done)), H', ⟨by have := HK1.out; have := HJ2.out; first | omega | exact Nat.le_refl _⟩, ⟨by (with_reducible repeat (first | refine blk_drewN ?_ _ | refine blk_drew ?_ | refine blk_alloc ?_ _)); exact BK246.out⟩, ⟨by repeat (first | (with_reducible first | exact HB.out | apply below_alloc | apply pw_below_drewN | apply below_drew1 | refine below_set ?_ GE246.out) | exact HB.out)⟩⟩
          ·rw [if_neg c15] at H
           have c15b0 : (x4_1 == (a0.size : Int)) = false := beq_eq_false_iff_ne.mpr c15
           have c15b1 : (x4_1 != (a0.size : Int)) = true := bne_iff_ne.mpr c15
           by_cases c16 : 0 ≤ x4_1
           ·rw [if_pos c16] at H
            have c16b0 : decide (0 ≤ x4_1) = true := decide_eq_true c16
            clear c16
            by_cases c17 : x4_1 < (a0.size : Int)
            ·rw [if_pos c17] at H
             have c17b0 : decide (x4_1 < (a0.size : Int)) = true := decide_eq_true c17
             clear c17
             have H' := Aside0.mk H
             clear H
             have p13 : 0 ≤ (0 : Int) := (by omega)
             have q13 : 0 < a0.size := (by have : (0 : Int) < (a0.size : Int) := of_decide_eq_true (by first | (with_reducible assumption) | assumption); omega)
             have hx13 : ∀ h : 0 < a0.size, ((a0[0]'h).toNat : Int) = bt a0 0 := bt_at a0 0
             clear p13
             have qi13 : (0 < (a0.size : Int)) = True := eq_true (of_decide_eq_true (by first | (with_reducible assumption) | assumption))
             replace q13 := eq_true q13
             have p18 : 0 ≤ (x4_1 : Int) := of_decide_eq_true (by first | (with_reducible assumption) | assumption)
             have q18 : x4_1 < (a0.size : Int) := of_decide_eq_true (by first | (with_reducible assumption) | assumption)
             have hx18 := bt_at a0 x4_1
             replace p18 := eq_true p18
             replace q18 := eq_true q18
             go_wp2
             go_meet
             case rel => exact ⟨_, (((bt a0 x4_1) != 39)), (by first | rfl | (simp; done) | (simp [*]; done)), H', ⟨by have := HK1.out; have := HJ2.out; first | omega | exact Nat.le_refl _⟩, ⟨by (with_reducible repeat (first | refine blk_drewN ?_ _ | refine blk_drew ?_ | refine blk_alloc ?_ _)); exact BK246.out⟩, ⟨by repeat (first | (with_reducible first | exact HB.out | apply below_alloc | apply pw_below_drewN | apply below_drew1 | refine below_set ?_ GE246.out) | exact HB.out)⟩⟩
            ·rw [if_neg c17] at H
             exact absurd H (by simp)
           ·rw [if_neg c16] at H
            exact absurd H (by simp)
        ·rw [if_neg c12] at H
         exact absurd H (by simp)
      case rest =>
       clear HC10
       (try clear c1); (try clear p1); (try clear q1); (try clear hx1); (try clear qi1); (try clear p2); (try clear c4); (try clear c4b0); (try clear c5); (try clear c5b0); (try clear p6); (try clear q6); (try clear hx6); (try clear c7); (try clear c7b0); (try clear p8); (try clear q8); (try clear hx8); (try clear c9); (try clear c11); (try clear c11b0); (try clear c11b1); (try clear c12); (try clear c12b0); (try clear c12b1); (try clear c13); (try clear p13); (try clear q13); (try clear hx13); (try clear qi13); (try clear c14); (try clear c14b0); (try clear c14b1); (try clear c15); (try clear c15b0); (try clear c15b1); (try clear c16); (try clear c16b0); (try clear c17); (try clear c17b0); (try clear p18); (try clear q18); (try clear hx18); (try clear p13); (try clear p18); (try clear p2); (try clear p6); (try clear p8); (try clear q13); (try clear q18); (try clear q6); (try clear q8)
       obtain ⟨kq, x45_9, rfl, HA, HJ9, BK246, HB⟩ := hcut
       cases kq with
       | zero => exact absurd HA.out (by simp [maskref1_ReadBits.j2])
       | succ kj9 =>
        have H := HA.out
        clear HA
        simp only [maskref1_ReadBits.j2] at H
        by_cases c19 : x45_9 = true
        ·subst c19
         have H1 : (some (0, 0, 0, 10)) = some (r1, r2, r3, r4) := by rw [if_pos rfl] at H; exact H
         clear H
         have H := H1
         clear H1
         simp only [Option.some.injEq, Prod.mk.injEq] at H
         obtain ⟨rfl, rfl, rfl, rfl⟩ := H
         obtain ⟨hcz20_0, hcz20_1, hcz20_2⟩ := sq_cells3 (W := wc) (g := gb246) BK246.out; obtain ⟨hfz20_0, hfz20_1, hfz20_2⟩ := sq_frozen3 BK246.out
         go_wp2
         refine bodyPost_ret (results_ct rfl _ _ gb246 24 #[.int .i64 0, .int .u64 0, .int .u64 0] (0, 0) _ rfl (by (with_reducible repeat (first | refine blk_drewN ?_ _ | refine blk_drew ?_ | refine blk_alloc ?_ _)); refine blk_put (cs := #[.int .i64 0, .int .u64 0, .int .u64 0]) ?_ 2 _ rfl; (with_reducible repeat (first | refine blk_drewN ?_ _ | refine blk_drew ?_ | refine blk_alloc ?_ _)); refine blk_put (cs := #[.int .i64 0, .int .u64 0, .int .u64 0]) ?_ 1 _ rfl; (with_reducible repeat (first | refine blk_drewN ?_ _ | refine blk_drew ?_ | refine blk_alloc ?_ _)); refine blk_put (cs := #[.int .i64 0, .int .u64 0, .int .u64 0]) ?_ 0 _ rfl; (with_reducible repeat (first | refine blk_drewN ?_ _ | refine blk_drew ?_ | refine blk_alloc ?_ _)); exact BK246.out) Try.underlying24 rfl (by kernel_rfl)) rfl ?_
         exact ⟨by first | rfl | (simp [errW_none, errW_some] <;> rfl) | (simp [*, errW_none, errW_some] <;> rfl), by repeat (first | (with_reducible first | exact HB.out | apply below_alloc | apply pw_below_drewN | apply below_drew1 | refine below_set ?_ GE246.out) | exact HB.out)⟩
        ·replace c19 := Bool.eq_false_iff.mpr c19
         subst c19
         have H1 : (if 0 ≤ x4_1 then (if x4_1 ≤ (a0.size : Int) then (maskref1_ReadBits.l1 kj9 a0 x4_1 0 (a0.extract 0 (x4_1 : Int).toNat) 0) else (none)) else (none)) = some (r1, r2, r3, r4) := by rw [if_neg (show ¬ (false = true) by decide)] at H; exact H
         clear H
         have H := H1
         clear H1
         by_cases c21 : 0 ≤ x4_1
         ·rw [if_pos c21] at H
          have c21b0 := eq_true c21
          have c21b1 : decide (0 ≤ x4_1) = true := decide_eq_true c21
          clear c21
          by_cases c22 : x4_1 ≤ (a0.size : Int)
          ·rw [if_pos c22] at H
           have c22b0 := eq_true c22
           have c22b1 : decide (x4_1 ≤ (a0.size : Int)) = true := decide_eq_true c22
           clear c22
           have H' := Aside0.mk H
           clear H
           have GLT_ := Aside0.mk (Array.getElem?_eq_some_iff.1 BK246.out).1
           have WLE_ := Aside0.mk HB.out.size
           go_wp2
           go_loopg [5] kj9 (fun kq v5 w' => ∃ (x5_4 : Int) (x50_4 : Int), v5 = .int .i64 x5_4 ∧ Aside0 (0 ≤ x50_4 ∧ x50_4 ≤ 100001) ∧ Aside0 (w'.heap[wc.heap.size]? = some (.stringIter (a0.extract 0 (x4_1 : Int).toNat) x50_4.toNat)) ∧ Aside0 (maskref1_ReadBits.l1 kq a0 x4_1 x5_4 (a0.extract 0 (x4_1 : Int).toNat) x50_4 = some (r1, r2, r3, r4)) ∧ Aside0 (kq ≤ kj9) ∧ Aside0 (w'.heap[gb246]? = some (.cells #[.int .i64 0, .int .u64 0, .int .u64 0] 24 (0, 0))) ∧ Aside0 (Below w.heap.size w w'))
           case atStart => exact ⟨(0), (0), (by first | rfl | (simp; done) | (simp [*]; done)), ⟨by omega⟩, ⟨iter_start _ _⟩, H', ⟨Nat.le_refl _⟩, ⟨iter_blk BK246.out⟩, ⟨iter_below HB.out HB.out.size⟩⟩
           case round =>
            clear H'
            (try clear c1); (try clear p1); (try clear q1); (try clear hx1); (try clear qi1); (try clear c2); (try clear p2); (try clear c4); (try clear c4b0); (try clear c5); (try clear c5b0); (try clear p6); (try clear q6); (try clear hx6); (try clear c7); (try clear c7b0); (try clear p8); (try clear q8); (try clear hx8); (try clear c9); (try clear c11); (try clear c11b0); (try clear c11b1); (try clear c12); (try clear c12b0); (try clear c12b1); (try clear c13); (try clear p13); (try clear q13); (try clear hx13); (try clear qi13); (try clear c14); (try clear c14b0); (try clear c14b1); (try clear c15); (try clear c15b0); (try clear c15b1); (try clear c16); (try clear c16b0); (try clear c17); (try clear c17b0); (try clear p18); (try clear q18); (try clear hx18); (try clear c19); (try clear c21); (try clear c21b0); (try clear c21b1); (try clear c22); (try clear c22b0); (try clear c22b1); (try clear hcz20_0 hcz20_1 hcz20_2 hfz20_0 hfz20_1 hfz20_2); (try clear p1); (try clear p13); (try clear p18); (try clear p2); (try clear p6); (try clear p8); (try clear q1); (try clear q13); (try clear q18); (try clear q6); (try clear q8)
            obtain ⟨x5_4, x50_4, rfl, HX0, HIT, HA, HK4, BK246, HB⟩ := hrel
            cases gk with
            | zero => exact absurd HA.out (by simp [maskref1_ReadBits.l1])
            | succ k4 =>
             have H := HA.out
             clear HA
             simp only [maskref1_ReadBits.l1] at H
             by_cases c23 : x50_4 < ((a0.extract 0 (x4_1 : Int).toNat).size : Int)
             ·rw [if_pos c23] at H
              have c23b0 : decide (x50_4 < ((a0.extract 0 (x4_1 : Int).toNat).size : Int)) = true := decide_eq_true c23
              clear c23
              by_cases c24 : 0 ≤ x50_4
              ·rw [if_pos c24] at H
               have c24b0 : decide (0 ≤ x50_4) = true := decide_eq_true c24
               clear c24
               obtain ⟨ji26, hji26⟩ : ∃ j_ : Int, (wrap32 (127 - (wrap32 (bt (a0.extract 0 (x4_1 : Int).toNat) x50_4)))) = j_ := ⟨_, rfl⟩
               replace H : (if 0 ≤ (ji26) then (if 0 ≤ (wrap64 (100000 - x50_4)) then (if x5_4 < 1000 then (maskref1_ReadBits.l1 k4 a0 x4_1 (wrap64 ((wrap64 (10 * x5_4)) + (wrap64 (wrap32 ((wrap32 (bt (a0.extract 0 (x4_1 : Int).toNat) x50_4)) - 48))))) (a0.extract 0 (x4_1 : Int).toNat) (wrap64 (x50_4 + 1))) else (maskref1_ReadBits.l1 k4 a0 x4_1 x5_4 (a0.extract 0 (x4_1 : Int).toNat) (wrap64 (x50_4 + 1)))) else (none)) else (none)) = some (r1, r2, r3, r4) := by first | (rw [hji26] at H; exact H) | (simp only [hji26] at H ⊢; exact H)
               have hji26w : (IntKind.i32.wrap (127 - (wrap32 (bt (a0.extract 0 (x4_1 : Int).toNat) x50_4)))) = ji26 := (i32_w _).trans hji26
               by_cases c27 : 0 ≤ (ji26)
               ·rw [if_pos c27] at H
                have c27b0 := eq_true c27
                have c27b1 : decide (0 ≤ (ji26)) = true := decide_eq_true c27
                clear c27
                obtain ⟨ji29, hji29⟩ : ∃ j_ : Int, (wrap64 (100000 - x50_4)) = j_ := ⟨_, rfl⟩
                replace H : (if 0 ≤ (ji29) then (if x5_4 < 1000 then (maskref1_ReadBits.l1 k4 a0 x4_1 (wrap64 ((wrap64 (10 * x5_4)) + (wrap64 (wrap32 ((wrap32 (bt (a0.extract 0 (x4_1 : Int).toNat) x50_4)) - 48))))) (a0.extract 0 (x4_1 : Int).toNat) (wrap64 (x50_4 + 1))) else (maskref1_ReadBits.l1 k4 a0 x4_1 x5_4 (a0.extract 0 (x4_1 : Int).toNat) (wrap64 (x50_4 + 1)))) else (none)) = some (r1, r2, r3, r4) := by first | (rw [hji29] at H; exact H) | (simp only [hji29] at H ⊢; exact H)
                have hji29w : (IntKind.i64.wrap (100000 - x50_4)) = ji29 := (i64_w _).trans hji29
                by_cases c30 : 0 ≤ (ji29)
                ·rw [if_pos c30] at H
                 have c30b0 := eq_true c30
                 have c30b1 : decide (0 ≤ (ji29)) = true := decide_eq_true c30
                 clear c30
                 have bt0_ := bt_byte (a0.extract 0 (x4_1 : Int).toNat) x50_4
                 have hw32_ : wrap32 (bt (a0.extract 0 (x4_1 : Int).toNat) x50_4) = bt (a0.extract 0 (x4_1 : Int).toNat) x50_4 := by clear H; unfold wrap32; omega
                 have hasc_ : bt (a0.extract 0 (x4_1 : Int).toNat) x50_4 ≤ 127 := by clear H; have h_ := of_decide_eq_true c27b1; rw [← hji26, hw32_] at h_; unfold wrap32 at h_; omega
                 have HST_ := Aside0.mk (show 0 ≤ wrap64 (x50_4 + 1) ∧ wrap64 (x50_4 + 1) ≤ 100001 ∧ (wrap64 (x50_4 + 1)).toNat = x50_4.toNat + 1 from by clear H; have h_ := of_decide_eq_true c30b1; rw [← hji29] at h_; have h2_ := HX0.out; unfold wrap64 at h_ ⊢; omega)
                 have hnx_ := next_in _ _ _ _ (of_decide_eq_true c24b0) (of_decide_eq_true c23b0) hasc_ HIT.out
                 clear bt0_ hasc_ hji26w hji29w
                 rw [hw32_] at H
                 by_cases c32 : x5_4 < 1000
                 ·rw [if_pos c32] at H
                  have c32b0 : decide (x5_4 < 1000) = true := decide_eq_true c32
                  clear c32
                  have H' := Aside0.mk H
                  clear H
                  go_wp2
                  go_roundg k4
                  case measure => have := HK1.out; have := HJ2.out; have := HJ9.out; have := HK4.out; omega
                  case rel => exact ⟨(wrap64 ((wrap64 (10 * x5_4)) + (wrap64 (wrap32 ((bt (a0.extract 0 (x4_1 : Int).toNat) x50_4) - 48))))), (wrap64 (x50_4 + 1)), (by first | (with_reducible rfl) | (simp only [ByteArray.size_extract, Nat.min_self]; done) | (simp [ByteArray.size_extract]; done) | rfl | (simp; done) | (simp [*]; done)), ⟨⟨HST_.out.1, HST_.out.2.1⟩⟩, ⟨by rw [HST_.out.2.2]; exact Lib.iterAt_heap _ _ _ _ _ HIT.out⟩, H', ⟨by have := HK1.out; have := HJ2.out; have := HJ9.out; have := HK4.out; omega⟩, ⟨(Lib.iterAt_other _ _ _ _ _ (Nat.ne_of_lt GLT_.out)).trans BK246.out⟩, ⟨Lib.below_iterAt HB.out WLE_.out _ _⟩⟩
                 ·rw [if_neg c32] at H
                  have c32b0 : decide (x5_4 < 1000) = false := decide_eq_false c32
                  clear c32
                  have H' := Aside0.mk H
                  clear H
                  go_wp2
                  go_roundg k4
                  case measure => have := HK1.out; have := HJ2.out; have := HJ9.out; have := HK4.out; omega
                  case rel => exact ⟨(x5_4), (wrap64 (x50_4 + 1)), (by first | rfl | (simp; done) | (simp [*]; done)), ⟨⟨HST_.out.1, HST_.out.2.1⟩⟩, ⟨by rw [HST_.out.2.2]; exact Lib.iterAt_heap _ _ _ _ _ HIT.out⟩, H', ⟨by have := HK1.out; have := HJ2.out; have := HJ9.out; have := HK4.out; omega⟩, ⟨(Lib.iterAt_other _ _ _ _ _ (Nat.ne_of_lt GLT_.out)).trans BK246.out⟩, ⟨Lib.below_iterAt HB.out WLE_.out _ _⟩⟩
                ·rw [if_neg c30] at H
                 exact absurd H (by simp)
               ·rw [if_neg c27] at H
                exact absurd H (by simp)
              ·rw [if_neg c24] at H
               exact absurd H (by simp)
             ·rw [if_neg c23] at H
              have c23b0 : decide (x50_4 < ((a0.extract 0 (x4_1 : Int).toNat).size : Int)) = false := decide_eq_false c23
              have hnx_ := next_out _ _ _ _ (of_decide_eq_false c23b0) HIT.out
              clear c23
              obtain ⟨ji33, hji33⟩ : ∃ j_ : Int, (wrap64 (x4_1 + 1)) = j_ := ⟨_, rfl⟩
              replace H : (if 0 ≤ (ji33) then (if (ji33) ≤ (a0.size : Int) then (if ((a0.extract ((ji33) : Int).toNat a0.size).size : Int) > 0 then (if 0 < ((a0.extract ((ji33) : Int).toNat a0.size).size : Int) then (maskref1_ReadBits.j4 k4 (a0.extract ((ji33) : Int).toNat a0.size) x5_4 ((bt (a0.extract ((ji33) : Int).toNat a0.size) 0) == 115)) else (none)) else (maskref1_ReadBits.j4 k4 (a0.extract ((ji33) : Int).toNat a0.size) x5_4 false)) else (none)) else (none)) = some (r1, r2, r3, r4) := by first | (rw [hji33] at H; exact H) | (simp only [hji33] at H ⊢; exact H)
              have hji33w : (IntKind.i64.wrap (x4_1 + 1)) = ji33 := (i64_w _).trans hji33
              by_cases c34 : 0 ≤ (ji33)
              ·rw [if_pos c34] at H
               have c34b0 := eq_true c34
               have c34b1 : decide (0 ≤ (ji33)) = true := decide_eq_true c34
               clear c34
               by_cases c35 : (ji33) ≤ (a0.size : Int)
               ·rw [if_pos c35] at H
                have c35b0 := eq_true c35
                have c35b1 : decide ((ji33) ≤ (a0.size : Int)) = true := decide_eq_true c35
                clear c35
                have HC36 := Aside0.mk H
                clear H
                go_upto_region 13 with (fail)
                go_cut [73] (fun v73 wc => ∃ (kq : Nat) (x73_35 : Bool), v73 = .bool x73_35 ∧ Aside0 (maskref1_ReadBits.j4 kq (a0.extract ((ji33) : Int).toNat a0.size) x5_4 x73_35 = some (r1, r2, r3, r4)) ∧ Aside0 (kq ≤ k4) ∧ Aside0 (wc.heap[gb246]? = some (.cells #[.int .i64 0, .int .u64 0, .int .u64 0] 24 (0, 0))) ∧ Aside0 (Below w.heap.size w wc))
                case first =>
                 have H := HC36.out
                 clear HC36
                 by_cases c37 : ((a0.extract ((ji33) : Int).toNat a0.size).size : Int) > 0
                 ·rw [if_pos c37] at H
                  have c37b0 : decide (0 < ((a0.extract ((ji33) : Int).toNat a0.size).size : Int)) = true := decide_eq_true c37
                  try have c37b0e : decide (0 < ((a0.size - ((ji33) : Int).toNat : Nat) : Int)) = true := by have h_ := c37b0; simp only [ByteArray.size_extract, Nat.min_self] at h_; exact h_
                  have c37b1 : decide (0 < (a0.extract ((ji33) : Int).toNat a0.size).size) = true := decide_eq_true (by omega)
                  try have c37b1e : decide (0 < (a0.size - ((ji33) : Int).toNat)) = true := by have h_ := c37b1; simp only [ByteArray.size_extract, Nat.min_self] at h_; exact h_
                  clear c37
                  (first | rw [c37b0] | (simp only [i64_w, i32_w]; rw [c37b0]) | skip)
                  by_cases c38 : 0 < ((a0.extract ((ji33) : Int).toNat a0.size).size : Int)
                  ·rw [if_pos c38] at H
                   have c38b0 : decide (0 < ((a0.extract ((ji33) : Int).toNat a0.size).size : Int)) = true := decide_eq_true c38
                   try have c38b0e : decide (0 < ((a0.size - ((ji33) : Int).toNat : Nat) : Int)) = true := by have h_ := c38b0; simp only [ByteArray.size_extract, Nat.min_self] at h_; exact h_
                   have c38b1 : decide (0 < (a0.extract ((ji33) : Int).toNat a0.size).size) = true := decide_eq_true (by omega)
                   try have c38b1e : decide (0 < (a0.size - ((ji33) : Int).toNat)) = true := by have h_ := c38b1; simp only [ByteArray.size_extract, Nat.min_self] at h_; exact h_
                   clear c38
                   have H' := Aside0.mk H
                   clear H
                   have p39 : 0 ≤ (0 : Int) := (by omega)
                   have q39 : 0 < (a0.extract ((ji33) : Int).toNat a0.size).size := (by have : (0 : Int) < ((a0.extract ((ji33) : Int).toNat a0.size).size : Int) := of_decide_eq_true (by first | (with_reducible assumption) | assumption); omega)
                   try have q39e : 0 < (a0.size - ((ji33) : Int).toNat) := by have h_ := q39; simp only [ByteArray.size_extract, Nat.min_self] at h_; exact h_
                   have hx39 : ∀ h : 0 < (a0.extract ((ji33) : Int).toNat a0.size).size, (((a0.extract ((ji33) : Int).toNat a0.size)[0]'h).toNat : Int) = bt (a0.extract ((ji33) : Int).toNat a0.size) 0 := bt_at (a0.extract ((ji33) : Int).toNat a0.size) 0
                   clear p39
                   have qi39 : (0 < ((a0.extract ((ji33) : Int).toNat a0.size).size : Int)) = True := eq_true (of_decide_eq_true (by first | (with_reducible assumption) | assumption))
                   try have qi39e : (0 < ((a0.size - ((ji33) : Int).toNat : Nat) : Int)) = True := by have h_ := qi39; simp only [ByteArray.size_extract, Nat.min_self] at h_; exact h_
                   replace q39 := eq_true q39
                   go_wp2
                   go_meet
                   case rel => exact ⟨_, (((bt (a0.extract ((ji33) : Int).toNat a0.size) 0) == 115)), (by first | (with_reducible rfl) | (simp only [ByteArray.size_extract, Nat.min_self]; done) | (simp [ByteArray.size_extract]; done) | rfl | (simp; done) | (simp only [← hji33] <;> (first | rfl | simp)) | (simp [*]; done)), H', ⟨by have := HK1.out; have := HJ2.out; have := HJ9.out; have := HK4.out; first | omega | exact Nat.le_refl _⟩, ⟨by (with_reducible repeat (first | refine blk_drewN ?_ _ | refine blk_drew ?_ | refine blk_alloc ?_ _)); exact BK246.out⟩, ⟨by repeat (first | (with_reducible first | exact HB.out | apply below_alloc | apply pw_below_drewN | apply below_drew1 | refine below_set ?_ GE246.out) | exact HB.out)⟩⟩
                  ·rw [if_neg c38] at H
                   exact absurd H (by simp)
                 ·rw [if_neg c37] at H
                  have c37b0 : decide (0 < ((a0.extract ((ji33) : Int).toNat a0.size).size : Int)) = false := decide_eq_false c37
                  try have c37b0e : decide (0 < ((a0.size - ((ji33) : Int).toNat : Nat) : Int)) = false := by have h_ := c37b0; simp only [ByteArray.size_extract, Nat.min_self] at h_; exact h_
                  have c37b1 : decide (0 < (a0.extract ((ji33) : Int).toNat a0.size).size) = false := decide_eq_false (by omega)
                  try have c37b1e : decide (0 < (a0.size - ((ji33) : Int).toNat)) = false := by have h_ := c37b1; simp only [ByteArray.size_extract, Nat.min_self] at h_; exact h_
                  clear c37
                  (first | rw [c37b0] | (simp only [i64_w, i32_w]; rw [c37b0]) | skip)
                  have H' := Aside0.mk H
                  clear H
                  go_wp2
                  go_meet
                  case rel => exact ⟨_, (false), (by first | rfl | (simp; done) | (simp [*]; done)), H', ⟨by have := HK1.out; have := HJ2.out; have := HJ9.out; have := HK4.out; first | omega | exact Nat.le_refl _⟩, ⟨by (with_reducible repeat (first | refine blk_drewN ?_ _ | refine blk_drew ?_ | refine blk_alloc ?_ _)); exact BK246.out⟩, ⟨by repeat (first | (with_reducible first | exact HB.out | apply below_alloc | apply pw_below_drewN | apply below_drew1 | refine below_set ?_ GE246.out) | exact HB.out)⟩⟩
                case rest =>
                 clear HC36
                 (try clear c1); (try clear p1); (try clear q1); (try clear hx1); (try clear qi1); (try clear c2); (try clear p2); (try clear q2); (try clear hx2); (try clear c3); (try clear p3); (try clear q3); (try clear hx3); (try clear qi3); (try clear c4); (try clear c4b0); (try clear c5); (try clear c5b0); (try clear p6); (try clear q6); (try clear hx6); (try clear c7); (try clear c7b0); (try clear p8); (try clear q8); (try clear hx8); (try clear c9); (try clear c11); (try clear c11b0); (try clear c11b1); (try clear c12); (try clear c12b0); (try clear c12b1); (try clear c13); (try clear p13); (try clear q13); (try clear hx13); (try clear qi13); (try clear c14); (try clear c14b0); (try clear c14b1); (try clear c15); (try clear c15b0); (try clear c15b1); (try clear c16); (try clear c16b0); (try clear c17); (try clear c17b0); (try clear p18); (try clear q18); (try clear hx18); (try clear c19); (try clear c21); (try clear c21b0); (try clear c21b1); (try clear c22); (try clear c22b0); (try clear c22b1); (try clear c23); (try clear c23b0); (try clear c24); (try clear c24b0); (try clear p25); (try clear q25); (try clear hx25); (try clear c27); (try clear c27b0); (try clear c27b1); (try clear c30); (try clear c30b0); (try clear c30b1); (try clear c32); (try clear c32b0); (try clear p32); (try clear c34); (try clear c34b0); (try clear c34b1); (try clear c35); (try clear c35b0); (try clear c35b1); (try clear c37); (try clear c37b0); (try clear c37b1); (try clear c38); (try clear c38b0); (try clear c38b1); (try clear p39); (try clear q39); (try clear hx39); (try clear qi39); (try clear hcz20_0 hcz20_1 hcz20_2 hfz20_0 hfz20_1 hfz20_2); (try clear p1); (try clear p13); (try clear p18); (try clear p2); (try clear p25); (try clear p39); (try clear p6); (try clear p8); (try clear q1); (try clear q13); (try clear q18); (try clear q25); (try clear q39); (try clear q6); (try clear q8)
                 obtain ⟨kq, x73_35, rfl, HA, HJ35, BK246, HB⟩ := hcut
                 cases kq with
                 | zero => exact absurd HA.out (by simp [maskref1_ReadBits.j4])
                 | succ kj35 =>
                  have H := HA.out
                  clear HA
                  simp only [maskref1_ReadBits.j4] at H
                  have HC40 := Aside0.mk H
                  clear H
                  go_upto_if 73 with (fail)
                  go_cut [0] (fun v0 wc => ∃ (kq : Nat) (x0_39 : ByteArray), v0 = .string x0_39 ∧ Aside0 (maskref1_ReadBits.j5 kq x0_39 x5_4 = some (r1, r2, r3, r4)) ∧ Aside0 (kq ≤ kj35) ∧ Aside0 (wc.heap[gb246]? = some (.cells #[.int .i64 0, .int .u64 0, .int .u64 0] 24 (0, 0))) ∧ Aside0 (Below w.heap.size w wc))
                  case first =>
                   have H := HC40.out
                   clear HC40
                   by_cases c41 : x73_35 = true
                   ·subst c41
                    have H1 : (if 1 ≤ ((a0.extract ((ji33) : Int).toNat a0.size).size : Int) then (maskref1_ReadBits.j5 kj35 ((a0.extract ((ji33) : Int).toNat a0.size).extract 1 (a0.extract ((ji33) : Int).toNat a0.size).size) x5_4) else (none)) = some (r1, r2, r3, r4) := by rw [if_pos rfl] at H; exact H
                    clear H
                    have H := H1
                    clear H1
                    by_cases c42 : 1 ≤ ((a0.extract ((ji33) : Int).toNat a0.size).size : Int)
                    ·rw [if_pos c42] at H
                     have c42b0 := eq_true c42
                     have c42b1 : decide (1 ≤ ((a0.extract ((ji33) : Int).toNat a0.size).size : Int)) = true := decide_eq_true c42
                     try have c42b1e : decide (1 ≤ ((a0.size - ((ji33) : Int).toNat : Nat) : Int)) = true := by have h_ := c42b1; simp only [ByteArray.size_extract, Nat.min_self] at h_; exact h_
                     try have c42b1f : (1 ≤ ((a0.size - ((ji33) : Int).toNat : Nat) : Int)) = True := eq_true (of_decide_eq_true c42b1e)
                     clear c42
                     have H' := Aside0.mk H
                     clear H
                     go_wp2
                     go_meet
                     case rel => exact ⟨_, ((a0.extract ((ji33) : Int).toNat a0.size).extract 1 (a0.extract ((ji33) : Int).toNat a0.size).size), (by first | (with_reducible rfl) | (simp only [ByteArray.size_extract, Nat.min_self]; done) | (simp [ByteArray.size_extract]; done) | rfl | (simp; done) | (simp only [← hji33] <;> (first | rfl | simp)) | (simp [*]; done)), H', ⟨by have := HK1.out; have := HJ2.out; have := HJ9.out; have := HK4.out; have := HJ35.out; first | omega | exact Nat.le_refl _⟩, ⟨by (with_reducible repeat (first | refine blk_drewN ?_ _ | refine blk_drew ?_ | refine blk_alloc ?_ _)); exact BK246.out⟩, ⟨by repeat (first | (with_reducible first | exact HB.out | apply below_alloc | apply pw_below_drewN | apply below_drew1 | refine below_set ?_ GE246.out) | exact HB.out)⟩⟩
                    ·rw [if_neg c42] at H
                     exact absurd H (by simp)
                   ·replace c41 := Bool.eq_false_iff.mpr c41
                    subst c41
                    have H1 : (maskref1_ReadBits.j5 kj35 (a0.extract ((ji33) : Int).toNat a0.size) x5_4) = some (r1, r2, r3, r4) := by rw [if_neg (show ¬ (false = true) by decide)] at H; exact H
                    clear H
                    have H := H1
                    clear H1
                    have H' := Aside0.mk H
                    clear H
                    go_wp2
                    go_meet
                    case rel => exact ⟨_, ((a0.extract ((ji33) : Int).toNat a0.size)), (by first | (with_reducible rfl) | (simp only [ByteArray.size_extract, Nat.min_self]; done) | (simp [ByteArray.size_extract]; done) | rfl | (simp; done) | (simp only [← hji33] <;> (first | rfl | simp)) | (simp [*]; done)), H', ⟨by have := HK1.out; have := HJ2.out; have := HJ9.out; have := HK4.out; have := HJ35.out; first | omega | exact Nat.le_refl _⟩, ⟨by (with_reducible repeat (first | refine blk_drewN ?_ _ | refine blk_drew ?_ | refine blk_alloc ?_ _)); exact BK246.out⟩, ⟨by repeat (first | (with_reducible first | exact HB.out | apply below_alloc | apply pw_below_drewN | apply below_drew1 | refine below_set ?_ GE246.out) | exact HB.out)⟩⟩
                  case rest =>
                   clear HC40
                   (try clear c1); (try clear p1); (try clear q1); (try clear hx1); (try clear qi1); (try clear c2); (try clear p2); (try clear q2); (try clear hx2); (try clear c3); (try clear p3); (try clear q3); (try clear hx3); (try clear qi3); (try clear c4); (try clear c4b0); (try clear c5); (try clear c5b0); (try clear p6); (try clear q6); (try clear hx6); (try clear c7); (try clear c7b0); (try clear p8); (try clear q8); (try clear hx8); (try clear c9); (try clear c11); (try clear c11b0); (try clear c11b1); (try clear c12); (try clear c12b0); (try clear c12b1); (try clear c13); (try clear p13); (try clear q13); (try clear hx13); (try clear qi13); (try clear c14); (try clear c14b0); (try clear c14b1); (try clear c15); (try clear c15b0); (try clear c15b1); (try clear c16); (try clear c16b0); (try clear c17); (try clear c17b0); (try clear p18); (try clear q18); (try clear hx18); (try clear c19); (try clear c21); (try clear c21b0); (try clear c21b1); (try clear c22); (try clear c22b0); (try clear c22b1); (try clear c23); (try clear c23b0); (try clear c24); (try clear c24b0); (try clear p25); (try clear q25); (try clear hx25); (try clear c27); (try clear c27b0); (try clear c27b1); (try clear c30); (try clear c30b0); (try clear c30b1); (try clear c32); (try clear c32b0); (try clear p32); (try clear c34); (try clear c34b0); (try clear c34b1); (try clear c35); (try clear c35b0); (try clear c35b1); (try clear c37); (try clear c37b0); (try clear c37b1); (try clear c38); (try clear c38b0); (try clear c38b1); (try clear p39); (try clear q39); (try clear hx39); (try clear qi39); (try clear c41); (try clear c42); (try clear c42b0); (try clear c42b1); (try clear hcz20_0 hcz20_1 hcz20_2 hfz20_0 hfz20_1 hfz20_2); (try clear p1); (try clear p13); (try clear p18); (try clear p2); (try clear p25); (try clear p3); (try clear p32); (try clear p39); (try clear p6); (try clear p8); (try clear q1); (try clear q13); (try clear q18); (try clear q2); (try clear q25); (try clear q3); (try clear q39); (try clear q6); (try clear q8)
                   obtain ⟨kq, x0_39, rfl, HA, HJ39, BK246, HB⟩ := hcut
                   cases kq with
                   | zero => exact absurd HA.out (by simp [maskref1_ReadBits.j5])
                   | succ kj39 =>
                    have H := HA.out
                    clear HA
                    simp only [maskref1_ReadBits.j5] at H
                    by_cases c43 : (x0_39.size : Int) < 2
                    ·rw [if_pos c43] at H
                     have c43b0 : decide ((x0_39.size : Int) < 2) = true := decide_eq_true c43
                     have c43b1 : decide (x0_39.size < 2) = true := decide_eq_true (by omega)
                     clear c43
                     simp only [Option.some.injEq, Prod.mk.injEq] at H
                     obtain ⟨rfl, rfl, rfl, rfl⟩ := H
                     obtain ⟨hcz44_0, hcz44_1, hcz44_2⟩ := sq_cells3 (W := wc) (g := gb246) BK246.out; obtain ⟨hfz44_0, hfz44_1, hfz44_2⟩ := sq_frozen3 BK246.out
                     go_wp2
                     refine bodyPost_ret (results_ct rfl _ _ gb246 24 #[.int .i64 0, .int .u64 0, .int .u64 0] (0, 0) _ rfl (by (with_reducible repeat (first | refine blk_drewN ?_ _ | refine blk_drew ?_ | refine blk_alloc ?_ _)); refine blk_put (cs := #[.int .i64 0, .int .u64 0, .int .u64 0]) ?_ 2 _ rfl; (with_reducible repeat (first | refine blk_drewN ?_ _ | refine blk_drew ?_ | refine blk_alloc ?_ _)); refine blk_put (cs := #[.int .i64 0, .int .u64 0, .int .u64 0]) ?_ 1 _ rfl; (with_reducible repeat (first | refine blk_drewN ?_ _ | refine blk_drew ?_ | refine blk_alloc ?_ _)); refine blk_put (cs := #[.int .i64 0, .int .u64 0, .int .u64 0]) ?_ 0 _ rfl; (with_reducible repeat (first | refine blk_drewN ?_ _ | refine blk_drew ?_ | refine blk_alloc ?_ _)); exact BK246.out) Try.underlying24 rfl (by kernel_rfl)) rfl ?_
                     exact ⟨by first | rfl | (simp [errW_none, errW_some] <;> rfl) | (simp only [← hji33]; first | rfl | (simp [errW_none, errW_some] <;> rfl)) | (simp [*, errW_none, errW_some] <;> rfl), by repeat (first | (with_reducible first | exact HB.out | apply below_alloc | apply pw_below_drewN | apply below_drew1 | refine below_set ?_ GE246.out) | exact HB.out)⟩
                    ·rw [if_neg c43] at H
                     have c43b0 : decide ((x0_39.size : Int) < 2) = false := decide_eq_false c43
                     have c43b1 : decide (x0_39.size < 2) = false := decide_eq_false (by omega)
                     clear c43
                     replace H := Option.bind_eq_some_iff.mp H
                     obtain ⟨t247, A450, H⟩ := H
                     replace H : (if 0 < (x0_39.size : Int) then ((sizeT.f (bt x0_39 0)).bind fun t248 => (if t248 = 0 then (some (0, 0, 0, 10)) else (if t248 = 99 then (if 1 ≤ (x0_39.size : Int) then ((maskref1_readDecimal.f kj39 (x0_39.extract 1 x0_39.size) x5_4).bind fun bt249 => (some (bt249.1, bt249.2.1, bt249.2.2.1, bt249.2.2.2))) else (none)) else (if 1 ≤ (x0_39.size : Int) then ((maskref1_readDigits.f kj39 (x0_39.extract 1 x0_39.size) x5_4 t248).bind fun bt253 => (some (bt253.1, bt253.2.1, bt253.2.2.1, bt253.2.2.2))) else (none))))) else (none)) = some (r1, r2, r3, r4) := H
                     have A45 := Aside0.mk A450
                     clear A450
                     by_cases c46 : 0 < (x0_39.size : Int)
                     ·rw [if_pos c46] at H
                      have c46b0 : decide (0 < (x0_39.size : Int)) = true := decide_eq_true c46
                      have c46b1 : decide (0 < x0_39.size) = true := decide_eq_true (by omega)
                      clear c46
                      replace H := Option.bind_eq_some_iff.mp H
                      obtain ⟨t248, A480, H⟩ := H
                      replace H : (if t248 = 0 then (some (0, 0, 0, 10)) else (if t248 = 99 then (if 1 ≤ (x0_39.size : Int) then ((maskref1_readDecimal.f kj39 (x0_39.extract 1 x0_39.size) x5_4).bind fun bt249 => (some (bt249.1, bt249.2.1, bt249.2.2.1, bt249.2.2.2))) else (none)) else (if 1 ≤ (x0_39.size : Int) then ((maskref1_readDigits.f kj39 (x0_39.extract 1 x0_39.size) x5_4 t248).bind fun bt253 => (some (bt253.1, bt253.2.1, bt253.2.2.1, bt253.2.2.2))) else (none)))) = some (r1, r2, r3, r4) := H
                      have A48 := Aside0.mk A480
                      clear A480
                      by_cases c49 : t248 = 0
                      ·rw [if_pos c49] at H
                       have c49b0 : (t248 == 0) = true := beq_iff_eq.mpr c49
                       have c49b1 : (t248 != 0) = false := bne_eq_false_iff_eq.mpr c49
                       clear c49
                       simp only [Option.some.injEq, Prod.mk.injEq] at H
                       obtain ⟨rfl, rfl, rfl, rfl⟩ := H
                       go_wp2_with (first | ((with_reducible refine gate_dst (N := 80) rfl ?_); refine wpList_mapLit (H := Unit) 107 5 3 .u8 .i64 lawU8 Try.underlying107 Try.underlying5 Try.underlying3 rfl rfl 80 rfl (fun _ => rfl) [(98, 1), (111, 3), (104, 4), (100, 99)] (by decide) (by decide) [_, _, _, _] rfl ?_; intro w50 hown_ hb; have hOWN := Aside0.mk hown_; clear hown_; have n0_ := Aside0.mk (blk_below (g := gb246) (o := .cells #[.int .i64 0, .int .u64 0, .int .u64 0] 24 (0, 0)) (by (with_reducible repeat (first | refine blk_drewN ?_ _ | refine blk_drew ?_ | refine blk_alloc ?_ _)); exact BK246.out) hb); have n1_ := Aside0.mk (below_step (by repeat (first | (with_reducible first | exact HB.out | apply below_alloc | apply pw_below_drewN | apply below_drew1 | refine below_set ?_ GE246.out) | exact HB.out)) hb); clear BK246; clear HB; have BK246 := n0_; have HB := n1_; clear n0_ n1_; (try clear hb); (try clear hb2); (try clear hk); (try clear hi); have p47 : 0 ≤ (0 : Int) := (by omega); have q47 : 0 < x0_39.size := (by have : (0 : Int) < (x0_39.size : Int) := of_decide_eq_true (by first | (with_reducible assumption) | assumption); omega); have hx47 : ∀ h : 0 < x0_39.size, ((x0_39[0]'h).toNat : Int) = bt x0_39 0 := bt_at x0_39 0; clear p47; have qi47 : (0 < (x0_39.size : Int)) = True := eq_true (of_decide_eq_true (by first | (with_reducible assumption) | assumption)); replace q47 := eq_true q47) | ((with_reducible refine gate_dst (N := 84) rfl ?_); refine wpList_lookup_own_int _ rfl _ _ 107 rfl 5 3 .i64 lawU8 Try.underlying107 Try.underlying3 (zeroI64 _) _ _ _ rfl (by first | exact hOWN.out | exact ownsMap_drewN hOWN.out _) (.int .u8 (bt x0_39 0)) _ rfl (Go.Maps.keyOf_int_mk Try.underlying5 (sizeT_wf A48.out)) ?_; intro cq hat hwc; obtain rfl : t248 = cq := (sizeT_eq A48.out hat).symm; clear hat hwc; (try (rw [drewN_self w50]; generalize hq_ : World.drewN w50 _ = w50; have n0_ : Aside0 (w50.heap[gb246]? = some (.cells #[.int .i64 0, .int .u64 0, .int .u64 0] 24 (0, 0))) := ⟨by rw [← hq_]; exact (by (with_reducible repeat (first | refine blk_drewN ?_ _ | refine blk_drew ?_ | refine blk_alloc ?_ _)); exact BK246.out)⟩; have n1_ : Aside0 (Below w.heap.size w w50) := ⟨by rw [← hq_]; exact (by repeat (first | (with_reducible first | exact HB.out | apply below_alloc | apply pw_below_drewN | apply below_drew1 | refine below_set ?_ GE246.out) | exact HB.out))⟩; clear BK246 HB hq_; have BK246 := n0_; have HB := n1_; clear n0_ n1_)); have hcz51_0 : w50.cell? ⟨gb246, 0, none⟩ = some (.int .i64 0) := (blk_cell BK246.out 0).trans rfl; have hcz51_1 : w50.cell? ⟨gb246, 1, none⟩ = some (.int .u64 0) := (blk_cell BK246.out 1).trans rfl; have hcz51_2 : w50.cell? ⟨gb246, 2, none⟩ = some (.int .u64 0) := (blk_cell BK246.out 2).trans rfl; have hfz51_0 := blk_frozen BK246.out 0; have hfz51_1 := blk_frozen BK246.out 1; have hfz51_2 := blk_frozen BK246.out 2))
                       refine bodyPost_ret (results_ct rfl _ _ gb246 24 #[.int .i64 0, .int .u64 0, .int .u64 0] (0, 0) _ rfl (by (with_reducible repeat (first | refine blk_drewN ?_ _ | refine blk_drew ?_ | refine blk_alloc ?_ _)); refine blk_put (cs := #[.int .i64 0, .int .u64 0, .int .u64 0]) ?_ 2 _ rfl; (with_reducible repeat (first | refine blk_drewN ?_ _ | refine blk_drew ?_ | refine blk_alloc ?_ _)); refine blk_put (cs := #[.int .i64 0, .int .u64 0, .int .u64 0]) ?_ 1 _ rfl; (with_reducible repeat (first | refine blk_drewN ?_ _ | refine blk_drew ?_ | refine blk_alloc ?_ _)); refine blk_put (cs := #[.int .i64 0, .int .u64 0, .int .u64 0]) ?_ 0 _ rfl; (with_reducible repeat (first | refine blk_drewN ?_ _ | refine blk_drew ?_ | refine blk_alloc ?_ _)); exact BK246.out) Try.underlying24 rfl (by kernel_rfl)) rfl ?_
                       exact ⟨by first | rfl | (simp [errW_none, errW_some] <;> rfl) | (simp only [← hji33]; first | rfl | (simp [errW_none, errW_some] <;> rfl)) | (simp [*, errW_none, errW_some] <;> rfl), by repeat (first | (with_reducible first | exact HB.out | apply below_alloc | apply pw_below_drewN | apply below_drew1 | refine below_set ?_ GE246.out) | exact HB.out)⟩
                      ·rw [if_neg c49] at H
                       have c49b0 : (t248 == 0) = false := beq_eq_false_iff_ne.mpr c49
                       have c49b1 : (t248 != 0) = true := bne_iff_ne.mpr c49
                       by_cases c52 : t248 = 99
                       ·rw [if_pos c52] at H
                        have c52b0 : (t248 == 99) = true := beq_iff_eq.mpr c52
                        have c52b1 : (t248 != 99) = false := bne_eq_false_iff_eq.mpr c52
                        clear c52
                        by_cases c53 : 1 ≤ (x0_39.size : Int)
                        ·rw [if_pos c53] at H
                         have c53b0 := eq_true c53
                         have c53b1 : decide (1 ≤ (x0_39.size : Int)) = true := decide_eq_true c53
                         clear c53
                         replace H := Option.bind_eq_some_iff.mp H
                         obtain ⟨⟨t249, t250, t251, t252⟩, A540, H⟩ := H
                         replace H : (some (t249, t250, t251, t252)) = some (r1, r2, r3, r4) := H
                         have A54 := Aside0.mk A540
                         clear A540
                         simp only [Option.some.injEq, Prod.mk.injEq] at H
                         obtain ⟨rfl, rfl, rfl, rfl⟩ := H
                         go_wp2_with (first | ((with_reducible refine gate_dst (N := 80) rfl ?_); refine wpList_mapLit (H := Unit) 107 5 3 .u8 .i64 lawU8 Try.underlying107 Try.underlying5 Try.underlying3 rfl rfl 80 rfl (fun _ => rfl) [(98, 1), (111, 3), (104, 4), (100, 99)] (by decide) (by decide) [_, _, _, _] rfl ?_; intro w55 hown_ hb; have hOWN := Aside0.mk hown_; clear hown_; have n0_ := Aside0.mk (blk_below (g := gb246) (o := .cells #[.int .i64 0, .int .u64 0, .int .u64 0] 24 (0, 0)) (by (with_reducible repeat (first | refine blk_drewN ?_ _ | refine blk_drew ?_ | refine blk_alloc ?_ _)); exact BK246.out) hb); have n1_ := Aside0.mk (below_step (by repeat (first | (with_reducible first | exact HB.out | apply below_alloc | apply pw_below_drewN | apply below_drew1 | refine below_set ?_ GE246.out) | exact HB.out)) hb); clear BK246; clear HB; have BK246 := n0_; have HB := n1_; clear n0_ n1_; (try clear hb); (try clear hb2); (try clear hk); (try clear hi); have p47 : 0 ≤ (0 : Int) := (by omega); have q47 : 0 < x0_39.size := (by have : (0 : Int) < (x0_39.size : Int) := of_decide_eq_true (by first | (with_reducible assumption) | assumption); omega); have hx47 : ∀ h : 0 < x0_39.size, ((x0_39[0]'h).toNat : Int) = bt x0_39 0 := bt_at x0_39 0; clear p47; have qi47 : (0 < (x0_39.size : Int)) = True := eq_true (of_decide_eq_true (by first | (with_reducible assumption) | assumption)); replace q47 := eq_true q47) | ((with_reducible refine gate_dst (N := 84) rfl ?_); refine wpList_lookup_own_int _ rfl _ _ 107 rfl 5 3 .i64 lawU8 Try.underlying107 Try.underlying3 (zeroI64 _) _ _ _ rfl (by first | exact hOWN.out | exact ownsMap_drewN hOWN.out _) (.int .u8 (bt x0_39 0)) _ rfl (Go.Maps.keyOf_int_mk Try.underlying5 (sizeT_wf A48.out)) ?_; intro cq hat hwc; obtain rfl : t248 = cq := (sizeT_eq A48.out hat).symm; clear hat hwc; (try (rw [drewN_self w55]; generalize hq_ : World.drewN w55 _ = w55; have n0_ : Aside0 (w55.heap[gb246]? = some (.cells #[.int .i64 0, .int .u64 0, .int .u64 0] 24 (0, 0))) := ⟨by rw [← hq_]; exact (by (with_reducible repeat (first | refine blk_drewN ?_ _ | refine blk_drew ?_ | refine blk_alloc ?_ _)); exact BK246.out)⟩; have n1_ : Aside0 (Below w.heap.size w w55) := ⟨by rw [← hq_]; exact (by repeat (first | (with_reducible first | exact HB.out | apply below_alloc | apply pw_below_drewN | apply below_drew1 | refine below_set ?_ GE246.out) | exact HB.out))⟩; clear BK246 HB hq_; have BK246 := n0_; have HB := n1_; clear n0_ n1_))) | ((with_reducible refine gate_callee (f := 92) rfl ?_); refine goesL_ (some 93) rfl rfl Try.func92 (by kernel_rfl) rfl #[.string (x0_39.extract 1 x0_39.size), .int .i64 x5_4] rfl (by (try simp only [List.map_toArray, List.map_cons, List.map_nil]); first | done | rfl | (simp only [List.length_drop, List.length_take]; rfl)) ?_; (with_reducible refine (maskref1_readDecimal.calls kj39 (x0_39.extract 1 x0_39.size) x5_4 t249 t250 t251 t252 _ A54.out).mono ?_); rintro e w56 ⟨rfl, hb⟩; refine ⟨_, rfl, ?_⟩; have n0_ := Aside0.mk (blk_below (g := gb246) (o := .cells #[.int .i64 0, .int .u64 0, .int .u64 0] 24 (0, 0)) (by (with_reducible repeat (first | refine blk_drewN ?_ _ | refine blk_drew ?_ | refine blk_alloc ?_ _)); exact BK246.out) hb); have n1_ := Aside0.mk (below_step (by repeat (first | (with_reducible first | exact HB.out | apply below_alloc | apply pw_below_drewN | apply below_drew1 | refine below_set ?_ GE246.out) | exact HB.out)) hb); clear BK246; clear HB; have BK246 := n0_; have HB := n1_; clear n0_ n1_; (try clear hb); (try clear hb2); (try clear hk); (try clear hi); have hcz57_0 : w56.cell? ⟨gb246, 0, none⟩ = some (.int .i64 0) := (blk_cell BK246.out 0).trans rfl; have hcz57_1 : w56.cell? ⟨gb246, 1, none⟩ = some (.int .u64 0) := (blk_cell BK246.out 1).trans rfl; have hcz57_2 : w56.cell? ⟨gb246, 2, none⟩ = some (.int .u64 0) := (blk_cell BK246.out 2).trans rfl; have hfz57_0 := blk_frozen BK246.out 0; have hfz57_1 := blk_frozen BK246.out 1; have hfz57_2 := blk_frozen BK246.out 2))
                         refine bodyPost_ret (results_ct rfl _ _ gb246 24 #[.int .i64 t249, .int .u64 t250, .int .u64 t251] (0, 0) _ rfl (by (with_reducible repeat (first | refine blk_drewN ?_ _ | refine blk_drew ?_ | refine blk_alloc ?_ _)); refine blk_put (cs := #[.int .i64 t249, .int .u64 t250, .int .u64 0]) ?_ 2 _ rfl; (with_reducible repeat (first | refine blk_drewN ?_ _ | refine blk_drew ?_ | refine blk_alloc ?_ _)); refine blk_put (cs := #[.int .i64 t249, .int .u64 0, .int .u64 0]) ?_ 1 _ rfl; (with_reducible repeat (first | refine blk_drewN ?_ _ | refine blk_drew ?_ | refine blk_alloc ?_ _)); refine blk_put (cs := #[.int .i64 0, .int .u64 0, .int .u64 0]) ?_ 0 _ rfl; (with_reducible repeat (first | refine blk_drewN ?_ _ | refine blk_drew ?_ | refine blk_alloc ?_ _)); exact BK246.out) Try.underlying24 rfl (by kernel_rfl)) rfl ?_
                         exact ⟨by first | rfl | (simp [errW_none, errW_some] <;> rfl) | (simp only [← hji33]; first | rfl | (simp [errW_none, errW_some] <;> rfl)) | (simp [*, errW_none, errW_some] <;> rfl), by repeat (first | (with_reducible first | exact HB.out | apply below_alloc | apply pw_below_drewN | apply below_drew1 | refine below_set ?_ GE246.out) | exact HB.out)⟩
                        ·rw [if_neg c53] at H
                         exact absurd H (by simp)
                       ·rw [if_neg c52] at H
                        have c52b0 : (t248 == 99) = false := beq_eq_false_iff_ne.mpr c52
                        have c52b1 : (t248 != 99) = true := bne_iff_ne.mpr c52
                        by_cases c58 : 1 ≤ (x0_39.size : Int)
                        ·rw [if_pos c58] at H
                         have c58b0 := eq_true c58
                         have c58b1 : decide (1 ≤ (x0_39.size : Int)) = true := decide_eq_true c58
                         clear c58
                         replace H := Option.bind_eq_some_iff.mp H
                         obtain ⟨⟨t253, t254, t255, t256⟩, A590, H⟩ := H
                         replace H : (some (t253, t254, t255, t256)) = some (r1, r2, r3, r4) := H
                         have A59 := Aside0.mk A590
                         clear A590
                         simp only [Option.some.injEq, Prod.mk.injEq] at H
                         obtain ⟨rfl, rfl, rfl, rfl⟩ := H
                         go_wp2_with (first | ((with_reducible refine gate_dst (N := 80) rfl ?_); refine wpList_mapLit (H := Unit) 107 5 3 .u8 .i64 lawU8 Try.underlying107 Try.underlying5 Try.underlying3 rfl rfl 80 rfl (fun _ => rfl) [(98, 1), (111, 3), (104, 4), (100, 99)] (by decide) (by decide) [_, _, _, _] rfl ?_; intro w60 hown_ hb; have hOWN := Aside0.mk hown_; clear hown_; have n0_ := Aside0.mk (blk_below (g := gb246) (o := .cells #[.int .i64 0, .int .u64 0, .int .u64 0] 24 (0, 0)) (by (with_reducible repeat (first | refine blk_drewN ?_ _ | refine blk_drew ?_ | refine blk_alloc ?_ _)); exact BK246.out) hb); have n1_ := Aside0.mk (below_step (by repeat (first | (with_reducible first | exact HB.out | apply below_alloc | apply pw_below_drewN | apply below_drew1 | refine below_set ?_ GE246.out) | exact HB.out)) hb); clear BK246; clear HB; have BK246 := n0_; have HB := n1_; clear n0_ n1_; (try clear hb); (try clear hb2); (try clear hk); (try clear hi); have p47 : 0 ≤ (0 : Int) := (by omega); have q47 : 0 < x0_39.size := (by have : (0 : Int) < (x0_39.size : Int) := of_decide_eq_true (by first | (with_reducible assumption) | assumption); omega); have hx47 : ∀ h : 0 < x0_39.size, ((x0_39[0]'h).toNat : Int) = bt x0_39 0 := bt_at x0_39 0; clear p47; have qi47 : (0 < (x0_39.size : Int)) = True := eq_true (of_decide_eq_true (by first | (with_reducible assumption) | assumption)); replace q47 := eq_true q47) | ((with_reducible refine gate_dst (N := 84) rfl ?_); refine wpList_lookup_own_int _ rfl _ _ 107 rfl 5 3 .i64 lawU8 Try.underlying107 Try.underlying3 (zeroI64 _) _ _ _ rfl (by first | exact hOWN.out | exact ownsMap_drewN hOWN.out _) (.int .u8 (bt x0_39 0)) _ rfl (Go.Maps.keyOf_int_mk Try.underlying5 (sizeT_wf A48.out)) ?_; intro cq hat hwc; obtain rfl : t248 = cq := (sizeT_eq A48.out hat).symm; clear hat hwc; (try (rw [drewN_self w60]; generalize hq_ : World.drewN w60 _ = w60; have n0_ : Aside0 (w60.heap[gb246]? = some (.cells #[.int .i64 0, .int .u64 0, .int .u64 0] 24 (0, 0))) := ⟨by rw [← hq_]; exact (by (with_reducible repeat (first | refine blk_drewN ?_ _ | refine blk_drew ?_ | refine blk_alloc ?_ _)); exact BK246.out)⟩; have n1_ : Aside0 (Below w.heap.size w w60) := ⟨by rw [← hq_]; exact (by repeat (first | (with_reducible first | exact HB.out | apply below_alloc | apply pw_below_drewN | apply below_drew1 | refine below_set ?_ GE246.out) | exact HB.out))⟩; clear BK246 HB hq_; have BK246 := n0_; have HB := n1_; clear n0_ n1_))) | ((with_reducible refine gate_callee (f := 93) rfl ?_); refine goesL_ (some 100) rfl rfl Try.func93 (by kernel_rfl) rfl #[.string (x0_39.extract 1 x0_39.size), .int .i64 x5_4, .int .i64 t248] rfl (by (try simp only [List.map_toArray, List.map_cons, List.map_nil]); first | done | rfl | (simp only [List.length_drop, List.length_take]; rfl)) ?_; (with_reducible refine (maskref1_readDigits.calls kj39 (x0_39.extract 1 x0_39.size) x5_4 t248 t253 t254 t255 t256 _ A59.out).mono ?_); rintro e w61 ⟨rfl, hb⟩; refine ⟨_, rfl, ?_⟩; have n0_ := Aside0.mk (blk_below (g := gb246) (o := .cells #[.int .i64 0, .int .u64 0, .int .u64 0] 24 (0, 0)) (by (with_reducible repeat (first | refine blk_drewN ?_ _ | refine blk_drew ?_ | refine blk_alloc ?_ _)); exact BK246.out) hb); have n1_ := Aside0.mk (below_step (by repeat (first | (with_reducible first | exact HB.out | apply below_alloc | apply pw_below_drewN | apply below_drew1 | refine below_set ?_ GE246.out) | exact HB.out)) hb); clear BK246; clear HB; have BK246 := n0_; have HB := n1_; clear n0_ n1_; (try clear hb); (try clear hb2); (try clear hk); (try clear hi); have hcz62_0 : w61.cell? ⟨gb246, 0, none⟩ = some (.int .i64 0) := (blk_cell BK246.out 0).trans rfl; have hcz62_1 : w61.cell? ⟨gb246, 1, none⟩ = some (.int .u64 0) := (blk_cell BK246.out 1).trans rfl; have hcz62_2 : w61.cell? ⟨gb246, 2, none⟩ = some (.int .u64 0) := (blk_cell BK246.out 2).trans rfl; have hfz62_0 := blk_frozen BK246.out 0; have hfz62_1 := blk_frozen BK246.out 1; have hfz62_2 := blk_frozen BK246.out 2))
                         refine bodyPost_ret (results_ct rfl _ _ gb246 24 #[.int .i64 t253, .int .u64 t254, .int .u64 t255] (0, 0) _ rfl (by (with_reducible repeat (first | refine blk_drewN ?_ _ | refine blk_drew ?_ | refine blk_alloc ?_ _)); refine blk_put (cs := #[.int .i64 t253, .int .u64 t254, .int .u64 0]) ?_ 2 _ rfl; (with_reducible repeat (first | refine blk_drewN ?_ _ | refine blk_drew ?_ | refine blk_alloc ?_ _)); refine blk_put (cs := #[.int .i64 t253, .int .u64 0, .int .u64 0]) ?_ 1 _ rfl; (with_reducible repeat (first | refine blk_drewN ?_ _ | refine blk_drew ?_ | refine blk_alloc ?_ _)); refine blk_put (cs := #[.int .i64 0, .int .u64 0, .int .u64 0]) ?_ 0 _ rfl; (with_reducible repeat (first | refine blk_drewN ?_ _ | refine blk_drew ?_ | refine blk_alloc ?_ _)); exact BK246.out) Try.underlying24 rfl (by kernel_rfl)) rfl ?_
                         exact ⟨by first | rfl | (simp [errW_none, errW_some] <;> rfl) | (simp only [← hji33]; first | rfl | (simp [errW_none, errW_some] <;> rfl)) | (simp [*, errW_none, errW_some] <;> rfl), by repeat (first | (with_reducible first | exact HB.out | apply below_alloc | apply pw_below_drewN | apply below_drew1 | refine below_set ?_ GE246.out) | exact HB.out)⟩
                        ·rw [if_neg c58] at H
                         exact absurd H (by simp)
                     ·rw [if_neg c46] at H
                      exact absurd H (by simp)
               ·rw [if_neg c35] at H
                exact absurd H (by simp)
              ·rw [if_neg c34] at H
               exact absurd H (by simp)
          ·rw [if_neg c22] at H
           exact absurd H (by simp)
         ·rw [if_neg c21] at H
          exact absurd H (by simp)
end Go.Proofs.Ytlamgdibnnmbmaa.PLex
end
section
namespace Go.Proofs.Ytlamgdibnnmbmaa.PLex
open Go.RowKit Go.Proofs.YtlamgdibnnmbmaaW.PrintWords Go.Proofs.YtlamgdibnnmbmaaW.PrintLast Go.Proofs.YtlamgdibnnmbmaaW.PrintMore
attribute [local go_sem] max2_int min2_int max_two min_two max_three min_three max_four min_four
set_option linter.unusedVariables false
set_option linter.unusedSimpArgs false
mutual
def maskref1_numberToken.j0 : Nat → ByteArray → Int → Bool → Option (Int × Int × Int × ByteArray × Bool × Int × Int × Int × Bool × Int × Int)
 | 0, _, _, _ => none
 | k + 1, x0, x5, x25 => if x25 = true then (if 0 ≤ (wrap64 (x5 + 1)) then (if (wrap64 (x5 + 1)) ≤ (x0.size : Int) then ((maskref1_run__isWord.f k (x0.extract ((wrap64 (x5 + 1)) : Int).toNat x0.size)).bind fun t218 => (if 0 ≤ (wrap64 ((wrap64 (x5 + 1)) + t218)) then (if (wrap64 ((wrap64 (x5 + 1)) + t218)) ≤ (x0.size : Int) then ((maskref1_ReadBits.f k (x0.extract 0 ((wrap64 ((wrap64 (x5 + 1)) + t218)) : Int).toNat)).bind fun bt219 => (if (wrap64 ((wrap64 (x5 + 1)) + t218)) > (wrap64 (x5 + 1)) then (if (wrap64 (x5 + 1)) < (x0.size : Int) then (some (3, 0, 0, (⟨#[]⟩ : ByteArray), false, bt219.1, bt219.2.1, bt219.2.2.1, ((bt x0 (wrap64 (x5 + 1))) == 115), wrap64 ((wrap64 (x5 + 1)) + t218), bt219.2.2.2)) else (none)) else (some (3, 0, 0, (⟨#[]⟩ : ByteArray), false, bt219.1, bt219.2.1, bt219.2.2.1, false, wrap64 ((wrap64 (x5 + 1)) + t218), bt219.2.2.2)))) else (none)) else (none))) else (none)) else (none)) else ((maskref1_run__isWord.f k x0).bind fun t224 => (if t224 > x5 then (maskref1_numberToken.j1 k x0 x5 true) else (if x5 > 1 then (if 0 < (x0.size : Int) then (maskref1_numberToken.j1 k x0 x5 ((bt x0 0) == 48)) else (none)) else (maskref1_numberToken.j1 k x0 x5 false))))
def maskref1_numberToken.j1 : Nat → ByteArray → Int → Bool → Option (Int × Int × Int × ByteArray × Bool × Int × Int × Int × Bool × Int × Int)
 | 0, _, _, _ => none
 | k + 1, x0, x5, x68 => if x68 = true then (some (0, 0, 0, (⟨#[]⟩ : ByteArray), false, 0, 0, 0, false, 0, 10)) else (maskref1_numberToken.l0 k x0 x5 0 true x5 0)
def maskref1_numberToken.j3 : Nat → Int → Int → Bool → Option (Int × Int × Int × ByteArray × Bool × Int × Int × Int × Bool × Int × Int)
 | 0, _, _, _ => none
 | k + 1, x5, x9, x10 => if x10 = true then (maskref1_numberToken.l1 k x5 x9 ([] : List Int) 0) else (some (0, 0, 0, (⟨#[]⟩ : ByteArray), false, 0, 0, 0, false, 0, 3))
def maskref1_numberToken.l1 : Nat → Int → Int → List Int → Int → Option (Int × Int × Int × ByteArray × Bool × Int × Int × Int × Bool × Int × Int)
 | 0, _, _, _, _ => none
 | k + 1, x5, x9, x12, x88 => if x88 < 32 then (if 0 ≤ x88 then (if x12.length < 140737488355328 then (maskref1_numberToken.l1 k x5 x9 (x12 ++ [(wrap64 (48 + (Go.bits .and .i64 (shr .i64 x9 x88) 1))) % 256]) (wrap64 (x88 + 1))) else (none)) else (none)) else ((maskref1_B.f k x12).bind fun bt228 => (some (3, 0, 0, (⟨#[]⟩ : ByteArray), false, bt228.1, bt228.2.1, bt228.2.2, true, x5, 0)))
def maskref1_numberToken.l0 : Nat → ByteArray → Int → Int → Bool → Int → Int → Option (Int × Int × Int × ByteArray × Bool × Int × Int × Int × Bool × Int × Int)
 | 0, _, _, _, _, _, _ => none
 | k + 1, x0, x5, x9, x10, x70, x71 => if x71 < x70 then (if 0 ≤ x71 then (if x71 < (x0.size : Int) then (if (wrap64 ((wrap64 (10 * x9)) + (((bt x0 x71) - 48) % 256))) > 2147483647 then (maskref1_numberToken.j3 k x5 0 false) else (maskref1_numberToken.l0 k x0 x5 (wrap64 ((wrap64 (10 * x9)) + (((bt x0 x71) - 48) % 256))) x10 x70 (wrap64 (x71 + 1)))) else (none)) else (none)) else (maskref1_numberToken.j3 k x5 x9 x10)
end
def maskref1_numberToken.f (k : Nat) (a0 : ByteArray) : Option (Int × Int × Int × ByteArray × Bool × Int × Int × Int × Bool × Int × Int) := (maskref1_run__numberToken_1.f k a0).bind fun t217 => (if t217 < (a0.size : Int) then (if 0 ≤ t217 then (maskref1_numberToken.j0 k a0 t217 ((bt a0 t217) == 39)) else (none)) else (maskref1_numberToken.j0 k a0 t217 false))
def maskref1_numberToken.T5 : Bool × List (List Nat × List Nat) := (true, [([], []), ([], []), ([], []), ([2], [2]), ([1, 3], [1, 3]), ([4], [4]), ([5], [5]), ([5], [5]), ([7, 5], [5, 7]), ([6, 8, 5], [5, 6, 8]), ([9, 5], [5, 9]), ([5, 10], [5, 10]), ([0, 11], [0, 11]), ([], []), ([], []), ([12, 5, 0, 1, 2, 3, 4, 5, 6, 7, 8, 9, 10, 11, 12], [12]), ([13, 15, 0, 1, 2, 3, 4, 5, 6, 7, 8, 9, 10, 11, 12, 13, 15], [13]), ([14, 16, 0, 1, 2, 3, 4, 5, 6, 7, 8, 9, 10, 11, 12, 13, 14, 15, 16], [14])])
def maskref1_numberToken.B5 : List Nat := [0, 0, 0, 4, 14, 30, 62, 62, 190, 510, 1022, 2046, 4095, 0, 0, 8191, 49151, 131071]
theorem maskref1_numberToken.tab5 : rtab .any (opsOf Try.f58 5) = maskref1_numberToken.T5 := by kernel_rfl
theorem maskref1_numberToken.bits5 : waitsOk maskref1_numberToken.T5.2 maskref1_numberToken.B5 = true := by kernel_rfl
set_option maxHeartbeats 8000000 in
set_option maxRecDepth 100000 in
theorem maskref1_numberToken.calls (k : Nat) (a0 : ByteArray) (r1 : Int) (r2 : Int) (r3 : Int) (r4 : ByteArray) (r5 : Bool) (r6 : Int) (r7 : Int) (r8 : Int) (r9 : Bool) (r10 : Int) (r11 : Int) (w : World) (h : maskref1_numberToken.f k a0 = some (r1, r2, r3, r4, r5, r6, r7, r8, r9, r10, r11)) :
  Calls Try.prog 58 #[.string a0] w fun e w' => e = .returned (.tuple #[.agg #[.int .i64 r1, .int .i64 r2, .int .i64 r3, .string r4, .bool r5, .int .i64 r6, .int .u64 r7, .int .u64 r8, .bool r9], .int .i64 r10, .int .i64 r11]) ∧ Below w.heap.size w w' := by
 have hu51 := Try.underlying51
 have hu24 := Try.underlying24
 have HB := Aside0.mk (Below.refl w.heap.size w)
 have H := h
 clear h
 unfold maskref1_numberToken.f at H
 replace H := bN H; obtain ⟨t217, A2, H⟩ := H
 have HC3 := Aside0.mk H
 clear H
 go_enter Try.func58, Try.ntmps58
 go_upto_region 2 with (first | (refine boxA HB 2 #[.int .i64 0, .int .i64 0, .int .i64 0, .string (⟨#[]⟩ : ByteArray), .bool false, .int .i64 0, .int .u64 0, .int .u64 0, .bool false] 51 ?_; clear HB; intro gb216 w4 BK216 GE216 hg hb HB; clear hb hg) | (refine callA (some 15) Try.func53 #[.string a0, (.func (.func 77) #[] #[])] ?_; (with_reducible refine (maskref1_run__numberToken_1.calls k a0  t217 _ A2.out).mono ?_); rintro e w5 ⟨rfl, hb⟩; replace hb := Drawn0.below hb; refine ⟨_, rfl, ?_⟩; replace BK216 := bk1 BK216 hb; replace HB := hb1 HB hb; (try clear hb)))
 go_cut [25] (fun v25 wc => ∃ (kq : Nat) (x25_2 : Bool), v25 = .bool x25_2 ∧ Aside0 (maskref1_numberToken.j0 kq a0 t217 x25_2 = some (r1, r2, r3, r4, r5, r6, r7, r8, r9, r10, r11)) ∧ Aside0 (kq ≤ k) ∧ Aside0 (wc.heap[gb216]? = some (.cells #[.int .i64 0, .int .i64 0, .int .i64 0, .string (⟨#[]⟩ : ByteArray), .bool false, .int .i64 0, .int .u64 0, .int .u64 0, .bool false] 51 (0, 0))) ∧ Aside0 (Below w.heap.size w wc))
 case first =>
  have H := HC3.out
  clear HC3
  replace H := iD H; rcases H with ⟨c6b0, H⟩ | ⟨c6b0, H⟩
  ·(skip)
   replace H := iN H; obtain ⟨c7b0, H⟩ := H
   have H' := Aside0.mk H
   clear H
   have p8 : 0 ≤ (t217 : Int) := of_decide_eq_true (by (with_reducible assumption))
   have q8 : t217 < (a0.size : Int) := of_decide_eq_true (by (with_reducible assumption))
   have hx8 := bt_at a0 t217
   replace p8 := eq_true p8
   replace q8 := eq_true q8
   go_wp2
   go_meet
   case rel => exact ⟨_, ((bt a0 t217) == 39), (by rfl), H', ⟨by omega⟩, ⟨by exact BK216.out⟩, ⟨by repeat (with_reducible exact HB.out)⟩⟩
  ·(skip)
   have H' := Aside0.mk H
   clear H
   go_wp2
   go_meet
   case rel => exact ⟨_, (false), (by rfl), H', ⟨by omega⟩, ⟨by exact BK216.out⟩, ⟨by repeat (with_reducible exact HB.out)⟩⟩
 case rest =>
  clear HC3
  obtain ⟨kq, x25_2, rfl, HA, HJ2, BK216, HB⟩ := hcut
  cases kq with
  | zero => exact absurd HA.out (by simp [maskref1_numberToken.j0])
  | succ kj2 =>
   have H := HA.out
   clear HA
   simp only [maskref1_numberToken.j0] at H
   replace H := iB H; rcases H with ⟨rfl, H⟩ | ⟨rfl, H⟩
   ·obtain ⟨ji10, hji10⟩ : ∃ j_ : Int, (wrap64 (t217 + 1)) = j_ := ⟨_, rfl⟩
    replace H : (if 0 ≤ (ji10) then (if (ji10) ≤ (a0.size : Int) then ((maskref1_run__isWord.f kj2 (a0.extract ((ji10) : Int).toNat a0.size)).bind fun t218 => (if 0 ≤ (wrap64 ((ji10) + t218)) then (if (wrap64 ((ji10) + t218)) ≤ (a0.size : Int) then ((maskref1_ReadBits.f kj2 (a0.extract 0 ((wrap64 ((ji10) + t218)) : Int).toNat)).bind fun bt219 => (if (wrap64 ((ji10) + t218)) > (ji10) then (if (ji10) < (a0.size : Int) then (some (3, 0, 0, (⟨#[]⟩ : ByteArray), false, bt219.1, bt219.2.1, bt219.2.2.1, ((bt a0 (ji10)) == 115), wrap64 ((ji10) + t218), bt219.2.2.2)) else (none)) else (some (3, 0, 0, (⟨#[]⟩ : ByteArray), false, bt219.1, bt219.2.1, bt219.2.2.1, false, wrap64 ((ji10) + t218), bt219.2.2.2)))) else (none)) else (none))) else (none)) else (none)) = some (r1, r2, r3, r4, r5, r6, r7, r8, r9, r10, r11) := by (rw [hji10] at H; exact H)
    have hji10w : (IntKind.i64.wrap (t217 + 1)) = ji10 := (i64_w _).trans hji10
    by_cases c11 : 0 ≤ (ji10)
    ·rw [if_pos c11] at H
     have c11b0 := eq_true c11
     have c11b1 : decide (0 ≤ (ji10)) = true := decide_eq_true c11
     clear c11
     by_cases c12 : (ji10) ≤ (a0.size : Int)
     ·rw [if_pos c12] at H
      have c12b0 := eq_true c12
      have c12b1 : decide ((ji10) ≤ (a0.size : Int)) = true := decide_eq_true c12
      clear c12
      replace H := bN H; obtain ⟨t218, A13, H⟩ := H
      obtain ⟨ji14, hji14⟩ : ∃ j_ : Int, (wrap64 ((ji10) + t218)) = j_ := ⟨_, rfl⟩
      replace H : (if 0 ≤ (ji14) then (if (ji14) ≤ (a0.size : Int) then ((maskref1_ReadBits.f kj2 (a0.extract 0 ((ji14) : Int).toNat)).bind fun bt219 => (if (ji14) > (ji10) then (if (ji10) < (a0.size : Int) then (some (3, 0, 0, (⟨#[]⟩ : ByteArray), false, bt219.1, bt219.2.1, bt219.2.2.1, ((bt a0 (ji10)) == 115), ji14, bt219.2.2.2)) else (none)) else (some (3, 0, 0, (⟨#[]⟩ : ByteArray), false, bt219.1, bt219.2.1, bt219.2.2.1, false, ji14, bt219.2.2.2)))) else (none)) else (none)) = some (r1, r2, r3, r4, r5, r6, r7, r8, r9, r10, r11) := by (rw [hji14] at H; exact H)
      have hji14w : (IntKind.i64.wrap ((ji10) + t218)) = ji14 := (i64_w _).trans hji14
      by_cases c15 : 0 ≤ (ji14)
      ·rw [if_pos c15] at H
       have c15b0 := eq_true c15
       have c15b1 : decide (0 ≤ (ji14)) = true := decide_eq_true c15
       clear c15
       by_cases c16 : (ji14) ≤ (a0.size : Int)
       ·rw [if_pos c16] at H
        have c16b0 := eq_true c16
        have c16b1 : decide ((ji14) ≤ (a0.size : Int)) = true := decide_eq_true c16
        clear c16
        replace H := bN H; obtain ⟨⟨t219, t220, t221, t222⟩, A17, H⟩ := H; dsimp only at H
        replace H := iD H; rcases H with ⟨c18b0, H⟩ | ⟨c18b0, H⟩
        ·replace c18b0 : decide ((ji10) < (ji14)) = true := c18b0
         replace H := iN H; obtain ⟨c19b0, H⟩ := H
         simp only [Option.some.injEq, Prod.mk.injEq] at H
         obtain ⟨rfl, rfl, rfl, rfl, rfl, rfl, rfl, rfl, rfl, rfl, rfl⟩ := H
         try go_wp2_with (first | (refine callA (some 32) Try.func53 #[.string (a0.extract ((ji10) : Int).toNat a0.size), (.func (.func 54) #[] #[])] ?_; (with_reducible refine (maskref1_run__isWord.calls kj2 (a0.extract ((ji10) : Int).toNat a0.size)  t218 _ A13.out).mono ?_); rintro e w21 ⟨rfl, hb⟩; replace hb := Drawn0.below hb; refine ⟨_, rfl, ?_⟩; replace BK216 := bk1 BK216 hb; replace HB := hb1 HB hb; (try clear hb)) | (refine callA (some 38) Try.func78 #[.string (a0.extract 0 ((ji14) : Int).toNat)] ?_; (with_reducible refine (maskref1_ReadBits.calls kj2 (a0.extract 0 ((ji14) : Int).toNat) t219 t220 t221 t222 _ A17.out).mono ?_); rintro e w22 ⟨rfl, hb⟩; refine ⟨_, rfl, ?_⟩; replace BK216 := bk1 BK216 hb; replace HB := hb1 HB hb; (try clear hb)) | (refine boxA HB 7 #[.int .i64 0, .int .u64 0, .int .u64 0] 24 ?_; clear HB; intro gb223 w23 BK223 GE223 hg hb HB; have NB216_223 := Aside0.mk ((by rw [hg]; exact Nat.ne_of_lt (blk_lt (g := gb216) (o := .cells #[.int .i64 0, .int .i64 0, .int .i64 0, .string (⟨#[]⟩ : ByteArray), .bool false, .int .i64 0, .int .u64 0, .int .u64 0, .bool false] 51 (0, 0)) BK216.out) : gb216 ≠ gb223)); have NB223_216 := Aside0.mk ((by rw [hg]; exact Nat.ne_of_gt (blk_lt (g := gb216) (o := .cells #[.int .i64 0, .int .i64 0, .int .i64 0, .string (⟨#[]⟩ : ByteArray), .bool false, .int .i64 0, .int .u64 0, .int .u64 0, .bool false] 51 (0, 0)) BK216.out) : gb223 ≠ gb216)); replace BK216 := bk1 BK216 hb; clear hb hg; have hnb24 := NB223_216.out; have hnc24 := NB216_223.out; obtain ⟨hcz25_0, hcz25_1, hcz25_2, hfz25_0, hfz25_1, hfz25_2⟩ := cf3 BK223))
         have n0_ : Aside0 ((((w23.setCell ⟨gb223, 0, none⟩ (.int .i64 t219)).setCell ⟨gb223, 1, none⟩ (.int .u64 t220)).setCell ⟨gb223, 2, none⟩ (.int .u64 t221)).heap[gb216]? = some (.cells #[.int .i64 0, .int .i64 0, .int .i64 0, .string (⟨#[]⟩ : ByteArray), .bool false, .int .i64 0, .int .u64 0, .int .u64 0, .bool false] 51 (0, 0))) := ⟨by refine blk_far ?_ NB216_223.out _; refine blk_far ?_ NB216_223.out _; refine blk_far ?_ NB216_223.out _; exact BK216.out⟩
         have n1_ : Aside0 ((((w23.setCell ⟨gb223, 0, none⟩ (.int .i64 t219)).setCell ⟨gb223, 1, none⟩ (.int .u64 t220)).setCell ⟨gb223, 2, none⟩ (.int .u64 t221)).heap[gb223]? = some (.cells #[.int .i64 t219, .int .u64 t220, .int .u64 t221] 24 (0, 0))) := ⟨by refine blk_put (cs := #[.int .i64 t219, .int .u64 t220, .int .u64 0]) ?_ 2 _ rfl; refine blk_put (cs := #[.int .i64 t219, .int .u64 0, .int .u64 0]) ?_ 1 _ rfl; refine blk_put (cs := #[.int .i64 0, .int .u64 0, .int .u64 0]) ?_ 0 _ rfl; exact BK223.out⟩
         have n2_ : Aside0 (Below w.heap.size w (((w23.setCell ⟨gb223, 0, none⟩ (.int .i64 t219)).setCell ⟨gb223, 1, none⟩ (.int .u64 t220)).setCell ⟨gb223, 2, none⟩ (.int .u64 t221))) := ⟨by repeat (with_reducible first | exact HB.out | refine below_set ?_ GE223.out)⟩
         (try clear BK216)
         (try clear BK223)
         (try clear HB)
         generalize (((w23.setCell ⟨gb223, 0, none⟩ (.int .i64 t219)).setCell ⟨gb223, 1, none⟩ (.int .u64 t220)).setCell ⟨gb223, 2, none⟩ (.int .u64 t221)) = w26 at n0_ n1_ n2_ ⊢
         have BK216 := n0_
         have BK223 := n1_
         have HB := n2_
         clear n0_ n1_ n2_
         replace BK216 := bkd BK216
         replace BK223 := bkd BK223
         replace HB := hbd HB
         have p20 : 0 ≤ ((ji10) : Int) := of_decide_eq_true (by (with_reducible assumption))
         have q20 : (ji10) < (a0.size : Int) := of_decide_eq_true (by (with_reducible assumption))
         have hx20 := bt_at a0 (ji10)
         replace p20 := eq_true p20
         replace q20 := eq_true q20
         refine start_ (n := 18) (S := fun w' => w'.cell? ⟨gb223, 0, none⟩ = some (.int .i64 t219) ∧ w'.cell? ⟨gb223, 1, none⟩ = some (.int .u64 t220) ∧ w'.cell? ⟨gb223, 2, none⟩ = some (.int .u64 t221)) (ds := []) (tb 18 0) (by kernel_rfl) rfl (by kernel_rfl) (d3 BK223) (fun hHeld => ?_); refine with_tabW maskref1_numberToken.tab5 maskref1_numberToken.bits5 (fun HT_ HW_ => ?_)
         generalize w26.drew = w27 at BK216 BK223 HB hHeld ⊢
         refine pA 1 42 (tb 18 2) HT_ ?_
         refine pA 2 43 (tb 18 6) HT_ ?_
         refine pA 3 44 (tb 18 14) HT_ ?_
         refine pA 4 45 (tb 18 30) HT_ ?_
         refine pA 5 46 (tb 18 62) HT_ ?_
         refine pA 6 47 (tb 18 126) HT_ ?_
         refine pA 7 48 (tb 18 254) HT_ ?_
         refine pA 8 49 (tb 18 510) HT_ ?_
         refine pA 13 54 (tb 18 8702) HT_ ?_
         refine pA 14 55 (tb 18 25086) HT_ ?_
         refine tA 0 41 (tb 18 25087) HT_ HW_ hHeld ?_
         refine tA 9 50 (tb 18 25599) HT_ HW_ hHeld ?_
         refine pA 10 51 (tb 18 26623) HT_ ?_
         refine pA 11 52 (tb 18 28671) HT_ ?_
         refine pA 12 53 (tb 18 32767) HT_ ?_
         refine oA 15 (none) (tb 18 65535) HT_ (fun K hK => ?_)
         have hs28 : w27.cell? ⟨gb216, 0, none⟩ = some (.int .i64 0) := (blk_cell BK216.out 0).trans rfl
         have hfs28 := blk_frozen BK216.out 0
         have hns28_1 := NB223_216.out
         have hms28_1 := NB216_223.out
         have hs29 : w27.cell? ⟨gb216, 1, none⟩ = some (.int .i64 0) := (blk_cell BK216.out 1).trans rfl
         have hfs29 := blk_frozen BK216.out 1
         have hns29_1 := NB223_216.out
         have hms29_1 := NB216_223.out
         have hs30 : w27.cell? ⟨gb216, 2, none⟩ = some (.int .i64 0) := (blk_cell BK216.out 2).trans rfl
         have hfs30 := blk_frozen BK216.out 2
         have hns30_1 := NB223_216.out
         have hms30_1 := NB216_223.out
         have hs31 : w27.cell? ⟨gb216, 3, none⟩ = some (.string (⟨#[]⟩ : ByteArray)) := (blk_cell BK216.out 3).trans rfl
         have hfs31 := blk_frozen BK216.out 3
         have hns31_1 := NB223_216.out
         have hms31_1 := NB216_223.out
         have hs32 : w27.cell? ⟨gb216, 4, none⟩ = some (.bool false) := (blk_cell BK216.out 4).trans rfl
         have hfs32 := blk_frozen BK216.out 4
         have hns32_1 := NB223_216.out
         have hms32_1 := NB216_223.out
         have hs33 : w27.cell? ⟨gb216, 5, none⟩ = some (.int .i64 0) := (blk_cell BK216.out 5).trans rfl
         have hfs33 := blk_frozen BK216.out 5
         have hns33_1 := NB223_216.out
         have hms33_1 := NB216_223.out
         have hs34 : w27.cell? ⟨gb216, 6, none⟩ = some (.int .u64 0) := (blk_cell BK216.out 6).trans rfl
         have hfs34 := blk_frozen BK216.out 6
         have hns34_1 := NB223_216.out
         have hms34_1 := NB216_223.out
         have hs35 : w27.cell? ⟨gb216, 7, none⟩ = some (.int .u64 0) := (blk_cell BK216.out 7).trans rfl
         have hfs35 := blk_frozen BK216.out 7
         have hns35_1 := NB223_216.out
         have hms35_1 := NB216_223.out
         have hs36 : w27.cell? ⟨gb216, 8, none⟩ = some (.bool false) := (blk_cell BK216.out 8).trans rfl
         have hfs36 := blk_frozen BK216.out 8
         have hns36_1 := NB223_216.out
         have hms36_1 := NB216_223.out
         refine skip_ (w1 := ?_) (by rfl) rfl ?_ ?_
         rotate_left
         ·go_simp
          rfl
         refine hK.out _ _ ⟨((cell_far (p := ⟨gb216, _, none⟩) NB223_216.out _).trans (((cell_far (p := ⟨gb216, _, none⟩) NB223_216.out _).trans (((cell_far (p := ⟨gb216, _, none⟩) NB223_216.out _).trans (((cell_far (p := ⟨gb216, _, none⟩) NB223_216.out _).trans (((cell_far (p := ⟨gb216, _, none⟩) NB223_216.out _).trans (((cell_far (p := ⟨gb216, _, none⟩) NB223_216.out _).trans (((cell_far (p := ⟨gb216, _, none⟩) NB223_216.out _).trans (((cell_far (p := ⟨gb216, _, none⟩) NB223_216.out _).trans (((cell_far (p := ⟨gb216, _, none⟩) NB223_216.out _).trans (hHeld.1)))))))))))))))))), ((cell_far (p := ⟨gb216, _, none⟩) NB223_216.out _).trans (((cell_far (p := ⟨gb216, _, none⟩) NB223_216.out _).trans (((cell_far (p := ⟨gb216, _, none⟩) NB223_216.out _).trans (((cell_far (p := ⟨gb216, _, none⟩) NB223_216.out _).trans (((cell_far (p := ⟨gb216, _, none⟩) NB223_216.out _).trans (((cell_far (p := ⟨gb216, _, none⟩) NB223_216.out _).trans (((cell_far (p := ⟨gb216, _, none⟩) NB223_216.out _).trans (((cell_far (p := ⟨gb216, _, none⟩) NB223_216.out _).trans (((cell_far (p := ⟨gb216, _, none⟩) NB223_216.out _).trans (hHeld.2.1)))))))))))))))))), ((cell_far (p := ⟨gb216, _, none⟩) NB223_216.out _).trans (((cell_far (p := ⟨gb216, _, none⟩) NB223_216.out _).trans (((cell_far (p := ⟨gb216, _, none⟩) NB223_216.out _).trans (((cell_far (p := ⟨gb216, _, none⟩) NB223_216.out _).trans (((cell_far (p := ⟨gb216, _, none⟩) NB223_216.out _).trans (((cell_far (p := ⟨gb216, _, none⟩) NB223_216.out _).trans (((cell_far (p := ⟨gb216, _, none⟩) NB223_216.out _).trans (((cell_far (p := ⟨gb216, _, none⟩) NB223_216.out _).trans (((cell_far (p := ⟨gb216, _, none⟩) NB223_216.out _).trans (hHeld.2.2))))))))))))))))))⟩ (fun hHeld => ?_)
         clear hK K
         refine pA 16 3 (tb 18 131071) HT_ ?_
         refine pA 17 4 (tb 18 262143) HT_ ?_
         refine done_ (done_of HT_.out (by kernel_rfl)) ?_
         try go_wp2
         refine bodyPost_ret (results_ctt rfl _ _ gb216 51 #[.int .i64 3, .int .i64 0, .int .i64 0, .string (⟨#[]⟩ : ByteArray), .bool false, .int .i64 t219, .int .u64 t220, .int .u64 t221, .bool ((bt a0 (ji10)) == 115)] (0, 0) _ rfl (by refine blk_put (cs := #[.int .i64 3, .int .i64 0, .int .i64 0, .string (⟨#[]⟩ : ByteArray), .bool false, .int .i64 t219, .int .u64 t220, .int .u64 t221, .bool false]) ?_ 8 _ rfl; refine blk_put (cs := #[.int .i64 3, .int .i64 0, .int .i64 0, .string (⟨#[]⟩ : ByteArray), .bool false, .int .i64 t219, .int .u64 t220, .int .u64 0, .bool false]) ?_ 7 _ rfl; refine blk_put (cs := #[.int .i64 3, .int .i64 0, .int .i64 0, .string (⟨#[]⟩ : ByteArray), .bool false, .int .i64 t219, .int .u64 0, .int .u64 0, .bool false]) ?_ 6 _ rfl; refine blk_put (cs := #[.int .i64 3, .int .i64 0, .int .i64 0, .string (⟨#[]⟩ : ByteArray), .bool false, .int .i64 0, .int .u64 0, .int .u64 0, .bool false]) ?_ 5 _ rfl; refine blk_put (cs := #[.int .i64 3, .int .i64 0, .int .i64 0, .string (⟨#[]⟩ : ByteArray), .bool false, .int .i64 0, .int .u64 0, .int .u64 0, .bool false]) ?_ 4 _ rfl; refine blk_put (cs := #[.int .i64 3, .int .i64 0, .int .i64 0, .string (⟨#[]⟩ : ByteArray), .bool false, .int .i64 0, .int .u64 0, .int .u64 0, .bool false]) ?_ 3 _ rfl; refine blk_put (cs := #[.int .i64 3, .int .i64 0, .int .i64 0, .string (⟨#[]⟩ : ByteArray), .bool false, .int .i64 0, .int .u64 0, .int .u64 0, .bool false]) ?_ 2 _ rfl; refine blk_put (cs := #[.int .i64 3, .int .i64 0, .int .i64 0, .string (⟨#[]⟩ : ByteArray), .bool false, .int .i64 0, .int .u64 0, .int .u64 0, .bool false]) ?_ 1 _ rfl; refine blk_put (cs := #[.int .i64 0, .int .i64 0, .int .i64 0, .string (⟨#[]⟩ : ByteArray), .bool false, .int .i64 0, .int .u64 0, .int .u64 0, .bool false]) ?_ 0 _ rfl; exact BK216.out) Try.underlying51 rfl (by kernel_rfl)) rfl ?_
         exact ⟨by rfl, by repeat (with_reducible first | exact HB.out | refine below_set ?_ GE216.out)⟩
        ·replace c18b0 : decide ((ji10) < (ji14)) = false := c18b0
         simp only [Option.some.injEq, Prod.mk.injEq] at H
         obtain ⟨rfl, rfl, rfl, rfl, rfl, rfl, rfl, rfl, rfl, rfl, rfl⟩ := H
         try go_wp2_with (first | (refine callA (some 32) Try.func53 #[.string (a0.extract ((ji10) : Int).toNat a0.size), (.func (.func 54) #[] #[])] ?_; (with_reducible refine (maskref1_run__isWord.calls kj2 (a0.extract ((ji10) : Int).toNat a0.size)  t218 _ A13.out).mono ?_); rintro e w37 ⟨rfl, hb⟩; replace hb := Drawn0.below hb; refine ⟨_, rfl, ?_⟩; replace BK216 := bk1 BK216 hb; replace HB := hb1 HB hb; (try clear hb)) | (refine callA (some 38) Try.func78 #[.string (a0.extract 0 ((ji14) : Int).toNat)] ?_; (with_reducible refine (maskref1_ReadBits.calls kj2 (a0.extract 0 ((ji14) : Int).toNat) t219 t220 t221 t222 _ A17.out).mono ?_); rintro e w38 ⟨rfl, hb⟩; refine ⟨_, rfl, ?_⟩; replace BK216 := bk1 BK216 hb; replace HB := hb1 HB hb; (try clear hb)) | (refine boxA HB 7 #[.int .i64 0, .int .u64 0, .int .u64 0] 24 ?_; clear HB; intro gb223 w39 BK223 GE223 hg hb HB; have NB216_223 := Aside0.mk ((by rw [hg]; exact Nat.ne_of_lt (blk_lt (g := gb216) (o := .cells #[.int .i64 0, .int .i64 0, .int .i64 0, .string (⟨#[]⟩ : ByteArray), .bool false, .int .i64 0, .int .u64 0, .int .u64 0, .bool false] 51 (0, 0)) BK216.out) : gb216 ≠ gb223)); have NB223_216 := Aside0.mk ((by rw [hg]; exact Nat.ne_of_gt (blk_lt (g := gb216) (o := .cells #[.int .i64 0, .int .i64 0, .int .i64 0, .string (⟨#[]⟩ : ByteArray), .bool false, .int .i64 0, .int .u64 0, .int .u64 0, .bool false] 51 (0, 0)) BK216.out) : gb223 ≠ gb216)); replace BK216 := bk1 BK216 hb; clear hb hg; have hnb40 := NB223_216.out; have hnc40 := NB216_223.out; obtain ⟨hcz41_0, hcz41_1, hcz41_2, hfz41_0, hfz41_1, hfz41_2⟩ := cf3 BK223))
         have n0_ : Aside0 ((((w39.setCell ⟨gb223, 0, none⟩ (.int .i64 t219)).setCell ⟨gb223, 1, none⟩ (.int .u64 t220)).setCell ⟨gb223, 2, none⟩ (.int .u64 t221)).heap[gb216]? = some (.cells #[.int .i64 0, .int .i64 0, .int .i64 0, .string (⟨#[]⟩ : ByteArray), .bool false, .int .i64 0, .int .u64 0, .int .u64 0, .bool false] 51 (0, 0))) := ⟨by refine blk_far ?_ NB216_223.out _; refine blk_far ?_ NB216_223.out _; refine blk_far ?_ NB216_223.out _; exact BK216.out⟩
         have n1_ : Aside0 ((((w39.setCell ⟨gb223, 0, none⟩ (.int .i64 t219)).setCell ⟨gb223, 1, none⟩ (.int .u64 t220)).setCell ⟨gb223, 2, none⟩ (.int .u64 t221)).heap[gb223]? = some (.cells #[.int .i64 t219, .int .u64 t220, .int .u64 t221] 24 (0, 0))) := ⟨by refine blk_put (cs := #[.int .i64 t219, .int .u64 t220, .int .u64 0]) ?_ 2 _ rfl; refine blk_put (cs := #[.int .i64 t219, .int .u64 0, .int .u64 0]) ?_ 1 _ rfl; refine blk_put (cs := #[.int .i64 0, .int .u64 0, .int .u64 0]) ?_ 0 _ rfl; exact BK223.out⟩
         have n2_ : Aside0 (Below w.heap.size w (((w39.setCell ⟨gb223, 0, none⟩ (.int .i64 t219)).setCell ⟨gb223, 1, none⟩ (.int .u64 t220)).setCell ⟨gb223, 2, none⟩ (.int .u64 t221))) := ⟨by repeat (with_reducible first | exact HB.out | refine below_set ?_ GE223.out)⟩
         (try clear BK216)
         (try clear BK223)
         (try clear HB)
         generalize (((w39.setCell ⟨gb223, 0, none⟩ (.int .i64 t219)).setCell ⟨gb223, 1, none⟩ (.int .u64 t220)).setCell ⟨gb223, 2, none⟩ (.int .u64 t221)) = w42 at n0_ n1_ n2_ ⊢
         have BK216 := n0_
         have BK223 := n1_
         have HB := n2_
         clear n0_ n1_ n2_
         replace BK216 := bkd BK216
         replace BK223 := bkd BK223
         replace HB := hbd HB
         refine start_ (n := 18) (S := fun w' => w'.cell? ⟨gb223, 0, none⟩ = some (.int .i64 t219) ∧ w'.cell? ⟨gb223, 1, none⟩ = some (.int .u64 t220) ∧ w'.cell? ⟨gb223, 2, none⟩ = some (.int .u64 t221)) (ds := []) (tb 18 0) (by kernel_rfl) rfl (by kernel_rfl) (d3 BK223) (fun hHeld => ?_); refine with_tabW maskref1_numberToken.tab5 maskref1_numberToken.bits5 (fun HT_ HW_ => ?_)
         generalize w42.drew = w43 at BK216 BK223 HB hHeld ⊢
         refine pA 1 42 (tb 18 2) HT_ ?_
         refine pA 2 43 (tb 18 6) HT_ ?_
         refine pA 3 44 (tb 18 14) HT_ ?_
         refine pA 4 45 (tb 18 30) HT_ ?_
         refine pA 5 46 (tb 18 62) HT_ ?_
         refine pU 6 47 (tb 18 126) HT_ ?_
         refine pU 7 48 (tb 18 254) HT_ ?_
         refine pU 8 49 (tb 18 510) HT_ ?_
         refine pU 9 50 (tb 18 1022) HT_ ?_
         refine pU 10 51 (tb 18 2046) HT_ ?_
         refine pA 11 52 (tb 18 4094) HT_ ?_
         refine pA 13 54 (tb 18 12286) HT_ ?_
         refine pA 14 55 (tb 18 28670) HT_ ?_
         refine tA 0 41 (tb 18 28671) HT_ HW_ hHeld ?_
         refine pA 12 53 (tb 18 32767) HT_ ?_
         refine oA 15 (none) (tb 18 65535) HT_ (fun K hK => ?_)
         have hs44 : w43.cell? ⟨gb216, 0, none⟩ = some (.int .i64 0) := (blk_cell BK216.out 0).trans rfl
         have hfs44 := blk_frozen BK216.out 0
         have hns44_1 := NB223_216.out
         have hms44_1 := NB216_223.out
         have hs45 : w43.cell? ⟨gb216, 1, none⟩ = some (.int .i64 0) := (blk_cell BK216.out 1).trans rfl
         have hfs45 := blk_frozen BK216.out 1
         have hns45_1 := NB223_216.out
         have hms45_1 := NB216_223.out
         have hs46 : w43.cell? ⟨gb216, 2, none⟩ = some (.int .i64 0) := (blk_cell BK216.out 2).trans rfl
         have hfs46 := blk_frozen BK216.out 2
         have hns46_1 := NB223_216.out
         have hms46_1 := NB216_223.out
         have hs47 : w43.cell? ⟨gb216, 3, none⟩ = some (.string (⟨#[]⟩ : ByteArray)) := (blk_cell BK216.out 3).trans rfl
         have hfs47 := blk_frozen BK216.out 3
         have hns47_1 := NB223_216.out
         have hms47_1 := NB216_223.out
         have hs48 : w43.cell? ⟨gb216, 4, none⟩ = some (.bool false) := (blk_cell BK216.out 4).trans rfl
         have hfs48 := blk_frozen BK216.out 4
         have hns48_1 := NB223_216.out
         have hms48_1 := NB216_223.out
         have hs49 : w43.cell? ⟨gb216, 5, none⟩ = some (.int .i64 0) := (blk_cell BK216.out 5).trans rfl
         have hfs49 := blk_frozen BK216.out 5
         have hns49_1 := NB223_216.out
         have hms49_1 := NB216_223.out
         have hs50 : w43.cell? ⟨gb216, 6, none⟩ = some (.int .u64 0) := (blk_cell BK216.out 6).trans rfl
         have hfs50 := blk_frozen BK216.out 6
         have hns50_1 := NB223_216.out
         have hms50_1 := NB216_223.out
         have hs51 : w43.cell? ⟨gb216, 7, none⟩ = some (.int .u64 0) := (blk_cell BK216.out 7).trans rfl
         have hfs51 := blk_frozen BK216.out 7
         have hns51_1 := NB223_216.out
         have hms51_1 := NB216_223.out
         have hs52 : w43.cell? ⟨gb216, 8, none⟩ = some (.bool false) := (blk_cell BK216.out 8).trans rfl
         have hfs52 := blk_frozen BK216.out 8
         have hns52_1 := NB223_216.out
         have hms52_1 := NB216_223.out
         refine skip_ (w1 := ?_) (by rfl) rfl ?_ ?_
         rotate_left
         ·go_simp
          rfl
         refine hK.out _ _ ⟨((cell_far (p := ⟨gb216, _, none⟩) NB223_216.out _).trans (((cell_far (p := ⟨gb216, _, none⟩) NB223_216.out _).trans (((cell_far (p := ⟨gb216, _, none⟩) NB223_216.out _).trans (((cell_far (p := ⟨gb216, _, none⟩) NB223_216.out _).trans (((cell_far (p := ⟨gb216, _, none⟩) NB223_216.out _).trans (((cell_far (p := ⟨gb216, _, none⟩) NB223_216.out _).trans (((cell_far (p := ⟨gb216, _, none⟩) NB223_216.out _).trans (((cell_far (p := ⟨gb216, _, none⟩) NB223_216.out _).trans (((cell_far (p := ⟨gb216, _, none⟩) NB223_216.out _).trans (hHeld.1)))))))))))))))))), ((cell_far (p := ⟨gb216, _, none⟩) NB223_216.out _).trans (((cell_far (p := ⟨gb216, _, none⟩) NB223_216.out _).trans (((cell_far (p := ⟨gb216, _, none⟩) NB223_216.out _).trans (((cell_far (p := ⟨gb216, _, none⟩) NB223_216.out _).trans (((cell_far (p := ⟨gb216, _, none⟩) NB223_216.out _).trans (((cell_far (p := ⟨gb216, _, none⟩) NB223_216.out _).trans (((cell_far (p := ⟨gb216, _, none⟩) NB223_216.out _).trans (((cell_far (p := ⟨gb216, _, none⟩) NB223_216.out _).trans (((cell_far (p := ⟨gb216, _, none⟩) NB223_216.out _).trans (hHeld.2.1)))))))))))))))))), ((cell_far (p := ⟨gb216, _, none⟩) NB223_216.out _).trans (((cell_far (p := ⟨gb216, _, none⟩) NB223_216.out _).trans (((cell_far (p := ⟨gb216, _, none⟩) NB223_216.out _).trans (((cell_far (p := ⟨gb216, _, none⟩) NB223_216.out _).trans (((cell_far (p := ⟨gb216, _, none⟩) NB223_216.out _).trans (((cell_far (p := ⟨gb216, _, none⟩) NB223_216.out _).trans (((cell_far (p := ⟨gb216, _, none⟩) NB223_216.out _).trans (((cell_far (p := ⟨gb216, _, none⟩) NB223_216.out _).trans (((cell_far (p := ⟨gb216, _, none⟩) NB223_216.out _).trans (hHeld.2.2))))))))))))))))))⟩ (fun hHeld => ?_)
         clear hK K
         refine pA 16 3 (tb 18 131071) HT_ ?_
         refine pA 17 4 (tb 18 262143) HT_ ?_
         refine done_ (done_of HT_.out (by kernel_rfl)) ?_
         try go_wp2
         refine bodyPost_ret (results_ctt rfl _ _ gb216 51 #[.int .i64 3, .int .i64 0, .int .i64 0, .string (⟨#[]⟩ : ByteArray), .bool false, .int .i64 t219, .int .u64 t220, .int .u64 t221, .bool false] (0, 0) _ rfl (by refine blk_put (cs := #[.int .i64 3, .int .i64 0, .int .i64 0, .string (⟨#[]⟩ : ByteArray), .bool false, .int .i64 t219, .int .u64 t220, .int .u64 t221, .bool false]) ?_ 8 _ rfl; refine blk_put (cs := #[.int .i64 3, .int .i64 0, .int .i64 0, .string (⟨#[]⟩ : ByteArray), .bool false, .int .i64 t219, .int .u64 t220, .int .u64 0, .bool false]) ?_ 7 _ rfl; refine blk_put (cs := #[.int .i64 3, .int .i64 0, .int .i64 0, .string (⟨#[]⟩ : ByteArray), .bool false, .int .i64 t219, .int .u64 0, .int .u64 0, .bool false]) ?_ 6 _ rfl; refine blk_put (cs := #[.int .i64 3, .int .i64 0, .int .i64 0, .string (⟨#[]⟩ : ByteArray), .bool false, .int .i64 0, .int .u64 0, .int .u64 0, .bool false]) ?_ 5 _ rfl; refine blk_put (cs := #[.int .i64 3, .int .i64 0, .int .i64 0, .string (⟨#[]⟩ : ByteArray), .bool false, .int .i64 0, .int .u64 0, .int .u64 0, .bool false]) ?_ 4 _ rfl; refine blk_put (cs := #[.int .i64 3, .int .i64 0, .int .i64 0, .string (⟨#[]⟩ : ByteArray), .bool false, .int .i64 0, .int .u64 0, .int .u64 0, .bool false]) ?_ 3 _ rfl; refine blk_put (cs := #[.int .i64 3, .int .i64 0, .int .i64 0, .string (⟨#[]⟩ : ByteArray), .bool false, .int .i64 0, .int .u64 0, .int .u64 0, .bool false]) ?_ 2 _ rfl; refine blk_put (cs := #[.int .i64 3, .int .i64 0, .int .i64 0, .string (⟨#[]⟩ : ByteArray), .bool false, .int .i64 0, .int .u64 0, .int .u64 0, .bool false]) ?_ 1 _ rfl; refine blk_put (cs := #[.int .i64 0, .int .i64 0, .int .i64 0, .string (⟨#[]⟩ : ByteArray), .bool false, .int .i64 0, .int .u64 0, .int .u64 0, .bool false]) ?_ 0 _ rfl; exact BK216.out) Try.underlying51 rfl (by kernel_rfl)) rfl ?_
         exact ⟨by rfl, by repeat (with_reducible first | exact HB.out | refine below_set ?_ GE216.out)⟩
       ·rw [if_neg c16] at H
        exact absurd H (by simp)
      ·rw [if_neg c15] at H
       exact absurd H (by simp)
     ·rw [if_neg c12] at H
      exact absurd H (by simp)
    ·rw [if_neg c11] at H
     exact absurd H (by simp)
   ·have HC53 := Aside0.mk H
    clear H
    go_upto_region 6 with (fail)
    go_cut [68] (fun v68 wc => ∃ (kq : Nat) (x68_52 : Bool), v68 = .bool x68_52 ∧ Aside0 (maskref1_numberToken.j1 kq a0 t217 x68_52 = some (r1, r2, r3, r4, r5, r6, r7, r8, r9, r10, r11)) ∧ Aside0 (kq ≤ kj2) ∧ Aside0 (wc.heap[gb216]? = some (.cells #[.int .i64 0, .int .i64 0, .int .i64 0, .string (⟨#[]⟩ : ByteArray), .bool false, .int .i64 0, .int .u64 0, .int .u64 0, .bool false] 51 (0, 0))) ∧ Aside0 (Below w.heap.size w wc))
    case first =>
     have H := HC53.out
     clear HC53
     replace H := bN H; obtain ⟨t224, A54, H⟩ := H
     replace H := iD H; rcases H with ⟨c55b0, H⟩ | ⟨c55b0, H⟩
     ·replace c55b0 : decide (t217 < t224) = true := c55b0
      (skip)
      have H' := Aside0.mk H
      clear H
      go_wp2_with ((refine callA (some 57) Try.func53 #[.string a0, (.func (.func 54) #[] #[])] ?_; (with_reducible refine (maskref1_run__isWord.calls kj2 a0  t224 _ A54.out).mono ?_); rintro e w56 ⟨rfl, hb⟩; replace hb := Drawn0.below hb; refine ⟨_, rfl, ?_⟩; replace BK216 := bk1 BK216 hb; replace HB := hb1 HB hb; (try clear hb)))
      go_meet
      case rel => exact ⟨_, (true), (by rfl), H', ⟨by have := HJ2.out; omega⟩, ⟨by exact BK216.out⟩, ⟨by repeat (with_reducible exact HB.out)⟩⟩
     ·replace c55b0 : decide (t217 < t224) = false := c55b0
      (skip)
      replace H := iD H; rcases H with ⟨c57b0, H⟩ | ⟨c57b0, H⟩
      ·replace c57b0 : decide (1 < t217) = true := c57b0
       by_cases c58 : 0 < (a0.size : Int)
       ·rw [if_pos c58] at H
        have c58b0 : decide (0 < (a0.size : Int)) = true := decide_eq_true c58
        have c58b1 : decide (0 < a0.size) = true := decide_eq_true (by omega)
        clear c58
        have H' := Aside0.mk H
        clear H
        go_wp2_with ((refine callA (some 57) Try.func53 #[.string a0, (.func (.func 54) #[] #[])] ?_; (with_reducible refine (maskref1_run__isWord.calls kj2 a0  t224 _ A54.out).mono ?_); rintro e w60 ⟨rfl, hb⟩; replace hb := Drawn0.below hb; refine ⟨_, rfl, ?_⟩; replace BK216 := bk1 BK216 hb; replace HB := hb1 HB hb; (try clear hb); have p59 : 0 ≤ (0 : Int) := (by omega); have q59 : 0 < a0.size := (by have : (0 : Int) < (a0.size : Int) := of_decide_eq_true (by (with_reducible assumption)); omega); have hx59 : ∀ h : 0 < a0.size, ((a0[0]'h).toNat : Int) = bt a0 0 := bt_at a0 0; clear p59; have qi59 : (0 < (a0.size : Int)) = True := eq_true (of_decide_eq_true (by (with_reducible assumption))); replace q59 := eq_true q59))
        go_meet
        case rel => exact ⟨_, ((bt a0 0) == 48), (by rfl), H', ⟨by have := HJ2.out; omega⟩, ⟨by exact BK216.out⟩, ⟨by repeat (with_reducible exact HB.out)⟩⟩
       ·rw [if_neg c58] at H
        exact absurd H (by simp)
      ·replace c57b0 : decide (1 < t217) = false := c57b0
       have H' := Aside0.mk H
       clear H
       go_wp2_with ((refine callA (some 57) Try.func53 #[.string a0, (.func (.func 54) #[] #[])] ?_; (with_reducible refine (maskref1_run__isWord.calls kj2 a0  t224 _ A54.out).mono ?_); rintro e w61 ⟨rfl, hb⟩; replace hb := Drawn0.below hb; refine ⟨_, rfl, ?_⟩; replace BK216 := bk1 BK216 hb; replace HB := hb1 HB hb; (try clear hb)))
       go_meet
       case rel => exact ⟨_, (false), (by rfl), H', ⟨by have := HJ2.out; omega⟩, ⟨by exact BK216.out⟩, ⟨by repeat (with_reducible exact HB.out)⟩⟩
    case rest =>
     clear HC53
     obtain ⟨kq, x68_52, rfl, HA, HJ52, BK216, HB⟩ := hcut
     cases kq with
     | zero => exact absurd HA.out (by simp [maskref1_numberToken.j1])
     | succ kj52 =>
      have H := HA.out
      clear HA
      simp only [maskref1_numberToken.j1] at H
      replace H := iB H; rcases H with ⟨rfl, H⟩ | ⟨rfl, H⟩
      ·simp only [Option.some.injEq, Prod.mk.injEq] at H
       obtain ⟨rfl, rfl, rfl, rfl, rfl, rfl, rfl, rfl, rfl, rfl, rfl⟩ := H
       obtain ⟨hcz63_0, hcz63_1, hcz63_2, hcz63_3, hcz63_4, hcz63_5, hcz63_6, hcz63_7, hcz63_8, hfz63_0, hfz63_1, hfz63_2, hfz63_3, hfz63_4, hfz63_5, hfz63_6, hfz63_7, hfz63_8⟩ := cf9 BK216
       go_wp2
       refine bodyPost_ret (results_ctt rfl _ _ gb216 51 #[.int .i64 0, .int .i64 0, .int .i64 0, .string (⟨#[]⟩ : ByteArray), .bool false, .int .i64 0, .int .u64 0, .int .u64 0, .bool false] (0, 0) _ rfl (by refine blk_put (cs := #[.int .i64 0, .int .i64 0, .int .i64 0, .string (⟨#[]⟩ : ByteArray), .bool false, .int .i64 0, .int .u64 0, .int .u64 0, .bool false]) ?_ 8 _ rfl; refine blk_put (cs := #[.int .i64 0, .int .i64 0, .int .i64 0, .string (⟨#[]⟩ : ByteArray), .bool false, .int .i64 0, .int .u64 0, .int .u64 0, .bool false]) ?_ 7 _ rfl; refine blk_put (cs := #[.int .i64 0, .int .i64 0, .int .i64 0, .string (⟨#[]⟩ : ByteArray), .bool false, .int .i64 0, .int .u64 0, .int .u64 0, .bool false]) ?_ 6 _ rfl; refine blk_put (cs := #[.int .i64 0, .int .i64 0, .int .i64 0, .string (⟨#[]⟩ : ByteArray), .bool false, .int .i64 0, .int .u64 0, .int .u64 0, .bool false]) ?_ 5 _ rfl; refine blk_put (cs := #[.int .i64 0, .int .i64 0, .int .i64 0, .string (⟨#[]⟩ : ByteArray), .bool false, .int .i64 0, .int .u64 0, .int .u64 0, .bool false]) ?_ 4 _ rfl; refine blk_put (cs := #[.int .i64 0, .int .i64 0, .int .i64 0, .string (⟨#[]⟩ : ByteArray), .bool false, .int .i64 0, .int .u64 0, .int .u64 0, .bool false]) ?_ 3 _ rfl; refine blk_put (cs := #[.int .i64 0, .int .i64 0, .int .i64 0, .string (⟨#[]⟩ : ByteArray), .bool false, .int .i64 0, .int .u64 0, .int .u64 0, .bool false]) ?_ 2 _ rfl; refine blk_put (cs := #[.int .i64 0, .int .i64 0, .int .i64 0, .string (⟨#[]⟩ : ByteArray), .bool false, .int .i64 0, .int .u64 0, .int .u64 0, .bool false]) ?_ 1 _ rfl; refine blk_put (cs := #[.int .i64 0, .int .i64 0, .int .i64 0, .string (⟨#[]⟩ : ByteArray), .bool false, .int .i64 0, .int .u64 0, .int .u64 0, .bool false]) ?_ 0 _ rfl; exact BK216.out) Try.underlying51 rfl (by kernel_rfl)) rfl ?_
       exact ⟨by rfl, by repeat (with_reducible first | exact HB.out | refine below_set ?_ GE216.out)⟩
      ·have HC64 := Aside0.mk H
       clear H
       go_upto_block 0 with (fail)
       go_cut [9, 10] (fun v9 v10 wc => ∃ (kq : Nat) (x9_63 : Int) (x10_63 : Bool), v9 = .int .i64 x9_63 ∧ v10 = .bool x10_63 ∧ Aside0 (maskref1_numberToken.j3 kq t217 x9_63 x10_63 = some (r1, r2, r3, r4, r5, r6, r7, r8, r9, r10, r11)) ∧ Aside0 (kq ≤ kj52) ∧ Aside0 (wc.heap[gb216]? = some (.cells #[.int .i64 0, .int .i64 0, .int .i64 0, .string (⟨#[]⟩ : ByteArray), .bool false, .int .i64 0, .int .u64 0, .int .u64 0, .bool false] 51 (0, 0))) ∧ Aside0 (Below w.heap.size w wc))
       case first =>
        have H := HC64.out
        clear HC64
        have H' := Aside0.mk H
        clear H
        go_wp2
        go_loopg [9, 10, 71] kj52 (fun kq v9 v10 v71 w' => ∃ (x9_3 : Int) (x10_3 : Bool) (x71_3 : Int), v9 = .int .i64 x9_3 ∧ v10 = .bool x10_3 ∧ v71 = .int .i64 x71_3 ∧ Aside0 (maskref1_numberToken.l0 kq a0 t217 x9_3 x10_3 t217 x71_3 = some (r1, r2, r3, r4, r5, r6, r7, r8, r9, r10, r11)) ∧ Aside0 (kq ≤ kj52) ∧ Aside0 (w'.heap[gb216]? = some (.cells #[.int .i64 0, .int .i64 0, .int .i64 0, .string (⟨#[]⟩ : ByteArray), .bool false, .int .i64 0, .int .u64 0, .int .u64 0, .bool false] 51 (0, 0))) ∧ Aside0 (Below w.heap.size w w'))
        case atStart => exact ⟨(0), (true), (0), (by rfl), (by rfl), (by rfl), H', ⟨Nat.le_refl _⟩, ⟨by exact BK216.out⟩, ⟨by repeat (with_reducible exact HB.out)⟩⟩
        case round =>
         clear H'
         obtain ⟨x9_3, x10_3, x71_3, rfl, rfl, rfl, HA, HK3, BK216, HB⟩ := hrel
         cases gk with
         | zero => exact absurd HA.out (by simp [maskref1_numberToken.l0])
         | succ k3 =>
          have H := HA.out
          clear HA
          simp only [maskref1_numberToken.l0] at H
          replace H := iD H; rcases H with ⟨c65b0, H⟩ | ⟨c65b0, H⟩
          ·(skip)
           replace H := iN H; obtain ⟨c66b0, H⟩ := H
           replace H := iN H; obtain ⟨c67b0, H⟩ := H
           replace H := iD H; rcases H with ⟨c69b0, H⟩ | ⟨c69b0, H⟩
           ·replace c69b0 : decide (2147483647 < (wrap64 ((wrap64 (10 * x9_3)) + (((bt a0 x71_3) - 48) % 256)))) = true := c69b0
            have H' := Aside0.mk H
            clear H
            have p68 : 0 ≤ (x71_3 : Int) := of_decide_eq_true (by (with_reducible assumption))
            have q68 : x71_3 < (a0.size : Int) := of_decide_eq_true (by (with_reducible assumption))
            have hx68 := bt_at a0 x71_3
            replace p68 := eq_true p68
            replace q68 := eq_true q68
            go_wp2
            go_meet
            case rel => exact ⟨_, (0), (false), (by rfl), (by rfl), H', ⟨by have := HJ2.out; have := HJ52.out; have := HK3.out; omega⟩, ⟨by exact BK216.out⟩, ⟨by repeat (with_reducible exact HB.out)⟩⟩
           ·replace c69b0 : decide (2147483647 < (wrap64 ((wrap64 (10 * x9_3)) + (((bt a0 x71_3) - 48) % 256)))) = false := c69b0
            have H' := Aside0.mk H
            clear H
            have p68 : 0 ≤ (x71_3 : Int) := of_decide_eq_true (by (with_reducible assumption))
            have q68 : x71_3 < (a0.size : Int) := of_decide_eq_true (by (with_reducible assumption))
            have hx68 := bt_at a0 x71_3
            replace p68 := eq_true p68
            replace q68 := eq_true q68
            go_wp2
            go_roundg k3
            case measure => have := HJ2.out; have := HJ52.out; have := HK3.out; omega
            case rel => exact ⟨(wrap64 ((wrap64 (10 * x9_3)) + (((bt a0 x71_3) - 48) % 256))), (x10_3), (wrap64 (x71_3 + 1)), (by rfl), (by rfl), (by rfl), H', ⟨by have := HJ2.out; have := HJ52.out; have := HK3.out; omega⟩, ⟨by exact BK216.out⟩, ⟨by repeat (with_reducible exact HB.out)⟩⟩
          ·(skip)
           have H' := Aside0.mk H
           clear H
           go_wp2
           go_meet
           case rel => exact ⟨_, (x9_3), (x10_3), (by rfl), (by rfl), H', ⟨by have := HJ2.out; have := HJ52.out; have := HK3.out; omega⟩, ⟨by exact BK216.out⟩, ⟨by repeat (with_reducible exact HB.out)⟩⟩
       case rest =>
        clear HC64
        obtain ⟨kq, x9_63, x10_63, rfl, rfl, HA, HJ63, BK216, HB⟩ := hcut
        cases kq with
        | zero => exact absurd HA.out (by simp [maskref1_numberToken.j3])
        | succ kj63 =>
         have H := HA.out
         clear HA
         simp only [maskref1_numberToken.j3] at H
         replace H := iB H; rcases H with ⟨rfl, H⟩ | ⟨rfl, H⟩
         ·have H' := Aside0.mk H
          clear H
          go_wp2
          go_loopg [12, 88] kj63 (fun kq v12 v88 w' => ∃ (x12_4 : List Int) (x88_4 : Int), v88 = .int .i64 x88_4 ∧ Aside0 (maskref1_numberToken.l1 kq t217 x9_63 x12_4 x88_4 = some (r1, r2, r3, r4, r5, r6, r7, r8, r9, r10, r11)) ∧ Aside0 (kq ≤ kj63) ∧ Aside0 (Kd.R (Kd.int .u8) 5 w' w.heap.size (fun _ => True) v12 x12_4) ∧ Aside0 (w'.heap[gb216]? = some (.cells #[.int .i64 0, .int .i64 0, .int .i64 0, .string (⟨#[]⟩ : ByteArray), .bool false, .int .i64 0, .int .u64 0, .int .u64 0, .bool false] 51 (0, 0))) ∧ Aside0 (Below w.heap.size w w'))
          case atStart => exact ⟨([] : List Int), (0), (by rfl), H', ⟨Nat.le_refl _⟩, ⟨by exact Kd.R_nil _ _ _ _ _⟩, ⟨by exact BK216.out⟩, ⟨by repeat (with_reducible exact HB.out)⟩⟩
          case round =>
           clear H'
           obtain ⟨x12_4, x88_4, rfl, HA, HK4, HO_12, BK216, HB⟩ := hrel
           cases gk with
           | zero => exact absurd HA.out (by simp [maskref1_numberToken.l1])
           | succ k4 =>
            have H := HA.out
            clear HA
            simp only [maskref1_numberToken.l1] at H
            replace H := iD H; rcases H with ⟨c71b0, H⟩ | ⟨c71b0, H⟩
            ·by_cases c72 : 0 ≤ x88_4
             ·rw [if_pos c72] at H
              have c72b0 := eq_true c72
              have c72b1 : decide (0 ≤ x88_4) = true := decide_eq_true c72
              clear c72
              obtain ⟨ji73, hji73⟩ : ∃ j_ : Int, (shr .i64 x9_63 x88_4) = j_ := ⟨_, rfl⟩
              replace H : (if x12_4.length < 140737488355328 then (maskref1_numberToken.l1 k4 t217 x9_63 (x12_4 ++ [(wrap64 (48 + (Go.bits .and .i64 (ji73) 1))) % 256]) (wrap64 (x88_4 + 1))) else (none)) = some (r1, r2, r3, r4, r5, r6, r7, r8, r9, r10, r11) := by (rw [hji73] at H; exact H)
              have hji73_ : (x9_63 / 2 ^ min x88_4.toNat 64) = ji73 := hji73
              have hji73z : x88_4 ≤ 64 → (x9_63 / 2 ^ x88_4.toNat) = ji73 := shr_small hji73
              by_cases c74 : x12_4.length < 140737488355328
              ·rw [if_pos c74] at H
               have LMc74 := Aside0.mk c74
               clear c74
               obtain ⟨y225, hy225⟩ : ∃ y_ : List Int, y_ = (x12_4 ++ [(wrap64 (48 + (Go.bits .and .i64 (ji73) 1))) % 256]) := ⟨_, rfl⟩
               replace H : (maskref1_numberToken.l1 k4 t217 x9_63 y225 (wrap64 (x88_4 + 1))) = some (r1, r2, r3, r4, r5, r6, r7, r8, r9, r10, r11) := by (rw [hy225]; with_reducible exact H)
               have Ny225 := Aside0.mk hy225
               clear hy225
               have H' := Aside0.mk H
               clear H
               go_wp2_with (((with_reducible refine gate_builtin (b := .append) (xs := #[.tmp 91, .tmp 98]) rfl ?_); at_builtin; refine Kd.R_append (Kd.int .u8) (w0 := w) w.heap.size rfl (.tmp 91) (.tmp 98) 90 5 (.int .u8 0) 1 rfl Try.underlying90 info5 rfl (by decide) (by omega) u12 x12_4 ((wrap64 (48 + (Go.bits .and .i64 (ji73) 1))) % 256) [.int .u8 ((wrap64 (48 + (Go.bits .and .i64 (ji73) 1))) % 256)] (fun _ => True) (fun _ => False) rfl rfl ?aP (fun _ hk => hk.elim) ?aF ?aO ?aB ?aS ?aL ?_; (case aP => exact rfl); (case aB => exact HB.out); (case aF => exact (fun _ _ => trivial)); (case aO => exact HO_12.out); (case aS => exact (below_size HB.out)); (case aL => have := LMc74.out; omega); intro v226 w75 ho hb hg hat; rw [← Ny225.out] at ho; replace BK216 := Aside0.mk (blk_grown (g := gb216) (o := .cells #[.int .i64 0, .int .i64 0, .int .i64 0, .string (⟨#[]⟩ : ByteArray), .bool false, .int .i64 0, .int .u64 0, .int .u64 0, .bool false] 51 (0, 0)) BK216.out hg (Kd.R_ne HO_12.out BK216.out (by decide))); replace HB := Aside0.mk (hb); have HO227 := Aside0.mk (ho); clear HO_12; clear ho hb hg hat))
               go_roundg k4
               case measure => have := HJ2.out; have := HJ52.out; have := HJ63.out; have := HK4.out; omega
               case rel => exact ⟨(y225), (wrap64 (x88_4 + 1)), (by rfl), H', ⟨by have := HJ2.out; have := HJ52.out; have := HJ63.out; have := HK4.out; omega⟩, ⟨by exact HO227.out⟩, ⟨by exact BK216.out⟩, ⟨by repeat (with_reducible exact HB.out)⟩⟩
              ·rw [if_neg c74] at H
               exact absurd H (by simp)
             ·rw [if_neg c72] at H
              exact absurd H (by simp)
            ·replace H := bN H; obtain ⟨⟨t228, t229, t230⟩, A76, H⟩ := H; dsimp only at H
             simp only [Option.some.injEq, Prod.mk.injEq] at H
             obtain ⟨rfl, rfl, rfl, rfl, rfl, rfl, rfl, rfl, rfl, rfl, rfl⟩ := H
             obtain ⟨Ao77, co77, eo77⟩ := Kd.R_slice HO_12.out
             subst eo77
             go_wp2_with ((refine callA (some 102) Try.func79 #[.slice Ao77 x12_4.length co77] ?_; (with_reducible refine (maskref1_B.calls k4 _ _ x12_4 t228 t229 t230 _ ?side1 ?side2 A76.out).mono ?_); (case side1 => exact (Kd.R_reads' HO_12.out).2.2); (case side2 => exact (Kd.R_reads' HO_12.out).2.1); rintro e w78 ⟨rfl, hb⟩; refine ⟨_, rfl, ?_⟩; replace HO_12 := Kd.rb1 HO_12 hb; replace BK216 := bk1 BK216 hb; replace HB := hb1 HB hb; (try clear hb); obtain ⟨hcz79_0, hcz79_1, hcz79_2, hcz79_3, hcz79_4, hcz79_5, hcz79_6, hcz79_7, hcz79_8, hfz79_0, hfz79_1, hfz79_2, hfz79_3, hfz79_4, hfz79_5, hfz79_6, hfz79_7, hfz79_8⟩ := cf9 BK216))
             refine bodyPost_ret (results_ctt rfl _ _ gb216 51 #[.int .i64 3, .int .i64 0, .int .i64 0, .string (⟨#[]⟩ : ByteArray), .bool false, .int .i64 t228, .int .u64 t229, .int .u64 t230, .bool true] (0, 0) _ rfl (by refine blk_put (cs := #[.int .i64 3, .int .i64 0, .int .i64 0, .string (⟨#[]⟩ : ByteArray), .bool false, .int .i64 t228, .int .u64 t229, .int .u64 t230, .bool false]) ?_ 8 _ rfl; refine blk_put (cs := #[.int .i64 3, .int .i64 0, .int .i64 0, .string (⟨#[]⟩ : ByteArray), .bool false, .int .i64 t228, .int .u64 t229, .int .u64 0, .bool false]) ?_ 7 _ rfl; refine blk_put (cs := #[.int .i64 3, .int .i64 0, .int .i64 0, .string (⟨#[]⟩ : ByteArray), .bool false, .int .i64 t228, .int .u64 0, .int .u64 0, .bool false]) ?_ 6 _ rfl; refine blk_put (cs := #[.int .i64 3, .int .i64 0, .int .i64 0, .string (⟨#[]⟩ : ByteArray), .bool false, .int .i64 0, .int .u64 0, .int .u64 0, .bool false]) ?_ 5 _ rfl; refine blk_put (cs := #[.int .i64 3, .int .i64 0, .int .i64 0, .string (⟨#[]⟩ : ByteArray), .bool false, .int .i64 0, .int .u64 0, .int .u64 0, .bool false]) ?_ 4 _ rfl; refine blk_put (cs := #[.int .i64 3, .int .i64 0, .int .i64 0, .string (⟨#[]⟩ : ByteArray), .bool false, .int .i64 0, .int .u64 0, .int .u64 0, .bool false]) ?_ 3 _ rfl; refine blk_put (cs := #[.int .i64 3, .int .i64 0, .int .i64 0, .string (⟨#[]⟩ : ByteArray), .bool false, .int .i64 0, .int .u64 0, .int .u64 0, .bool false]) ?_ 2 _ rfl; refine blk_put (cs := #[.int .i64 3, .int .i64 0, .int .i64 0, .string (⟨#[]⟩ : ByteArray), .bool false, .int .i64 0, .int .u64 0, .int .u64 0, .bool false]) ?_ 1 _ rfl; refine blk_put (cs := #[.int .i64 0, .int .i64 0, .int .i64 0, .string (⟨#[]⟩ : ByteArray), .bool false, .int .i64 0, .int .u64 0, .int .u64 0, .bool false]) ?_ 0 _ rfl; exact BK216.out) Try.underlying51 rfl (by kernel_rfl)) rfl ?_
             exact ⟨by rfl, by repeat (with_reducible first | exact HB.out | refine below_set ?_ GE216.out)⟩
         ·simp only [Option.some.injEq, Prod.mk.injEq] at H
          obtain ⟨rfl, rfl, rfl, rfl, rfl, rfl, rfl, rfl, rfl, rfl, rfl⟩ := H
          obtain ⟨hcz80_0, hcz80_1, hcz80_2, hcz80_3, hcz80_4, hcz80_5, hcz80_6, hcz80_7, hcz80_8, hfz80_0, hfz80_1, hfz80_2, hfz80_3, hfz80_4, hfz80_5, hfz80_6, hfz80_7, hfz80_8⟩ := cf9 BK216
          go_wp2
          refine bodyPost_ret (results_ctt rfl _ _ gb216 51 #[.int .i64 0, .int .i64 0, .int .i64 0, .string (⟨#[]⟩ : ByteArray), .bool false, .int .i64 0, .int .u64 0, .int .u64 0, .bool false] (0, 0) _ rfl (by refine blk_put (cs := #[.int .i64 0, .int .i64 0, .int .i64 0, .string (⟨#[]⟩ : ByteArray), .bool false, .int .i64 0, .int .u64 0, .int .u64 0, .bool false]) ?_ 8 _ rfl; refine blk_put (cs := #[.int .i64 0, .int .i64 0, .int .i64 0, .string (⟨#[]⟩ : ByteArray), .bool false, .int .i64 0, .int .u64 0, .int .u64 0, .bool false]) ?_ 7 _ rfl; refine blk_put (cs := #[.int .i64 0, .int .i64 0, .int .i64 0, .string (⟨#[]⟩ : ByteArray), .bool false, .int .i64 0, .int .u64 0, .int .u64 0, .bool false]) ?_ 6 _ rfl; refine blk_put (cs := #[.int .i64 0, .int .i64 0, .int .i64 0, .string (⟨#[]⟩ : ByteArray), .bool false, .int .i64 0, .int .u64 0, .int .u64 0, .bool false]) ?_ 5 _ rfl; refine blk_put (cs := #[.int .i64 0, .int .i64 0, .int .i64 0, .string (⟨#[]⟩ : ByteArray), .bool false, .int .i64 0, .int .u64 0, .int .u64 0, .bool false]) ?_ 4 _ rfl; refine blk_put (cs := #[.int .i64 0, .int .i64 0, .int .i64 0, .string (⟨#[]⟩ : ByteArray), .bool false, .int .i64 0, .int .u64 0, .int .u64 0, .bool false]) ?_ 3 _ rfl; refine blk_put (cs := #[.int .i64 0, .int .i64 0, .int .i64 0, .string (⟨#[]⟩ : ByteArray), .bool false, .int .i64 0, .int .u64 0, .int .u64 0, .bool false]) ?_ 2 _ rfl; refine blk_put (cs := #[.int .i64 0, .int .i64 0, .int .i64 0, .string (⟨#[]⟩ : ByteArray), .bool false, .int .i64 0, .int .u64 0, .int .u64 0, .bool false]) ?_ 1 _ rfl; refine blk_put (cs := #[.int .i64 0, .int .i64 0, .int .i64 0, .string (⟨#[]⟩ : ByteArray), .bool false, .int .i64 0, .int .u64 0, .int .u64 0, .bool false]) ?_ 0 _ rfl; exact BK216.out) Try.underlying51 rfl (by kernel_rfl)) rfl ?_
          exact ⟨by rfl, by repeat (with_reducible first | exact HB.out | refine below_set ?_ GE216.out)⟩
end Go.Proofs.Ytlamgdibnnmbmaa.PLex
end
section
namespace Go.Proofs.Ytlamgdibnnmbmaa.PLex
open Go.RowKit Go.Proofs.YtlamgdibnnmbmaaW.PrintWords Go.Proofs.YtlamgdibnnmbmaaW.PrintLast Go.Proofs.YtlamgdibnnmbmaaW.PrintMore
attribute [local go_sem] max2_int min2_int max_two min_two max_three min_three max_four min_four
set_option linter.unusedVariables false
set_option linter.unusedSimpArgs false
mutual
def maskref1_Split.l0 : Nat → ByteArray → List ByteArray → Int → Int → Option (List ByteArray)
 | 0, _, _, _, _ => none
 | k + 1, x0, x3, x4, x5 => if x5 ≤ (x0.size : Int) then (if x5 = (x0.size : Int) then (maskref1_Split.j1 k x0 x3 x4 x5 true) else (if 0 ≤ x5 then (if x5 < (x0.size : Int) then (maskref1_Split.j1 k x0 x3 x4 x5 ((bt x0 x5) == 32)) else (none)) else (none))) else (some x3)
def maskref1_Split.j1 : Nat → ByteArray → List ByteArray → Int → Int → Bool → Option (List ByteArray)
 | 0, _, _, _, _, _ => none
 | k + 1, x0, x3, x4, x5, x21 => if x21 = true then (if x5 > x4 then (if 0 ≤ x4 then (if x4 ≤ x5 then (if x5 ≤ (x0.size : Int) then (if x3.length < 8796093022208 then (maskref1_Split.l0 k x0 (x3 ++ [x0.extract (x4 : Int).toNat (x5 : Int).toNat]) (wrap64 (x5 + 1)) (wrap64 (x5 + 1))) else (none)) else (none)) else (none)) else (none)) else (maskref1_Split.l0 k x0 x3 (wrap64 (x5 + 1)) (wrap64 (x5 + 1)))) else (maskref1_Split.l0 k x0 x3 x4 (wrap64 (x5 + 1)))
end
def maskref1_Split.f (k : Nat) (a0 : ByteArray) : Option (List ByteArray) := maskref1_Split.l0 k a0 ([] : List ByteArray) 0 0
theorem maskref1_Split.mono_l : ∀ k, (∀ y0 y1 y2 y3, LeO (maskref1_Split.l0 k y0 y1 y2 y3) (maskref1_Split.l0 (k + 1) y0 y1 y2 y3)) ∧ (∀ y0 y1 y2 y3 y4, LeO (maskref1_Split.j1 k y0 y1 y2 y3 y4) (maskref1_Split.j1 (k + 1) y0 y1 y2 y3 y4))
 | 0 => ⟨fun _ _ _ _ r h => by simp [maskref1_Split.l0] at h, fun _ _ _ _ _ r h => by simp [maskref1_Split.j1] at h⟩
 | k + 1 => by
  obtain ⟨ih0, ih1⟩ := maskref1_Split.mono_l k
  refine ⟨?_, ?_⟩
  ·intro y0 y1 y2 y3
   unfold maskref1_Split.l0
   repeat' first | with_reducible exact ih0 _ _ _ _ | with_reducible exact ih1 _ _ _ _ _ | with_reducible exact LeO.refl _ | with_reducible exact LeO.none _ | with_reducible refine LeO.ite ?_ ?_ | with_reducible refine LeO.bind ?_ (fun _ => ?_)
  ·intro y0 y1 y2 y3 y4
   unfold maskref1_Split.j1
   repeat' first | with_reducible exact ih0 _ _ _ _ | with_reducible exact ih1 _ _ _ _ _ | with_reducible exact LeO.refl _ | with_reducible exact LeO.none _ | with_reducible refine LeO.ite ?_ ?_ | with_reducible refine LeO.bind ?_ (fun _ => ?_)
theorem maskref1_Split.mono : ∀ a0 k, LeO (maskref1_Split.f k a0) (maskref1_Split.f (k + 1) a0) := by
 intro a0 k
 obtain ⟨ih0, ih1⟩ := maskref1_Split.mono_l k
 unfold maskref1_Split.f
 repeat' first | with_reducible exact ih0 _ _ _ _ | with_reducible exact ih1 _ _ _ _ _ | with_reducible exact LeO.refl _ | with_reducible exact LeO.none _ | with_reducible refine LeO.ite ?_ ?_ | with_reducible refine LeO.bind ?_ (fun _ => ?_)
set_option maxHeartbeats 8000000 in
set_option maxRecDepth 100000 in
theorem maskref1_Split.calls (k : Nat) (a0 : ByteArray) (r : List ByteArray) (w : World) (h : maskref1_Split.f k a0 = some r) :
  Calls Try.prog 38 #[.string a0] w fun e w' => ∃ v0_ : Value, e = .returned (v0_) ∧ Kd.R Kd.string 9 w' w.heap.size (fun _ => True) v0_ r ∧ Below w.heap.size w w' := by
 have HB := Aside0.mk (Below.refl w.heap.size w)
 have H := h
 clear h
 unfold maskref1_Split.f at H
 have H' := Aside0.mk H
 clear H
 go_enter Try.func38, Try.ntmps38
 go_wp2
 go_loopg [3, 4, 5] k (fun kq v3 v4 v5 w' => ∃ (x3_1 : List ByteArray) (x4_1 : Int) (x5_1 : Int), v4 = .int .i64 x4_1 ∧ v5 = .int .i64 x5_1 ∧ Aside0 (maskref1_Split.l0 kq a0 x3_1 x4_1 x5_1 = some r) ∧ Aside0 (kq ≤ k) ∧ Aside0 (Kd.R Kd.string 9 w' w.heap.size (fun _ => True) v3 x3_1) ∧ Aside0 (Below w.heap.size w w'))
 case atStart => exact ⟨([] : List ByteArray), (0), (0), (by rfl), (by rfl), H', ⟨Nat.le_refl _⟩, ⟨by exact Kd.R_nil _ _ _ _ _⟩, ⟨by repeat (with_reducible exact HB.out)⟩⟩
 case round =>
  clear H'
  obtain ⟨x3_1, x4_1, x5_1, rfl, rfl, HA, HK1, HO_3, HB⟩ := hrel
  cases gk with
  | zero => exact absurd HA.out (by simp [maskref1_Split.l0])
  | succ k1 =>
   have H := HA.out
   clear HA
   simp only [maskref1_Split.l0] at H
   replace H := iD H; rcases H with ⟨c2b0, H⟩ | ⟨c2b0, H⟩
   ·have HC3 := Aside0.mk H
    clear H
    go_upto_region 6 with (fail)
    go_cut [21] (fun v21 wc => ∃ (kq : Nat) (x21_2 : Bool), v21 = .bool x21_2 ∧ Aside0 (maskref1_Split.j1 kq a0 x3_1 x4_1 x5_1 x21_2 = some r) ∧ Aside0 (kq ≤ k1) ∧ Aside0 (Kd.R Kd.string 9 wc w.heap.size (fun _ => True) u3 x3_1) ∧ Aside0 (Below w.heap.size w wc))
    case first =>
     have H := HC3.out
     clear HC3
     replace H := iE H; rcases H with ⟨c4b0, c4b1, H⟩ | ⟨c4, c4b0, c4b1, H⟩
     ·(skip)
      have H' := Aside0.mk H
      clear H
      go_wp2
      go_meet
      case rel => exact ⟨_, (true), (by rfl), H', ⟨by have := HK1.out; omega⟩, ⟨by exact HO_3.out⟩, ⟨by repeat (with_reducible exact HB.out)⟩⟩
     ·(skip)
      replace H := iN H; obtain ⟨c5b0, H⟩ := H
      replace H := iN H; obtain ⟨c6b0, H⟩ := H
      have H' := Aside0.mk H
      clear H
      have p7 : 0 ≤ (x5_1 : Int) := of_decide_eq_true (by (with_reducible assumption))
      have q7 : x5_1 < (a0.size : Int) := of_decide_eq_true (by (with_reducible assumption))
      have hx7 := bt_at a0 x5_1
      replace p7 := eq_true p7
      replace q7 := eq_true q7
      go_wp2
      go_meet
      case rel => exact ⟨_, ((bt a0 x5_1) == 32), (by rfl), H', ⟨by have := HK1.out; omega⟩, ⟨by exact HO_3.out⟩, ⟨by repeat (with_reducible exact HB.out)⟩⟩
    case rest =>
     clear HC3
     (try clear c2b0)
     obtain ⟨kq, x21_2, rfl, HA, HJ2, HO_3, HB⟩ := hcut
     cases kq with
     | zero => exact absurd HA.out (by simp [maskref1_Split.j1])
     | succ kj2 =>
      have H := HA.out
      clear HA
      simp only [maskref1_Split.j1] at H
      replace H := iB H; rcases H with ⟨rfl, H⟩ | ⟨rfl, H⟩
      ·replace H := iD H; rcases H with ⟨c9b0, H⟩ | ⟨c9b0, H⟩
       ·replace c9b0 : decide (x4_1 < x5_1) = true := c9b0
        by_cases c10 : 0 ≤ x4_1
        ·rw [if_pos c10] at H
         have c10b0 := eq_true c10
         have c10b1 : decide (0 ≤ x4_1) = true := decide_eq_true c10
         clear c10
         by_cases c11 : x4_1 ≤ x5_1
         ·rw [if_pos c11] at H
          have c11b0 := eq_true c11
          have c11b1 : decide (x4_1 ≤ x5_1) = true := decide_eq_true c11
          clear c11
          by_cases c12 : x5_1 ≤ (a0.size : Int)
          ·rw [if_pos c12] at H
           have c12b0 := eq_true c12
           have c12b1 : decide (x5_1 ≤ (a0.size : Int)) = true := decide_eq_true c12
           clear c12
           by_cases c13 : x3_1.length < 8796093022208
           ·rw [if_pos c13] at H
            have LMc13 := Aside0.mk c13
            clear c13
            obtain ⟨y345, hy345⟩ : ∃ y_ : List ByteArray, y_ = (x3_1 ++ [a0.extract (x4_1 : Int).toNat (x5_1 : Int).toNat]) := ⟨_, rfl⟩
            replace H : (maskref1_Split.l0 kj2 a0 y345 (wrap64 (x5_1 + 1)) (wrap64 (x5_1 + 1))) = some r := by (rw [hy345]; with_reducible exact H)
            have Ny345 := Aside0.mk hy345
            clear hy345
            have H' := Aside0.mk H
            clear H
            go_wp2_with (((with_reducible refine gate_builtin (b := .append) (xs := #[.tmp 25, .tmp 30]) rfl ?_); at_builtin; refine Kd.R_append Kd.string (w0 := w) w.heap.size rfl (.tmp 25) (.tmp 30) 75 9 (.string ⟨#[]⟩) 16 rfl Try.underlying75 info9 rfl (by decide) (by omega) u3 x3_1 (a0.extract (x4_1 : Int).toNat (x5_1 : Int).toNat) [.string (a0.extract (x4_1 : Int).toNat (x5_1 : Int).toNat)] (fun _ => True) (fun _ => False) rfl rfl ?aP (fun _ hk => hk.elim) ?aF ?aO ?aB ?aS ?aL ?_; (case aP => exact rfl); (case aB => exact HB.out); (case aF => exact (fun _ _ => trivial)); (case aO => exact HO_3.out); (case aS => exact (below_size HB.out)); (case aL => have := LMc13.out; omega); intro v346 w14 ho hb hg hat; rw [← Ny345.out] at ho; replace HB := Aside0.mk (hb); have HO347 := Aside0.mk (ho); clear HO_3; clear ho hb hg hat))
            go_roundg kj2
            case measure => have := HK1.out; have := HJ2.out; omega
            case rel => exact ⟨(y345), (wrap64 (x5_1 + 1)), (wrap64 (x5_1 + 1)), (by rfl), (by rfl), H', ⟨by have := HK1.out; have := HJ2.out; omega⟩, ⟨by exact HO347.out⟩, ⟨by repeat (with_reducible exact HB.out)⟩⟩
           ·rw [if_neg c13] at H
            exact absurd H (by simp)
          ·rw [if_neg c12] at H
           exact absurd H (by simp)
         ·rw [if_neg c11] at H
          exact absurd H (by simp)
        ·rw [if_neg c10] at H
         exact absurd H (by simp)
       ·replace c9b0 : decide (x4_1 < x5_1) = false := c9b0
        have H' := Aside0.mk H
        clear H
        go_wp2
        go_roundg kj2
        case measure => have := HK1.out; have := HJ2.out; omega
        case rel => exact ⟨(x3_1), (wrap64 (x5_1 + 1)), (wrap64 (x5_1 + 1)), (by rfl), (by rfl), H', ⟨by have := HK1.out; have := HJ2.out; omega⟩, ⟨by exact HO_3.out⟩, ⟨by repeat (with_reducible exact HB.out)⟩⟩
      ·have H' := Aside0.mk H
       clear H
       go_wp2
       go_roundg kj2
       case measure => have := HK1.out; have := HJ2.out; omega
       case rel => exact ⟨(x3_1), (x4_1), (wrap64 (x5_1 + 1)), (by rfl), (by rfl), H', ⟨by have := HK1.out; have := HJ2.out; omega⟩, ⟨by exact HO_3.out⟩, ⟨by repeat (with_reducible exact HB.out)⟩⟩
   ·obtain rfl := Option.some.inj H
    go_wp2
    go_ret
    exact ⟨_, by rfl, by exact HO_3.out, by repeat (with_reducible exact HB.out)⟩
end Go.Proofs.Ytlamgdibnnmbmaa.PLex
end
section
namespace Go.Proofs.Ytlamgdibnnmbmaa.PLex
open Go.RowKit Go.Proofs.YtlamgdibnnmbmaaW.PrintWords Go.Proofs.YtlamgdibnnmbmaaW.PrintLast Go.Proofs.YtlamgdibnnmbmaaW.PrintMore
attribute [local go_sem] max2_int min2_int max_two min_two max_three min_three max_four min_four
set_option linter.unusedVariables false
set_option linter.unusedSimpArgs false
def maskref1_LexSigns.f (k : Nat)  : Option (List ByteArray) := (maskref1_Split.f k (⟨#[33, 61, 61, 32, 61, 61, 61, 32, 62, 62, 62, 32, 33, 61, 32, 38, 38, 32, 43, 58, 32, 45, 62, 32, 60, 60, 32, 60, 61, 32, 61, 61, 32, 61, 62, 32, 62, 61, 32, 62, 62, 32, 124, 124, 32, 33, 32, 35, 32, 37, 32, 38, 32, 40, 32, 41, 32, 42, 32, 43, 32, 44, 32, 45, 32, 46, 32, 47, 32, 58, 32, 59, 32, 60, 32, 61, 32, 62, 32, 63, 32, 91, 32, 93, 32, 94, 32, 123, 32, 124, 32, 125, 32, 126]⟩ : ByteArray)).bind fun t348 => (some t348)
theorem maskref1_LexSigns.mono : ∀ k, LeO (maskref1_LexSigns.f k ) (maskref1_LexSigns.f (k + 1) ) := by
 intro  k
 unfold maskref1_LexSigns.f
 repeat' first | with_reducible exact maskref1_Split.mono _ _ | with_reducible exact LeO.refl _ | with_reducible exact LeO.none _ | with_reducible refine LeO.ite ?_ ?_ | with_reducible refine LeO.bind ?_ (fun _ => ?_)
set_option maxHeartbeats 8000000 in
set_option maxRecDepth 100000 in
theorem maskref1_LexSigns.calls (k : Nat)  (r : List ByteArray) (w : World) (h : maskref1_LexSigns.f k  = some r) :
  Calls Try.prog 59 #[] w fun e w' => ∃ v0_ : Value, e = .returned (v0_) ∧ Kd.R Kd.string 9 w' w.heap.size (fun _ => True) v0_ r ∧ Below w.heap.size w w' := by
 have HB := Aside0.mk (Below.refl w.heap.size w)
 have H := h
 clear h
 unfold maskref1_LexSigns.f at H
 replace H := bN H; obtain ⟨t348, A1, H⟩ := H
 obtain rfl := Option.some.inj H
 go_enter Try.func59, Try.ntmps59
 go_wp2_with ((refine callA (some 1) Try.func38 #[.string (⟨#[33, 61, 61, 32, 61, 61, 61, 32, 62, 62, 62, 32, 33, 61, 32, 38, 38, 32, 43, 58, 32, 45, 62, 32, 60, 60, 32, 60, 61, 32, 61, 61, 32, 61, 62, 32, 62, 61, 32, 62, 62, 32, 124, 124, 32, 33, 32, 35, 32, 37, 32, 38, 32, 40, 32, 41, 32, 42, 32, 43, 32, 44, 32, 45, 32, 46, 32, 47, 32, 58, 32, 59, 32, 60, 32, 61, 32, 62, 32, 63, 32, 91, 32, 93, 32, 94, 32, 123, 32, 124, 32, 125, 32, 126]⟩ : ByteArray)] ?_; (with_reducible refine (maskref1_Split.calls k (⟨#[33, 61, 61, 32, 61, 61, 61, 32, 62, 62, 62, 32, 33, 61, 32, 38, 38, 32, 43, 58, 32, 45, 62, 32, 60, 60, 32, 60, 61, 32, 61, 61, 32, 61, 62, 32, 62, 61, 32, 62, 62, 32, 124, 124, 32, 33, 32, 35, 32, 37, 32, 38, 32, 40, 32, 41, 32, 42, 32, 43, 32, 44, 32, 45, 32, 46, 32, 47, 32, 58, 32, 59, 32, 60, 32, 61, 32, 62, 32, 63, 32, 91, 32, 93, 32, 94, 32, 123, 32, 124, 32, 125, 32, 126]⟩ : ByteArray) t348 _ A1.out).mono ?_); rintro e w2 ⟨v349, rfl, ho0, hb⟩; refine ⟨_, rfl, ?_⟩; have HO350 := Aside0.mk (Kd.R_lower ho0 (below_size HB.out)); replace HB := hb1 HB hb; (try clear hb); (try clear ho0)))
 go_ret
 exact ⟨_, by rfl, by exact HO350.out, by repeat (with_reducible exact HB.out)⟩
end Go.Proofs.Ytlamgdibnnmbmaa.PLex
end
section
namespace Go.Proofs.Ytlamgdibnnmbmaa.PLex
open Go.RowKit Go.Proofs.YtlamgdibnnmbmaaW.PrintWords Go.Proofs.YtlamgdibnnmbmaaW.PrintLast Go.Proofs.YtlamgdibnnmbmaaW.PrintMore
attribute [local go_sem] max2_int min2_int max_two min_two max_three min_three max_four min_four
set_option linter.unusedVariables false
set_option linter.unusedSimpArgs false
mutual
def maskref1_within.l0 : Nat → ByteArray → Int → Int → ByteArray → Int → Int → Option (Bool)
 | 0, _, _, _, _, _, _ => none
 | k + 1, x0, x1, x2, x3, x12, x13 => if x13 < x12 then (if 0 ≤ x13 then (if x13 < (x0.size : Int) then (if (bt x0 x13) < x1 then (maskref1_within.j1 k x0 x1 x2 x3 x13 x12 x13 true) else (maskref1_within.j1 k x0 x1 x2 x3 x13 x12 x13 (decide ((bt x0 x13) > x2)))) else (none)) else (none)) else (some true)
def maskref1_within.j1 : Nat → ByteArray → Int → Int → ByteArray → Int → Int → Int → Bool → Option (Bool)
 | 0, _, _, _, _, _, _, _, _ => none
 | k + 1, x0, x1, x2, x3, x9, x12, x13, x27 => if x27 = true then (some false) else (maskref1_within.l1 k x0 x1 x2 x3 x9 x12 x13 (x3.size : Int) 0)
def maskref1_within.l1 : Nat → ByteArray → Int → Int → ByteArray → Int → Int → Int → Int → Int → Option (Bool)
 | 0, _, _, _, _, _, _, _, _, _ => none
 | k + 1, x0, x1, x2, x3, x9, x12, x13, x29, x30 => if x30 < x29 then (if 0 ≤ x9 then (if x9 < (x0.size : Int) then (if 0 ≤ x30 then (if x30 < (x3.size : Int) then (if (bt x0 x9) = (bt x3 x30) then (some false) else (maskref1_within.l1 k x0 x1 x2 x3 x9 x12 x13 x29 (wrap64 (x30 + 1)))) else (none)) else (none)) else (none)) else (none)) else (maskref1_within.l0 k x0 x1 x2 x3 x12 (wrap64 (x13 + 1)))
end
def maskref1_within.f (k : Nat) (a0 : ByteArray) (a1 : Int) (a2 : Int) (a3 : ByteArray) : Option (Bool) := maskref1_within.l0 k a0 a1 a2 a3 (a0.size : Int) 0
theorem maskref1_within.mono_l : ∀ k, (∀ y0 y1 y2 y3 y4 y5, LeO (maskref1_within.l0 k y0 y1 y2 y3 y4 y5) (maskref1_within.l0 (k + 1) y0 y1 y2 y3 y4 y5)) ∧ (∀ y0 y1 y2 y3 y4 y5 y6 y7, LeO (maskref1_within.j1 k y0 y1 y2 y3 y4 y5 y6 y7) (maskref1_within.j1 (k + 1) y0 y1 y2 y3 y4 y5 y6 y7)) ∧ (∀ y0 y1 y2 y3 y4 y5 y6 y7 y8, LeO (maskref1_within.l1 k y0 y1 y2 y3 y4 y5 y6 y7 y8) (maskref1_within.l1 (k + 1) y0 y1 y2 y3 y4 y5 y6 y7 y8))
 | 0 => ⟨fun _ _ _ _ _ _ r h => by simp [maskref1_within.l0] at h, fun _ _ _ _ _ _ _ _ r h => by simp [maskref1_within.j1] at h, fun _ _ _ _ _ _ _ _ _ r h => by simp [maskref1_within.l1] at h⟩
 | k + 1 => by
  obtain ⟨ih0, ih1, ih2⟩ := maskref1_within.mono_l k
  refine ⟨?_, ?_, ?_⟩
  ·intro y0 y1 y2 y3 y4 y5
   unfold maskref1_within.l0
   repeat' first | with_reducible exact ih0 _ _ _ _ _ _ | with_reducible exact ih1 _ _ _ _ _ _ _ _ | with_reducible exact ih2 _ _ _ _ _ _ _ _ _ | with_reducible exact LeO.refl _ | with_reducible exact LeO.none _ | with_reducible refine LeO.ite ?_ ?_ | with_reducible refine LeO.bind ?_ (fun _ => ?_)
  ·intro y0 y1 y2 y3 y4 y5 y6 y7
   unfold maskref1_within.j1
   repeat' first | with_reducible exact ih0 _ _ _ _ _ _ | with_reducible exact ih1 _ _ _ _ _ _ _ _ | with_reducible exact ih2 _ _ _ _ _ _ _ _ _ | with_reducible exact LeO.refl _ | with_reducible exact LeO.none _ | with_reducible refine LeO.ite ?_ ?_ | with_reducible refine LeO.bind ?_ (fun _ => ?_)
  ·intro y0 y1 y2 y3 y4 y5 y6 y7 y8
   unfold maskref1_within.l1
   repeat' first | with_reducible exact ih0 _ _ _ _ _ _ | with_reducible exact ih1 _ _ _ _ _ _ _ _ | with_reducible exact ih2 _ _ _ _ _ _ _ _ _ | with_reducible exact LeO.refl _ | with_reducible exact LeO.none _ | with_reducible refine LeO.ite ?_ ?_ | with_reducible refine LeO.bind ?_ (fun _ => ?_)
theorem maskref1_within.mono : ∀ a0 a1 a2 a3 k, LeO (maskref1_within.f k a0 a1 a2 a3) (maskref1_within.f (k + 1) a0 a1 a2 a3) := by
 intro a0 a1 a2 a3 k
 obtain ⟨ih0, ih1, ih2⟩ := maskref1_within.mono_l k
 unfold maskref1_within.f
 repeat' first | with_reducible exact ih0 _ _ _ _ _ _ | with_reducible exact ih1 _ _ _ _ _ _ _ _ | with_reducible exact ih2 _ _ _ _ _ _ _ _ _ | with_reducible exact LeO.refl _ | with_reducible exact LeO.none _ | with_reducible refine LeO.ite ?_ ?_ | with_reducible refine LeO.bind ?_ (fun _ => ?_)
set_option maxHeartbeats 8000000 in
set_option maxRecDepth 100000 in
theorem maskref1_within.calls (k : Nat) (a0 : ByteArray) (a1 : Int) (a2 : Int) (a3 : ByteArray) (r : Bool) (w : World) (h : maskref1_within.f k a0 a1 a2 a3 = some r) :
  Calls Try.prog 67 #[.string a0, .int .u8 a1, .int .u8 a2, .string a3] w fun e w' => e = .returned (.bool r) ∧ Drawn0 w w' := by
 have H := h
 clear h
 unfold maskref1_within.f at H
 have H' := Aside0.mk H
 clear H
 go_enter Try.func67, Try.ntmps67
 go_wp2
 go_loopg [13] k (fun kq v13 w' => ∃ (x13_1 : Int), v13 = .int .i64 x13_1 ∧ Aside0 (maskref1_within.l0 kq a0 a1 a2 a3 (a0.size : Int) x13_1 = some r) ∧ Aside0 (kq ≤ k) ∧ Drawn0 w w')
 case atStart => exact ⟨(0), (by rfl), H', ⟨Nat.le_refl _⟩, by repeat (exact Drawn0.refl _)⟩
 case round =>
  clear H'
  try clear p2
  obtain ⟨x13_1, rfl, HA, HK1, ⟨m1, rfl⟩⟩ := hrel
  cases gk with
  | zero => exact absurd HA.out (by simp [maskref1_within.l0])
  | succ k1 =>
   have H := HA.out
   clear HA
   simp only [maskref1_within.l0] at H
   replace H := iD H; rcases H with ⟨c5b0, H⟩ | ⟨c5b0, H⟩
   ·have HC6 := Aside0.mk H
    clear H
    go_upto_region 4 with (fail)
    go_cut [27] (fun v27 wc => ∃ (kq : Nat) (x27_5 : Bool), v27 = .bool x27_5 ∧ Aside0 (maskref1_within.j1 kq a0 a1 a2 a3 x13_1 (a0.size : Int) x13_1 x27_5 = some r) ∧ Aside0 (kq ≤ k1) ∧ Drawn0 w wc)
    case first =>
     have H := HC6.out
     clear HC6
     replace H := iN H; obtain ⟨c7b0, H⟩ := H
     (skip)
     replace H := iN H; obtain ⟨c8b0, H⟩ := H
     replace H := iD H; rcases H with ⟨c10b0, H⟩ | ⟨c10b0, H⟩
     ·have H' := Aside0.mk H
      clear H
      have p9 : 0 ≤ (x13_1 : Int) := of_decide_eq_true (by (with_reducible assumption))
      have q9 : x13_1 < (a0.size : Int) := of_decide_eq_true (by (with_reducible assumption))
      have hx9 := bt_at a0 x13_1
      replace p9 := eq_true p9
      replace q9 := eq_true q9
      go_wp2
      go_meet
      case rel => exact ⟨_, (true), (by rfl), H', ⟨by have := HK1.out; omega⟩, by repeat (first | exact Drawn0.refl _ | apply Drawn0.step)⟩
     ·have H' := Aside0.mk H
      clear H
      have p9 : 0 ≤ (x13_1 : Int) := of_decide_eq_true (by (with_reducible assumption))
      have q9 : x13_1 < (a0.size : Int) := of_decide_eq_true (by (with_reducible assumption))
      have hx9 := bt_at a0 x13_1
      replace p9 := eq_true p9
      replace q9 := eq_true q9
      have p11 : 0 ≤ (x13_1 : Int) := of_decide_eq_true (by (with_reducible assumption))
      have q11 : x13_1 < (a0.size : Int) := of_decide_eq_true (by (with_reducible assumption))
      have hx11 := bt_at a0 x13_1
      replace p11 := eq_true p11
      replace q11 := eq_true q11
      go_wp2
      go_meet
      case rel => exact ⟨_, (decide ((bt a0 x13_1) > a2)), (by rfl), H', ⟨by have := HK1.out; omega⟩, by repeat (first | exact Drawn0.refl _ | apply Drawn0.step)⟩
    case rest =>
     clear HC6
     (try clear c5b0)
     obtain ⟨kq, x27_5, rfl, HA, HJ5, ⟨mc5, rfl⟩⟩ := hcut
     cases kq with
     | zero => exact absurd HA.out (by simp [maskref1_within.j1])
     | succ kj5 =>
      have H := HA.out
      clear HA
      simp only [maskref1_within.j1] at H
      replace H := iB H; rcases H with ⟨rfl, H⟩ | ⟨rfl, H⟩
      ·obtain rfl := Option.some.inj H
       go_wp2
       go_ret
       exact ⟨by rfl, by repeat (first | exact Drawn0.refl _ | apply Drawn0.step)⟩
      ·have H' := Aside0.mk H
       clear H
       go_wp2
       go_loopg [30] kj5 (fun kq v30 w' => ∃ (x30_3 : Int), v30 = .int .i64 x30_3 ∧ Aside0 (maskref1_within.l1 kq a0 a1 a2 a3 x13_1 (a0.size : Int) x13_1 (a3.size : Int) x30_3 = some r) ∧ Aside0 (kq ≤ kj5) ∧ Drawn0 w w')
       case atStart => exact ⟨(0), (by rfl), H', ⟨Nat.le_refl _⟩, by repeat (first | exact Drawn0.refl _ | apply Drawn0.step)⟩
       case round =>
        clear H'
        obtain ⟨x30_3, rfl, HA, HK3, ⟨m3, rfl⟩⟩ := hrel
        cases gk with
        | zero => exact absurd HA.out (by simp [maskref1_within.l1])
        | succ k3 =>
         have H := HA.out
         clear HA
         simp only [maskref1_within.l1] at H
         replace H := iD H; rcases H with ⟨c13b0, H⟩ | ⟨c13b0, H⟩
         ·replace H := iN H; obtain ⟨c14b0, H⟩ := H
          replace H := iN H; obtain ⟨c15b0, H⟩ := H
          replace H := iN H; obtain ⟨c17b0, H⟩ := H
          replace H := iN H; obtain ⟨c18b0, H⟩ := H
          replace H := iE H; rcases H with ⟨c20b0, c20b1, H⟩ | ⟨c20, c20b0, c20b1, H⟩
          ·obtain rfl := Option.some.inj H
           have p16 : 0 ≤ (x13_1 : Int) := of_decide_eq_true (by (with_reducible assumption))
           have q16 : x13_1 < (a0.size : Int) := of_decide_eq_true (by (with_reducible assumption))
           have hx16 := bt_at a0 x13_1
           replace p16 := eq_true p16
           replace q16 := eq_true q16
           have p19 : 0 ≤ (x30_3 : Int) := of_decide_eq_true (by (with_reducible assumption))
           have q19 : x30_3 < (a3.size : Int) := of_decide_eq_true (by (with_reducible assumption))
           have hx19 := bt_at a3 x30_3
           replace p19 := eq_true p19
           replace q19 := eq_true q19
           go_wp2
           repeat (go_quiet (fail); try go_wp2)
           go_ret
           exact ⟨by rfl, by repeat (first | exact Drawn0.refl _ | apply Drawn0.step)⟩
          ·have H' := Aside0.mk H
           clear H
           have p16 : 0 ≤ (x13_1 : Int) := of_decide_eq_true (by (with_reducible assumption))
           have q16 : x13_1 < (a0.size : Int) := of_decide_eq_true (by (with_reducible assumption))
           have hx16 := bt_at a0 x13_1
           replace p16 := eq_true p16
           replace q16 := eq_true q16
           have p19 : 0 ≤ (x30_3 : Int) := of_decide_eq_true (by (with_reducible assumption))
           have q19 : x30_3 < (a3.size : Int) := of_decide_eq_true (by (with_reducible assumption))
           have hx19 := bt_at a3 x30_3
           replace p19 := eq_true p19
           replace q19 := eq_true q19
           go_wp2
           repeat (go_quiet (fail); try go_wp2)
           go_roundg k3
           case measure => have := HK1.out; have := HJ5.out; have := HK3.out; omega
           case rel => exact ⟨(wrap64 (x30_3 + 1)), (by rfl), H', ⟨by have := HK1.out; have := HJ5.out; have := HK3.out; omega⟩, by repeat (first | exact Drawn0.refl _ | apply Drawn0.step)⟩
         ·have H' := Aside0.mk H
          clear H
          go_wp2
          go_roundg k3
          case measure => have := HK1.out; have := HJ5.out; have := HK3.out; omega
          case rel => exact ⟨(wrap64 (x13_1 + 1)), (by rfl), H', ⟨by have := HK1.out; have := HJ5.out; have := HK3.out; omega⟩, by repeat (first | exact Drawn0.refl _ | apply Drawn0.step)⟩
   ·obtain rfl := Option.some.inj H
    go_wp2
    go_ret
    exact ⟨by rfl, by repeat (first | exact Drawn0.refl _ | apply Drawn0.step)⟩
end Go.Proofs.Ytlamgdibnnmbmaa.PLex
end
section
namespace Go.Proofs.Ytlamgdibnnmbmaa.PLex
open Go.RowKit Go.Proofs.YtlamgdibnnmbmaaW.PrintWords Go.Proofs.YtlamgdibnnmbmaaW.PrintLast Go.Proofs.YtlamgdibnnmbmaaW.PrintMore
attribute [local go_sem] max2_int min2_int max_two min_two max_three min_three max_four min_four
set_option linter.unusedVariables false
set_option linter.unusedSimpArgs false
def maskref1_inQuoted.f (k : Nat) (a0 : Int) : Option (Bool) := (maskref1_within.f k (strOfNums (([a0] : List Int))) 33 126 (⟨#[46, 91, 93, 34, 92, 96]⟩ : ByteArray)).bind fun t354 => (some t354)
theorem maskref1_inQuoted.mono : ∀ a0 k, LeO (maskref1_inQuoted.f k a0) (maskref1_inQuoted.f (k + 1) a0) := by
 intro a0 k
 unfold maskref1_inQuoted.f
 repeat' first | with_reducible exact maskref1_within.mono _ _ _ _ _ | with_reducible exact LeO.refl _ | with_reducible exact LeO.none _ | with_reducible refine LeO.ite ?_ ?_ | with_reducible refine LeO.bind ?_ (fun _ => ?_)
set_option maxHeartbeats 8000000 in
set_option maxRecDepth 100000 in
theorem maskref1_inQuoted.calls (k : Nat) (a0 : Int) (r : Bool) (w : World) (h : maskref1_inQuoted.f k a0 = some r) :
  Calls Try.prog 56 #[.int .u8 a0] w fun e w' => e = .returned (.bool r) ∧ Below w.heap.size w w' := by
 have HB := Aside0.mk (Below.refl w.heap.size w)
 have H := h
 clear h
 unfold maskref1_inQuoted.f at H
 obtain ⟨y351, hy351⟩ : ∃ y_ : List Int, y_ = ([a0] : List Int) := ⟨_, rfl⟩
 replace H : ((maskref1_within.f k (strOfNums y351) 33 126 (⟨#[46, 91, 93, 34, 92, 96]⟩ : ByteArray)).bind fun t354 => (some t354)) = some r := by (rw [hy351]; with_reducible exact H)
 have Ny351 := Aside0.mk hy351
 clear hy351
 replace H := bN H; obtain ⟨t354, A2, H⟩ := H
 obtain rfl := Option.some.inj H
 go_enter Try.func56, Try.ntmps56
 go_wp2_with (first | ((with_reducible refine gate_dst (N := 4) rfl ?_); refine Kd.R_lit (Kd.int .u8) _ 5 ?hg (N := 4) ?hd (xs := ([a0] : List Int)) (inner := [.int .u8 a0]) (ok := fun _ => True) (okp := fun _ => True) ?hr ?hp (fun _ hk => hk) trivial (Below.refl _ _) (Nat.le_refl _) (by simp) ?_; (case hd => rfl); (case hg => rfl); (case hr => (go_simp; done)); (case hp => exact (Reps.one (show Kd.M (Kd.int .u8) _ _ _ a0 [.int .u8 a0] from rfl) (Reps.none _ _))); intro v352 w3 ho4 hb hg_ hnew_; clear hg_ hnew_; (rw [← Ny351.out] at ho4); have HO353 := Aside0.mk (Kd.R_lower ho4 (below_size HB.out)); replace HB := hb1 HB hb; clear hb ho4; have hcv5 := own_string (P := Try.prog) Try.underlying90 Try.underlying5 Try.underlying9 (Kd.own_of_R HO353.out)) | (refine callA (some 6) Try.func67 #[.string (strOfNums y351), .int .u8 33, .int .u8 126, .string (⟨#[46, 91, 93, 34, 92, 96]⟩ : ByteArray)] ?_; (with_reducible refine (maskref1_within.calls k (strOfNums y351) 33 126 (⟨#[46, 91, 93, 34, 92, 96]⟩ : ByteArray) t354 _ A2.out).mono ?_); rintro e w' ⟨rfl, ⟨nd, rfl⟩⟩; refine ⟨_, rfl, ?_⟩))
 go_ret
 exact ⟨by rfl, by repeat (with_reducible first | exact HB.out | apply pw_below_drewN)⟩
end Go.Proofs.Ytlamgdibnnmbmaa.PLex
end
section
namespace Go.Proofs.Ytlamgdibnnmbmaa.PLex
open Go.RowKit Go.Proofs.YtlamgdibnnmbmaaW.PrintWords Go.Proofs.YtlamgdibnnmbmaaW.PrintLast Go.Proofs.YtlamgdibnnmbmaaW.PrintMore
attribute [local go_sem] max2_int min2_int max_two min_two max_three min_three max_four min_four
set_option linter.unusedVariables false
set_option linter.unusedSimpArgs false
def maskref1_run__inQuoted.l0 : Nat → ByteArray → Int → Int → Option (Int)
 | 0, _, _, _ => none
 | k + 1, x0, x7, x8 => if x8 < x7 then (if 0 ≤ x8 then (if x8 < (x0.size : Int) then ((maskref1_inQuoted.f k (bt x0 x8)).bind fun t355 => (if t355 = true then (maskref1_run__inQuoted.l0 k x0 x7 (wrap64 (x8 + 1))) else (some x8))) else (none)) else (none)) else (some (x0.size : Int))
def maskref1_run__inQuoted.f (k : Nat) (a0 : ByteArray)  : Option (Int) := maskref1_run__inQuoted.l0 k a0 (a0.size : Int) 0
set_option maxHeartbeats 8000000 in
set_option maxRecDepth 100000 in
theorem maskref1_run__inQuoted.calls (k : Nat) (a0 : ByteArray)  (r : Int) (w : World) (h : maskref1_run__inQuoted.f k a0 = some r) :
  Calls Try.prog 53 #[.string a0, .func (.func 56) #[] #[]] w fun e w' => e = .returned (.int .i64 r) ∧ Below w.heap.size w w' := by
 have HB := Aside0.mk (Below.refl w.heap.size w)
 have H := h
 clear h
 unfold maskref1_run__inQuoted.f at H
 have H' := Aside0.mk H
 clear H
 go_enter Try.func53, Try.ntmps53
 go_wp2
 go_loopg [8] k (fun kq v8 w' => ∃ (x8_1 : Int), v8 = .int .i64 x8_1 ∧ Aside0 (maskref1_run__inQuoted.l0 kq a0 (a0.size : Int) x8_1 = some r) ∧ Aside0 (kq ≤ k) ∧ Aside0 (Below w.heap.size w w'))
 case atStart => exact ⟨(0), (by rfl), H', ⟨Nat.le_refl _⟩, ⟨by repeat (with_reducible exact HB.out)⟩⟩
 case round =>
  clear H'
  try clear p2
  obtain ⟨x8_1, rfl, HA, HK1, HB⟩ := hrel
  cases gk with
  | zero => exact absurd HA.out (by simp [maskref1_run__inQuoted.l0])
  | succ k1 =>
   have H := HA.out
   clear HA
   simp only [maskref1_run__inQuoted.l0] at H
   replace H := iD H; rcases H with ⟨c3b0, H⟩ | ⟨c3b0, H⟩
   ·replace H := iN H; obtain ⟨c4b0, H⟩ := H
    replace H := iN H; obtain ⟨c5b0, H⟩ := H
    replace H := bN H; obtain ⟨t355, A7, H⟩ := H
    replace H := iB H; rcases H with ⟨rfl, H⟩ | ⟨rfl, H⟩
    ·have H' := Aside0.mk H
     clear H
     have p6 : 0 ≤ (x8_1 : Int) := of_decide_eq_true (by (with_reducible assumption))
     have q6 : x8_1 < (a0.size : Int) := of_decide_eq_true (by (with_reducible assumption))
     have hx6 := bt_at a0 x8_1
     replace p6 := eq_true p6
     replace q6 := eq_true q6
     go_wp2_with ((go_at_call 56; (with_reducible refine (maskref1_inQuoted.calls k1 (bt a0 x8_1) true _ A7.out).mono ?_); rintro e w9 ⟨rfl, hb⟩; replace HB := hb1 HB hb; (try clear hb)))
     go_roundg k1
     case measure => have := HK1.out; omega
     case rel => exact ⟨(wrap64 (x8_1 + 1)), (by rfl), H', ⟨by have := HK1.out; omega⟩, ⟨by repeat (with_reducible exact HB.out)⟩⟩
    ·obtain rfl := Option.some.inj H
     have p6 : 0 ≤ (x8_1 : Int) := of_decide_eq_true (by (with_reducible assumption))
     have q6 : x8_1 < (a0.size : Int) := of_decide_eq_true (by (with_reducible assumption))
     have hx6 := bt_at a0 x8_1
     replace p6 := eq_true p6
     replace q6 := eq_true q6
     go_wp2_with ((go_at_call 56; (with_reducible refine (maskref1_inQuoted.calls k1 (bt a0 x8_1) false _ A7.out).mono ?_); rintro e w10 ⟨rfl, hb⟩; replace HB := hb1 HB hb; (try clear hb)))
     go_ret
     exact ⟨by rfl, by repeat (with_reducible exact HB.out)⟩
   ·obtain rfl := Option.some.inj H
    go_wp2
    go_ret
    exact ⟨by rfl, by repeat (with_reducible exact HB.out)⟩
end Go.Proofs.Ytlamgdibnnmbmaa.PLex
end
section
namespace Go.Proofs.Ytlamgdibnnmbmaa.PLex
open Go.RowKit Go.Proofs.YtlamgdibnnmbmaaW.PrintWords Go.Proofs.YtlamgdibnnmbmaaW.PrintLast Go.Proofs.YtlamgdibnnmbmaaW.PrintMore
attribute [local go_sem] max2_int min2_int max_two min_two max_three min_three max_four min_four
set_option linter.unusedVariables false
set_option linter.unusedSimpArgs false
mutual
def maskref1_token.j0 : Nat → Int → Int → Int → Int → ByteArray → Bool → Int → Int → Int → Bool → Option (Int × Int × Int × ByteArray × Bool × Int × Int × Int × Bool × Int × Int)
 | 0, _, _, _, _, _, _, _, _, _, _ => none
 | k + 1, x5, x246000, x246001, x246002, x246003, x246004, x246005, x246006, x246007, x246008 => if x5 > 40 then (some (0, 0, 0, (⟨#[]⟩ : ByteArray), false, 0, 0, 0, false, 0, 3)) else (some (x246000, x246001, x246002, x246003, x246004, x246005, x246006, x246007, x246008, x5, 0))
def maskref1_token.j1 : Nat → ByteArray → Int → Bool → Option (Int × Int × Int × ByteArray × Bool × Int × Int × Int × Bool × Int × Int)
 | 0, _, _, _ => none
 | k + 1, x0, x7, x65 => if x65 = true then (some (0, 0, 0, (⟨#[]⟩ : ByteArray), false, 0, 0, 0, false, 0, 10)) else (if x7 > 41 then (some (0, 0, 0, (⟨#[]⟩ : ByteArray), false, 0, 0, 0, false, 0, 3)) else (if 1 ≤ x7 then (if x7 ≤ (x0.size : Int) then (some (1, 0, 0, x0.extract 1 (x7 : Int).toNat, true, 0, 0, 0, false, x7, 0)) else (none)) else (none)))
def maskref1_token.l0 : Nat → ByteArray → List ByteArray → Int → Int → Option (Int × Int × Int × ByteArray × Bool × Int × Int × Int × Bool × Int × Int)
 | 0, _, _, _, _ => none
 | k + 1, x0, x92, x93, x94 => if x94 < x93 then (if 0 ≤ x94 then (if x94 < (x92.length : Int) then (if ((rdOf ByteArray.empty x92 x94).size : Int) ≤ (x0.size : Int) then (if 0 ≤ ((rdOf ByteArray.empty x92 x94).size : Int) then (if (x0.extract 0 (((rdOf ByteArray.empty x92 x94).size : Int) : Int).toNat).toList = (rdOf ByteArray.empty x92 x94).toList then (some (5, 0, 0, rdOf ByteArray.empty x92 x94, false, 0, 0, 0, false, ((rdOf ByteArray.empty x92 x94).size : Int), 0)) else (maskref1_token.l0 k x0 x92 x93 (wrap64 (x94 + 1)))) else (none)) else (maskref1_token.l0 k x0 x92 x93 (wrap64 (x94 + 1)))) else (none)) else (none)) else (some (0, 0, 0, (⟨#[]⟩ : ByteArray), false, 0, 0, 0, false, 0, 10))
end
def maskref1_token.f (k : Nat) (a0 : ByteArray) : Option (Int × Int × Int × ByteArray × Bool × Int × Int × Int × Bool × Int × Int) := (maskref1_run__isWord.f k a0).bind fun t243 => (if 0 < (a0.size : Int) then ((maskref1_isLetter.f (bt a0 0)).bind fun t244 => (if t244 = true then (if 0 ≤ t243 then (if t243 ≤ (a0.size : Int) then (if 1 + (a0.extract 0 (t243 : Int).toNat).size ≤ 9223372036854775807 then (if ((⟨#[32]⟩ : ByteArray) ++ (a0.extract 0 (t243 : Int).toNat)).size + 1 ≤ 9223372036854775807 then ((maskref1_contains.f k (⟨#[32, 97, 102, 116, 101, 114, 32, 97, 108, 119, 97, 121, 115, 32, 97, 110, 100, 32, 97, 115, 115, 105, 103, 110, 32, 99, 97, 115, 101, 32, 99, 97, 115, 101, 120, 32, 99, 97, 115, 101, 122, 32, 99, 97, 116, 32, 99, 104, 101, 99, 107, 32, 99, 111, 109, 98, 32, 99, 111, 110, 115, 116, 32, 100, 101, 102, 97, 117, 108, 116, 32, 100, 101, 108, 97, 121, 32, 100, 111, 119, 110, 116, 111, 32, 101, 108, 115, 101, 32, 101, 110, 117, 109, 32, 102, 97, 108, 108, 32, 102, 111, 114, 32, 102, 117, 110, 99, 116, 105, 111, 110, 32, 105, 102, 32, 105, 110, 32, 105, 110, 105, 116, 105, 97, 108, 32, 105, 110, 115, 116, 32, 105, 110, 116, 101, 114, 102, 97, 99, 101, 32, 108, 105, 110, 107, 32, 108, 111, 103, 32, 109, 111, 100, 117, 108, 101, 32, 109, 111, 110, 105, 116, 111, 114, 32, 110, 111, 119, 32, 111, 110, 32, 111, 114, 32, 111, 117, 116, 32, 112, 114, 111, 112, 101, 114, 116, 121, 32, 114, 101, 112, 32, 114, 101, 112, 101, 97, 116, 32, 114, 105, 115, 101, 32, 115, 101, 113, 32, 115, 104, 111, 119, 32, 115, 105, 103, 110, 101, 100, 32, 115, 105, 122, 101, 32, 115, 116, 111, 112, 32, 115, 116, 114, 111, 98, 101, 32, 115, 116, 114, 117, 99, 116, 32, 116, 104, 101, 110, 32, 116, 105, 109, 101, 115, 32, 116, 111, 32, 117, 110, 115, 105, 103, 110, 101, 100, 32, 118, 97, 114, 32, 118, 105, 101, 119, 32, 119, 97, 105, 116, 32, 119, 104, 105, 108, 101, 32, 119, 105, 100, 116, 104, 32, 119, 105, 114, 101, 32, 119, 114, 105, 116, 101, 32]⟩ : ByteArray) (((⟨#[32]⟩ : ByteArray) ++ (a0.extract 0 (t243 : Int).toNat)) ++ (⟨#[32]⟩ : ByteArray))).bind fun t246 => (if t246 = true then (maskref1_token.j0 k t243 2 0 0 (a0.extract 0 (t243 : Int).toNat) false 0 0 0 false) else (maskref1_token.j0 k t243 1 0 0 (a0.extract 0 (t243 : Int).toNat) false 0 0 0 false))) else (none)) else (none)) else (none)) else (none)) else (if (bt a0 0) = 92 then (if 1 ≤ (a0.size : Int) then ((maskref1_run__inQuoted.f k (a0.extract 1 a0.size)).bind fun t247 => (if (wrap64 (1 + t247)) = 1 then (maskref1_token.j1 k a0 (wrap64 (1 + t247)) true) else (if (wrap64 (1 + t247)) < (a0.size : Int) then (if 0 ≤ (wrap64 (1 + t247)) then (if (bt a0 (wrap64 (1 + t247))) = 32 then (maskref1_token.j1 k a0 (wrap64 (1 + t247)) false) else (if (bt a0 (wrap64 (1 + t247))) = 9 then (maskref1_token.j1 k a0 (wrap64 (1 + t247)) false) else (maskref1_token.j1 k a0 (wrap64 (1 + t247)) ((bt a0 (wrap64 (1 + t247))) != 10)))) else (none)) else (maskref1_token.j1 k a0 (wrap64 (1 + t247)) false)))) else (none)) else (if (bt a0 0) = 34 then ((maskref1_stringToken.f k a0).bind fun bt248 => (some (bt248.1, bt248.2.1, bt248.2.2.1, bt248.2.2.2.1, bt248.2.2.2.2.1, bt248.2.2.2.2.2.1, bt248.2.2.2.2.2.2.1, bt248.2.2.2.2.2.2.2.1, bt248.2.2.2.2.2.2.2.2.1, bt248.2.2.2.2.2.2.2.2.2.1, bt248.2.2.2.2.2.2.2.2.2.2))) else (if t243 > 0 then ((maskref1_numberToken.f k a0).bind fun bt259 => (some (bt259.1, bt259.2.1, bt259.2.2.1, bt259.2.2.2.1, bt259.2.2.2.2.1, bt259.2.2.2.2.2.1, bt259.2.2.2.2.2.2.1, bt259.2.2.2.2.2.2.2.1, bt259.2.2.2.2.2.2.2.2.1, bt259.2.2.2.2.2.2.2.2.2.1, bt259.2.2.2.2.2.2.2.2.2.2))) else ((maskref1_LexSigns.f k).bind fun t270 => (maskref1_token.l0 k a0 t270 (t270.length : Int) 0))))))) else (none))
set_option maxHeartbeats 8000000 in
set_option maxRecDepth 100000 in
theorem maskref1_token.calls (k : Nat) (a0 : ByteArray) (r1 : Int) (r2 : Int) (r3 : Int) (r4 : ByteArray) (r5 : Bool) (r6 : Int) (r7 : Int) (r8 : Int) (r9 : Bool) (r10 : Int) (r11 : Int) (w : World) (h : maskref1_token.f k a0 = some (r1, r2, r3, r4, r5, r6, r7, r8, r9, r10, r11)) :
  Calls Try.prog 31 #[.string a0] w fun e w' => e = .returned (.tuple #[.agg #[.int .i64 r1, .int .i64 r2, .int .i64 r3, .string r4, .bool r5, .int .i64 r6, .int .u64 r7, .int .u64 r8, .bool r9], .int .i64 r10, .int .i64 r11]) ∧ Below w.heap.size w w' := by
 have hu51 := Try.underlying51
 have HB := Aside0.mk (Below.refl w.heap.size w)
 have H := h
 clear h
 unfold maskref1_token.f at H
 replace H := bN H; obtain ⟨t243, A2, H⟩ := H
 by_cases c3 : 0 < (a0.size : Int)
 ·rw [if_pos c3] at H
  have c3b0 : decide (0 < (a0.size : Int)) = true := decide_eq_true c3
  have c3b1 : decide (0 < a0.size) = true := decide_eq_true (by omega)
  clear c3
  replace H := bN H; obtain ⟨t244, A5, H⟩ := H
  replace H := iB H; rcases H with ⟨rfl, H⟩ | ⟨rfl, H⟩
  ·by_cases c7 : 0 ≤ t243
   ·rw [if_pos c7] at H
    have c7b0 := eq_true c7
    have c7b1 : decide (0 ≤ t243) = true := decide_eq_true c7
    clear c7
    by_cases c8 : t243 ≤ (a0.size : Int)
    ·rw [if_pos c8] at H
     have c8b0 := eq_true c8
     have c8b1 : decide (t243 ≤ (a0.size : Int)) = true := decide_eq_true c8
     clear c8
     have c9b0 := eq_true (of_decide_eq_true (by (with_reducible assumption)) : 0 ≤ t243)
     have c10b0 := eq_true (of_decide_eq_true (by (with_reducible assumption)) : t243 ≤ (a0.size : Int))
     by_cases c11 : 1 + (a0.extract 0 (t243 : Int).toNat).size ≤ 9223372036854775807
     ·rw [if_pos c11] at H
      have c11b0 := eq_true c11
      have c11b1 : decide (1 + (a0.extract 0 (t243 : Int).toNat).size ≤ 9223372036854775807) = true := decide_eq_true c11
      try have c11b2 : (9223372036854775807 < 1 + (a0.extract 0 (t243 : Int).toNat).size) = False := eq_false (Nat.not_lt.2 c11)
      by_cases c12 : ((⟨#[32]⟩ : ByteArray) ++ (a0.extract 0 (t243 : Int).toNat)).size + 1 ≤ 9223372036854775807
      ·rw [if_pos c12] at H
       have c12b0 := eq_true c12
       have c12b1 : decide (((⟨#[32]⟩ : ByteArray) ++ (a0.extract 0 (t243 : Int).toNat)).size + 1 ≤ 9223372036854775807) = true := decide_eq_true c12
       try have c12b2 : (9223372036854775807 < ((⟨#[32]⟩ : ByteArray) ++ (a0.extract 0 (t243 : Int).toNat)).size + 1) = False := eq_false (Nat.not_lt.2 c12)
       have hsz_ : (a0.extract 0 (t243 : Int).toNat).size = (t243 : Int).toNat := by
        have h8 := of_decide_eq_true c8b1
        rw [ByteArray.size_extract]; omega
       have c12b3 : (9223372036854775807 < 1 + t243.toNat) = False := by rw [← hsz_]; exact eq_false (Nat.not_lt.2 c11)
       have c12b4 : (9223372036854775807 < 1 + t243.toNat + 1) = False := by
        rw [← hsz_]; refine eq_false (Nat.not_lt.2 ?_)
        have h12 := c12
        rw [ByteArray.size_append] at h12
        exact h12
       clear hsz_
       replace H := bN H; obtain ⟨t246, A13, H⟩ := H
       have HC14 := Aside0.mk H
       clear H
       go_enter Try.func31, Try.ntmps31
       go_upto_if 25 with (first | ((with_reducible refine gate_dst (N := 2) rfl ?_); (try (refine gate_guard (by rfl) ?_; dsimp only)); refine boxA HB 2 #[.int .i64 0, .int .i64 0, .int .i64 0, .string (⟨#[]⟩ : ByteArray), .bool false, .int .i64 0, .int .u64 0, .int .u64 0, .bool false] 51 ?_; clear HB; intro gb242 w15 BK242 GE242 hg hb HB; clear hb hg) | (refine callA (some 11) Try.func53 #[.string a0, (.func (.func 54) #[] #[])] ?_; (with_reducible refine (maskref1_run__isWord.calls k a0  t243 _ A2.out).mono ?_); rintro e w16 ⟨rfl, hb⟩; replace hb := Drawn0.below hb; refine ⟨_, rfl, ?_⟩; replace BK242 := bk1 BK242 hb; replace HB := hb1 HB hb; (try clear hb); have p4 : 0 ≤ (0 : Int) := (by omega); have q4 : 0 < a0.size := (by have : (0 : Int) < (a0.size : Int) := of_decide_eq_true (by (with_reducible assumption)); omega); have hx4 : ∀ h : 0 < a0.size, ((a0[0]'h).toNat : Int) = bt a0 0 := bt_at a0 0; clear p4; have qi4 : (0 < (a0.size : Int)) = True := eq_true (of_decide_eq_true (by (with_reducible assumption))); replace q4 := eq_true q4) | (refine callA (some 15) Try.func55 #[.int .u8 (bt a0 0)] ?_; (with_reducible refine (maskref1_isLetter.calls (bt a0 0) true _ A5.out).mono ?_); rintro e w' ⟨rfl, ⟨nd, rfl⟩⟩; refine ⟨_, rfl, ?_⟩; (try (rw [drewN_self w16]; generalize hq_ : World.drewN w16 _ = w16; have n0_ : Aside0 (w16.heap[gb242]? = some (.cells #[.int .i64 0, .int .i64 0, .int .i64 0, .string (⟨#[]⟩ : ByteArray), .bool false, .int .i64 0, .int .u64 0, .int .u64 0, .bool false] 51 (0, 0))) := ⟨by rw [← hq_]; exact (by (with_reducible repeat (refine blk_drewN ?_ _)); exact BK242.out)⟩; have n1_ : Aside0 (Below w.heap.size w w16) := ⟨by rw [← hq_]; exact (by repeat (with_reducible first | exact HB.out | apply pw_below_drewN))⟩; clear BK242 HB hq_; have BK242 := n0_; have HB := n1_; clear n0_ n1_))) | ((with_reducible refine gate_dst (N := 6) rfl ?_); (try (refine gate_guard (by rfl) ?_; dsimp only)); refine boxA HB 6 #[.int .i64 0, .int .i64 0, .int .i64 0, .string (⟨#[]⟩ : ByteArray), .bool false, .int .i64 0, .int .u64 0, .int .u64 0, .bool false] 51 ?_; clear HB; intro gb245 w17 BK245 GE245 hg hb HB; have NB242_245 := Aside0.mk ((by rw [hg]; exact Nat.ne_of_lt (blk_lt (g := gb242) (o := .cells #[.int .i64 0, .int .i64 0, .int .i64 0, .string (⟨#[]⟩ : ByteArray), .bool false, .int .i64 0, .int .u64 0, .int .u64 0, .bool false] 51 (0, 0)) BK242.out) : gb242 ≠ gb245)); have NB245_242 := Aside0.mk ((by rw [hg]; exact Nat.ne_of_gt (blk_lt (g := gb242) (o := .cells #[.int .i64 0, .int .i64 0, .int .i64 0, .string (⟨#[]⟩ : ByteArray), .bool false, .int .i64 0, .int .u64 0, .int .u64 0, .bool false] 51 (0, 0)) BK242.out) : gb245 ≠ gb242)); replace BK242 := bk1 BK242 hb; clear hb hg; have hnb18 := NB245_242.out; have hnc18 := NB242_245.out; obtain ⟨hcz19_0, hcz19_1, hcz19_2, hcz19_3, hcz19_4, hcz19_5, hcz19_6, hcz19_7, hcz19_8, hfz19_0, hfz19_1, hfz19_2, hfz19_3, hfz19_4, hfz19_5, hfz19_6, hfz19_7, hfz19_8⟩ := cf9 BK245) | (refine callA (some 25) Try.func34 #[.string (⟨#[32, 97, 102, 116, 101, 114, 32, 97, 108, 119, 97, 121, 115, 32, 97, 110, 100, 32, 97, 115, 115, 105, 103, 110, 32, 99, 97, 115, 101, 32, 99, 97, 115, 101, 120, 32, 99, 97, 115, 101, 122, 32, 99, 97, 116, 32, 99, 104, 101, 99, 107, 32, 99, 111, 109, 98, 32, 99, 111, 110, 115, 116, 32, 100, 101, 102, 97, 117, 108, 116, 32, 100, 101, 108, 97, 121, 32, 100, 111, 119, 110, 116, 111, 32, 101, 108, 115, 101, 32, 101, 110, 117, 109, 32, 102, 97, 108, 108, 32, 102, 111, 114, 32, 102, 117, 110, 99, 116, 105, 111, 110, 32, 105, 102, 32, 105, 110, 32, 105, 110, 105, 116, 105, 97, 108, 32, 105, 110, 115, 116, 32, 105, 110, 116, 101, 114, 102, 97, 99, 101, 32, 108, 105, 110, 107, 32, 108, 111, 103, 32, 109, 111, 100, 117, 108, 101, 32, 109, 111, 110, 105, 116, 111, 114, 32, 110, 111, 119, 32, 111, 110, 32, 111, 114, 32, 111, 117, 116, 32, 112, 114, 111, 112, 101, 114, 116, 121, 32, 114, 101, 112, 32, 114, 101, 112, 101, 97, 116, 32, 114, 105, 115, 101, 32, 115, 101, 113, 32, 115, 104, 111, 119, 32, 115, 105, 103, 110, 101, 100, 32, 115, 105, 122, 101, 32, 115, 116, 111, 112, 32, 115, 116, 114, 111, 98, 101, 32, 115, 116, 114, 117, 99, 116, 32, 116, 104, 101, 110, 32, 116, 105, 109, 101, 115, 32, 116, 111, 32, 117, 110, 115, 105, 103, 110, 101, 100, 32, 118, 97, 114, 32, 118, 105, 101, 119, 32, 119, 97, 105, 116, 32, 119, 104, 105, 108, 101, 32, 119, 105, 100, 116, 104, 32, 119, 105, 114, 101, 32, 119, 114, 105, 116, 101, 32]⟩ : ByteArray), .string (((⟨#[32]⟩ : ByteArray) ++ (a0.extract 0 (t243 : Int).toNat)) ++ (⟨#[32]⟩ : ByteArray))] ?_; (with_reducible refine (maskref1_contains.calls k (⟨#[32, 97, 102, 116, 101, 114, 32, 97, 108, 119, 97, 121, 115, 32, 97, 110, 100, 32, 97, 115, 115, 105, 103, 110, 32, 99, 97, 115, 101, 32, 99, 97, 115, 101, 120, 32, 99, 97, 115, 101, 122, 32, 99, 97, 116, 32, 99, 104, 101, 99, 107, 32, 99, 111, 109, 98, 32, 99, 111, 110, 115, 116, 32, 100, 101, 102, 97, 117, 108, 116, 32, 100, 101, 108, 97, 121, 32, 100, 111, 119, 110, 116, 111, 32, 101, 108, 115, 101, 32, 101, 110, 117, 109, 32, 102, 97, 108, 108, 32, 102, 111, 114, 32, 102, 117, 110, 99, 116, 105, 111, 110, 32, 105, 102, 32, 105, 110, 32, 105, 110, 105, 116, 105, 97, 108, 32, 105, 110, 115, 116, 32, 105, 110, 116, 101, 114, 102, 97, 99, 101, 32, 108, 105, 110, 107, 32, 108, 111, 103, 32, 109, 111, 100, 117, 108, 101, 32, 109, 111, 110, 105, 116, 111, 114, 32, 110, 111, 119, 32, 111, 110, 32, 111, 114, 32, 111, 117, 116, 32, 112, 114, 111, 112, 101, 114, 116, 121, 32, 114, 101, 112, 32, 114, 101, 112, 101, 97, 116, 32, 114, 105, 115, 101, 32, 115, 101, 113, 32, 115, 104, 111, 119, 32, 115, 105, 103, 110, 101, 100, 32, 115, 105, 122, 101, 32, 115, 116, 111, 112, 32, 115, 116, 114, 111, 98, 101, 32, 115, 116, 114, 117, 99, 116, 32, 116, 104, 101, 110, 32, 116, 105, 109, 101, 115, 32, 116, 111, 32, 117, 110, 115, 105, 103, 110, 101, 100, 32, 118, 97, 114, 32, 118, 105, 101, 119, 32, 119, 97, 105, 116, 32, 119, 104, 105, 108, 101, 32, 119, 105, 100, 116, 104, 32, 119, 105, 114, 101, 32, 119, 114, 105, 116, 101, 32]⟩ : ByteArray) (((⟨#[32]⟩ : ByteArray) ++ (a0.extract 0 (t243 : Int).toNat)) ++ (⟨#[32]⟩ : ByteArray)) t246 _ A13.out).mono ?_); rintro e w' ⟨rfl, ⟨nd, rfl⟩⟩; refine ⟨_, rfl, ?_⟩))
       (try simp only [Act.put, List.setIfInBounds_toArray, List.set_cons_zero, List.set_cons_succ])
       go_cut [] (fun wc => ∃ (kq : Nat) (x246000_13 : Int), Aside0 (maskref1_token.j0 kq t243 x246000_13 0 0 (a0.extract 0 (t243 : Int).toNat) false 0 0 0 false = some (r1, r2, r3, r4, r5, r6, r7, r8, r9, r10, r11)) ∧ Aside0 (kq ≤ k) ∧ Aside0 (wc.heap[gb242]? = some (.cells #[.int .i64 0, .int .i64 0, .int .i64 0, .string (⟨#[]⟩ : ByteArray), .bool false, .int .i64 0, .int .u64 0, .int .u64 0, .bool false] 51 (0, 0))) ∧ Aside0 (wc.heap[gb245]? = some (.cells #[.int .i64 x246000_13, .int .i64 0, .int .i64 0, .string (a0.extract 0 (t243 : Int).toNat), .bool false, .int .i64 0, .int .u64 0, .int .u64 0, .bool false] 51 (0, 0))) ∧ Aside0 (Below w.heap.size w wc))
       case first =>
        have H := HC14.out
        clear HC14
        replace H := iB H; rcases H with ⟨rfl, H⟩ | ⟨rfl, H⟩
        ·have H' := Aside0.mk H
         clear H
         have hnb21 := NB245_242.out
         have hnc21 := NB242_245.out
         obtain ⟨hcz22_0, hcz22_1, hcz22_2, hcz22_3, hcz22_4, hcz22_5, hcz22_6, hcz22_7, hcz22_8, hfz22_0, hfz22_1, hfz22_2, hfz22_3, hfz22_4, hfz22_5, hfz22_6, hfz22_7, hfz22_8⟩ := cf9 BK245
         go_wp2
         go_meet
         case rel => exact ⟨_, (2), H', ⟨by omega⟩, ⟨by refine blk_far ?_ NB242_245.out _; (with_reducible repeat (refine blk_drewN ?_ _)); refine blk_far ?_ NB242_245.out _; refine blk_far ?_ NB242_245.out _; refine blk_far ?_ NB242_245.out _; refine blk_far ?_ NB242_245.out _; refine blk_far ?_ NB242_245.out _; refine blk_far ?_ NB242_245.out _; refine blk_far ?_ NB242_245.out _; refine blk_far ?_ NB242_245.out _; refine blk_far ?_ NB242_245.out _; exact BK242.out⟩, ⟨by refine blk_put (cs := #[.int .i64 1, .int .i64 0, .int .i64 0, .string (a0.extract 0 (t243 : Int).toNat), .bool false, .int .i64 0, .int .u64 0, .int .u64 0, .bool false]) ?_ 0 _ rfl; (with_reducible repeat (refine blk_drewN ?_ _)); refine blk_put (cs := #[.int .i64 1, .int .i64 0, .int .i64 0, .string (a0.extract 0 (t243 : Int).toNat), .bool false, .int .i64 0, .int .u64 0, .int .u64 0, .bool false]) ?_ 8 _ rfl; refine blk_put (cs := #[.int .i64 1, .int .i64 0, .int .i64 0, .string (a0.extract 0 (t243 : Int).toNat), .bool false, .int .i64 0, .int .u64 0, .int .u64 0, .bool false]) ?_ 7 _ rfl; refine blk_put (cs := #[.int .i64 1, .int .i64 0, .int .i64 0, .string (a0.extract 0 (t243 : Int).toNat), .bool false, .int .i64 0, .int .u64 0, .int .u64 0, .bool false]) ?_ 6 _ rfl; refine blk_put (cs := #[.int .i64 1, .int .i64 0, .int .i64 0, .string (a0.extract 0 (t243 : Int).toNat), .bool false, .int .i64 0, .int .u64 0, .int .u64 0, .bool false]) ?_ 5 _ rfl; refine blk_put (cs := #[.int .i64 1, .int .i64 0, .int .i64 0, .string (a0.extract 0 (t243 : Int).toNat), .bool false, .int .i64 0, .int .u64 0, .int .u64 0, .bool false]) ?_ 4 _ rfl; refine blk_put (cs := #[.int .i64 1, .int .i64 0, .int .i64 0, .string (⟨#[]⟩ : ByteArray), .bool false, .int .i64 0, .int .u64 0, .int .u64 0, .bool false]) ?_ 3 _ rfl; refine blk_put (cs := #[.int .i64 1, .int .i64 0, .int .i64 0, .string (⟨#[]⟩ : ByteArray), .bool false, .int .i64 0, .int .u64 0, .int .u64 0, .bool false]) ?_ 2 _ rfl; refine blk_put (cs := #[.int .i64 1, .int .i64 0, .int .i64 0, .string (⟨#[]⟩ : ByteArray), .bool false, .int .i64 0, .int .u64 0, .int .u64 0, .bool false]) ?_ 1 _ rfl; refine blk_put (cs := #[.int .i64 0, .int .i64 0, .int .i64 0, .string (⟨#[]⟩ : ByteArray), .bool false, .int .i64 0, .int .u64 0, .int .u64 0, .bool false]) ?_ 0 _ rfl; exact BK245.out⟩, ⟨by repeat (with_reducible first | exact HB.out | apply pw_below_drewN | refine below_set ?_ GE245.out)⟩⟩
        ·have H' := Aside0.mk H
         clear H
         go_wp2
         go_meet
         case rel => exact ⟨_, (1), H', ⟨by omega⟩, ⟨by (with_reducible repeat (refine blk_drewN ?_ _)); refine blk_far ?_ NB242_245.out _; refine blk_far ?_ NB242_245.out _; refine blk_far ?_ NB242_245.out _; refine blk_far ?_ NB242_245.out _; refine blk_far ?_ NB242_245.out _; refine blk_far ?_ NB242_245.out _; refine blk_far ?_ NB242_245.out _; refine blk_far ?_ NB242_245.out _; refine blk_far ?_ NB242_245.out _; exact BK242.out⟩, ⟨by (with_reducible repeat (refine blk_drewN ?_ _)); refine blk_put (cs := #[.int .i64 1, .int .i64 0, .int .i64 0, .string (a0.extract 0 (t243 : Int).toNat), .bool false, .int .i64 0, .int .u64 0, .int .u64 0, .bool false]) ?_ 8 _ rfl; refine blk_put (cs := #[.int .i64 1, .int .i64 0, .int .i64 0, .string (a0.extract 0 (t243 : Int).toNat), .bool false, .int .i64 0, .int .u64 0, .int .u64 0, .bool false]) ?_ 7 _ rfl; refine blk_put (cs := #[.int .i64 1, .int .i64 0, .int .i64 0, .string (a0.extract 0 (t243 : Int).toNat), .bool false, .int .i64 0, .int .u64 0, .int .u64 0, .bool false]) ?_ 6 _ rfl; refine blk_put (cs := #[.int .i64 1, .int .i64 0, .int .i64 0, .string (a0.extract 0 (t243 : Int).toNat), .bool false, .int .i64 0, .int .u64 0, .int .u64 0, .bool false]) ?_ 5 _ rfl; refine blk_put (cs := #[.int .i64 1, .int .i64 0, .int .i64 0, .string (a0.extract 0 (t243 : Int).toNat), .bool false, .int .i64 0, .int .u64 0, .int .u64 0, .bool false]) ?_ 4 _ rfl; refine blk_put (cs := #[.int .i64 1, .int .i64 0, .int .i64 0, .string (⟨#[]⟩ : ByteArray), .bool false, .int .i64 0, .int .u64 0, .int .u64 0, .bool false]) ?_ 3 _ rfl; refine blk_put (cs := #[.int .i64 1, .int .i64 0, .int .i64 0, .string (⟨#[]⟩ : ByteArray), .bool false, .int .i64 0, .int .u64 0, .int .u64 0, .bool false]) ?_ 2 _ rfl; refine blk_put (cs := #[.int .i64 1, .int .i64 0, .int .i64 0, .string (⟨#[]⟩ : ByteArray), .bool false, .int .i64 0, .int .u64 0, .int .u64 0, .bool false]) ?_ 1 _ rfl; refine blk_put (cs := #[.int .i64 0, .int .i64 0, .int .i64 0, .string (⟨#[]⟩ : ByteArray), .bool false, .int .i64 0, .int .u64 0, .int .u64 0, .bool false]) ?_ 0 _ rfl; exact BK245.out⟩, ⟨by repeat (with_reducible first | exact HB.out | apply pw_below_drewN | refine below_set ?_ GE245.out)⟩⟩
       case rest =>
        clear HC14
        (try clear c3b0); (try clear c3b1); (try clear q4); (try clear hx4); (try clear qi4); (try clear c7b0); (try clear c7b1); (try clear c8b0); (try clear c8b1); (try clear c9b0); (try clear c10b0); (try clear c11); (try clear c11b0); (try clear c11b1); (try clear c11b2); (try clear c12); (try clear c12b0); (try clear c12b1); (try clear c12b2); (try clear hcz19_0 hcz19_1 hcz19_2 hcz19_3 hcz19_4 hcz19_5 hcz19_6 hcz19_7 hcz19_8); (try clear hfz19_0 hfz19_1 hfz19_2 hfz19_3 hfz19_4 hfz19_5 hfz19_6 hfz19_7 hfz19_8)
        obtain ⟨kq, x246000_13, HA, HJ13, BK242, BK245, HB⟩ := hcut
        cases kq with
        | zero => exact absurd HA.out (by simp [maskref1_token.j0])
        | succ kj13 =>
         have H := HA.out
         clear HA
         simp only [maskref1_token.j0] at H
         replace H := iD H; rcases H with ⟨c23b0, H⟩ | ⟨c23b0, H⟩
         ·replace c23b0 : decide (40 < t243) = true := c23b0
          simp only [Option.some.injEq, Prod.mk.injEq] at H
          obtain ⟨rfl, rfl, rfl, rfl, rfl, rfl, rfl, rfl, rfl, rfl, rfl⟩ := H
          have hnb24 := NB242_245.out
          have hnc24 := NB245_242.out
          obtain ⟨hcz25_0, hcz25_1, hcz25_2, hcz25_3, hcz25_4, hcz25_5, hcz25_6, hcz25_7, hcz25_8, hfz25_0, hfz25_1, hfz25_2, hfz25_3, hfz25_4, hfz25_5, hfz25_6, hfz25_7, hfz25_8⟩ := cf9 BK242
          go_wp2
          refine bodyPost_ret (results_ctt rfl _ _ gb242 51 #[.int .i64 0, .int .i64 0, .int .i64 0, .string (⟨#[]⟩ : ByteArray), .bool false, .int .i64 0, .int .u64 0, .int .u64 0, .bool false] (0, 0) _ rfl (by refine blk_put (cs := #[.int .i64 0, .int .i64 0, .int .i64 0, .string (⟨#[]⟩ : ByteArray), .bool false, .int .i64 0, .int .u64 0, .int .u64 0, .bool false]) ?_ 8 _ rfl; refine blk_put (cs := #[.int .i64 0, .int .i64 0, .int .i64 0, .string (⟨#[]⟩ : ByteArray), .bool false, .int .i64 0, .int .u64 0, .int .u64 0, .bool false]) ?_ 7 _ rfl; refine blk_put (cs := #[.int .i64 0, .int .i64 0, .int .i64 0, .string (⟨#[]⟩ : ByteArray), .bool false, .int .i64 0, .int .u64 0, .int .u64 0, .bool false]) ?_ 6 _ rfl; refine blk_put (cs := #[.int .i64 0, .int .i64 0, .int .i64 0, .string (⟨#[]⟩ : ByteArray), .bool false, .int .i64 0, .int .u64 0, .int .u64 0, .bool false]) ?_ 5 _ rfl; refine blk_put (cs := #[.int .i64 0, .int .i64 0, .int .i64 0, .string (⟨#[]⟩ : ByteArray), .bool false, .int .i64 0, .int .u64 0, .int .u64 0, .bool false]) ?_ 4 _ rfl; refine blk_put (cs := #[.int .i64 0, .int .i64 0, .int .i64 0, .string (⟨#[]⟩ : ByteArray), .bool false, .int .i64 0, .int .u64 0, .int .u64 0, .bool false]) ?_ 3 _ rfl; refine blk_put (cs := #[.int .i64 0, .int .i64 0, .int .i64 0, .string (⟨#[]⟩ : ByteArray), .bool false, .int .i64 0, .int .u64 0, .int .u64 0, .bool false]) ?_ 2 _ rfl; refine blk_put (cs := #[.int .i64 0, .int .i64 0, .int .i64 0, .string (⟨#[]⟩ : ByteArray), .bool false, .int .i64 0, .int .u64 0, .int .u64 0, .bool false]) ?_ 1 _ rfl; refine blk_put (cs := #[.int .i64 0, .int .i64 0, .int .i64 0, .string (⟨#[]⟩ : ByteArray), .bool false, .int .i64 0, .int .u64 0, .int .u64 0, .bool false]) ?_ 0 _ rfl; exact BK242.out) Try.underlying51 rfl (by kernel_rfl)) rfl ?_
          exact ⟨by rfl, by repeat (with_reducible first | exact HB.out | refine below_set ?_ GE242.out)⟩
         ·replace c23b0 : decide (40 < t243) = false := c23b0
          simp only [Option.some.injEq, Prod.mk.injEq] at H
          obtain ⟨rfl, rfl, rfl, rfl, rfl, rfl, rfl, rfl, rfl, rfl, rfl⟩ := H
          have hnb26 := NB245_242.out
          have hnc26 := NB242_245.out
          obtain ⟨hcz27_0, hcz27_1, hcz27_2, hcz27_3, hcz27_4, hcz27_5, hcz27_6, hcz27_7, hcz27_8, hfz27_0, hfz27_1, hfz27_2, hfz27_3, hfz27_4, hfz27_5, hfz27_6, hfz27_7, hfz27_8⟩ := cf9 BK245
          obtain ⟨hcz28_0, hcz28_1, hcz28_2, hcz28_3, hcz28_4, hcz28_5, hcz28_6, hcz28_7, hcz28_8, hfz28_0, hfz28_1, hfz28_2, hfz28_3, hfz28_4, hfz28_5, hfz28_6, hfz28_7, hfz28_8⟩ := cf9 BK242
          go_wp2
          refine bodyPost_ret (results_ctt rfl _ _ gb242 51 #[.int .i64 x246000_13, .int .i64 0, .int .i64 0, .string (a0.extract 0 (t243 : Int).toNat), .bool false, .int .i64 0, .int .u64 0, .int .u64 0, .bool false] (0, 0) _ rfl (by refine blk_put (cs := #[.int .i64 x246000_13, .int .i64 0, .int .i64 0, .string (a0.extract 0 (t243 : Int).toNat), .bool false, .int .i64 0, .int .u64 0, .int .u64 0, .bool false]) ?_ 8 _ rfl; refine blk_put (cs := #[.int .i64 x246000_13, .int .i64 0, .int .i64 0, .string (a0.extract 0 (t243 : Int).toNat), .bool false, .int .i64 0, .int .u64 0, .int .u64 0, .bool false]) ?_ 7 _ rfl; refine blk_put (cs := #[.int .i64 x246000_13, .int .i64 0, .int .i64 0, .string (a0.extract 0 (t243 : Int).toNat), .bool false, .int .i64 0, .int .u64 0, .int .u64 0, .bool false]) ?_ 6 _ rfl; refine blk_put (cs := #[.int .i64 x246000_13, .int .i64 0, .int .i64 0, .string (a0.extract 0 (t243 : Int).toNat), .bool false, .int .i64 0, .int .u64 0, .int .u64 0, .bool false]) ?_ 5 _ rfl; refine blk_put (cs := #[.int .i64 x246000_13, .int .i64 0, .int .i64 0, .string (a0.extract 0 (t243 : Int).toNat), .bool false, .int .i64 0, .int .u64 0, .int .u64 0, .bool false]) ?_ 4 _ rfl; refine blk_put (cs := #[.int .i64 x246000_13, .int .i64 0, .int .i64 0, .string (⟨#[]⟩ : ByteArray), .bool false, .int .i64 0, .int .u64 0, .int .u64 0, .bool false]) ?_ 3 _ rfl; refine blk_put (cs := #[.int .i64 x246000_13, .int .i64 0, .int .i64 0, .string (⟨#[]⟩ : ByteArray), .bool false, .int .i64 0, .int .u64 0, .int .u64 0, .bool false]) ?_ 2 _ rfl; refine blk_put (cs := #[.int .i64 x246000_13, .int .i64 0, .int .i64 0, .string (⟨#[]⟩ : ByteArray), .bool false, .int .i64 0, .int .u64 0, .int .u64 0, .bool false]) ?_ 1 _ rfl; refine blk_put (cs := #[.int .i64 0, .int .i64 0, .int .i64 0, .string (⟨#[]⟩ : ByteArray), .bool false, .int .i64 0, .int .u64 0, .int .u64 0, .bool false]) ?_ 0 _ rfl; exact BK242.out) Try.underlying51 rfl (by kernel_rfl)) rfl ?_
          exact ⟨by rfl, by repeat (with_reducible first | exact HB.out | refine below_set ?_ GE242.out)⟩
      ·rw [if_neg c12] at H
       exact absurd H (by simp)
     ·rw [if_neg c11] at H
      exact absurd H (by simp)
    ·rw [if_neg c8] at H
     exact absurd H (by simp)
   ·rw [if_neg c7] at H
    exact absurd H (by simp)
  ·replace H := iE H; rcases H with ⟨c30b0, c30b1, H⟩ | ⟨c30, c30b0, c30b1, H⟩
   ·by_cases c31 : 1 ≤ (a0.size : Int)
    ·rw [if_pos c31] at H
     have c31b0 := eq_true c31
     have c31b1 : decide (1 ≤ (a0.size : Int)) = true := decide_eq_true c31
     clear c31
     replace H := bN H; obtain ⟨t247, A32, H⟩ := H
     have HC33 := Aside0.mk H
     clear H
     go_enter Try.func31, Try.ntmps31
     go_upto_region 11 with (first | ((with_reducible refine gate_dst (N := 2) rfl ?_); (try (refine gate_guard (by rfl) ?_; dsimp only)); refine boxA HB 2 #[.int .i64 0, .int .i64 0, .int .i64 0, .string (⟨#[]⟩ : ByteArray), .bool false, .int .i64 0, .int .u64 0, .int .u64 0, .bool false] 51 ?_; clear HB; intro gb242 w34 BK242 GE242 hg hb HB; clear hb hg) | (refine callA (some 11) Try.func53 #[.string a0, (.func (.func 54) #[] #[])] ?_; (with_reducible refine (maskref1_run__isWord.calls k a0  t243 _ A2.out).mono ?_); rintro e w35 ⟨rfl, hb⟩; replace hb := Drawn0.below hb; refine ⟨_, rfl, ?_⟩; replace BK242 := bk1 BK242 hb; replace HB := hb1 HB hb; (try clear hb); have p4 : 0 ≤ (0 : Int) := (by omega); have q4 : 0 < a0.size := (by have : (0 : Int) < (a0.size : Int) := of_decide_eq_true (by (with_reducible assumption)); omega); have hx4 : ∀ h : 0 < a0.size, ((a0[0]'h).toNat : Int) = bt a0 0 := bt_at a0 0; clear p4; have qi4 : (0 < (a0.size : Int)) = True := eq_true (of_decide_eq_true (by (with_reducible assumption))); replace q4 := eq_true q4) | (refine callA (some 15) Try.func55 #[.int .u8 (bt a0 0)] ?_; (with_reducible refine (maskref1_isLetter.calls (bt a0 0) false _ A5.out).mono ?_); rintro e w' ⟨rfl, ⟨nd, rfl⟩⟩; refine ⟨_, rfl, ?_⟩; have p29 : 0 ≤ (0 : Int) := (by omega); have q29 : 0 < a0.size := (by have : (0 : Int) < (a0.size : Int) := of_decide_eq_true (by (with_reducible assumption)); omega); have hx29 : ∀ h : 0 < a0.size, ((a0[0]'h).toNat : Int) = bt a0 0 := bt_at a0 0; clear p29; have qi29 : (0 < (a0.size : Int)) = True := eq_true (of_decide_eq_true (by (with_reducible assumption))); replace q29 := eq_true q29) | (refine callA (some 38) Try.func53 #[.string (a0.extract 1 a0.size), (.func (.func 56) #[] #[])] ?_; (with_reducible refine (maskref1_run__inQuoted.calls k (a0.extract 1 a0.size)  t247 _ A32.out).mono ?_); rintro e w36 ⟨rfl, hb⟩; refine ⟨_, rfl, ?_⟩; replace BK242 := bk1 BK242 hb; replace HB := hb1 HB hb; (try clear hb)))
     go_cut [65] (fun v65 wc => ∃ (kq : Nat) (x65_32 : Bool), v65 = .bool x65_32 ∧ Aside0 (maskref1_token.j1 kq a0 (wrap64 (1 + t247)) x65_32 = some (r1, r2, r3, r4, r5, r6, r7, r8, r9, r10, r11)) ∧ Aside0 (kq ≤ k) ∧ Aside0 (wc.heap[gb242]? = some (.cells #[.int .i64 0, .int .i64 0, .int .i64 0, .string (⟨#[]⟩ : ByteArray), .bool false, .int .i64 0, .int .u64 0, .int .u64 0, .bool false] 51 (0, 0))) ∧ Aside0 (Below w.heap.size w wc))
     case first =>
      have H := HC33.out
      clear HC33
      replace H := iE H; rcases H with ⟨c37b0, c37b1, H⟩ | ⟨c37, c37b0, c37b1, H⟩
      ·(skip)
       have H' := Aside0.mk H
       clear H
       go_wp2
       go_meet
       case rel => exact ⟨_, (true), (by rfl), (by exact H'), ⟨by omega⟩, ⟨by exact BK242.out⟩, ⟨by repeat (with_reducible exact HB.out)⟩⟩
      ·(skip)
       replace H := iD H; rcases H with ⟨c38b0, H⟩ | ⟨c38b0, H⟩
       ·obtain ⟨ji39, hji39⟩ : ∃ j_ : Int, (wrap64 (1 + t247)) = j_ := ⟨_, rfl⟩
        replace H : (if 0 ≤ (ji39) then (if (bt a0 (ji39)) = 32 then (maskref1_token.j1 k a0 ji39 false) else (if (bt a0 (ji39)) = 9 then (maskref1_token.j1 k a0 ji39 false) else (maskref1_token.j1 k a0 ji39 ((bt a0 (ji39)) != 10)))) else (none)) = some (r1, r2, r3, r4, r5, r6, r7, r8, r9, r10, r11) := by (rw [hji39] at H; exact H)
        (try rw [hji39] at c37b0)
        (try rw [hji39] at c37b1)
        (try rw [hji39] at c38b0)
        have hji39w : (IntKind.i64.wrap (1 + t247)) = ji39 := (i64_w _).trans hji39
        replace H := iN H; obtain ⟨c40b0, H⟩ := H
        replace H := iE H; rcases H with ⟨c42b0, c42b1, H⟩ | ⟨c42, c42b0, c42b1, H⟩
        ·have H' := Aside0.mk H
         clear H
         have p41 : 0 ≤ ((ji39) : Int) := of_decide_eq_true (by (with_reducible assumption))
         have q41 : (ji39) < (a0.size : Int) := of_decide_eq_true (by (with_reducible assumption))
         have hx41 := bt_at a0 (ji39)
         replace p41 := eq_true p41
         replace q41 := eq_true q41
         go_wp2
         go_meet
         case rel => exact ⟨_, (false), (by rfl), (by (rw [hji39]; exact H')), ⟨by omega⟩, ⟨by exact BK242.out⟩, ⟨by repeat (with_reducible exact HB.out)⟩⟩
        ·replace H := iE H; rcases H with ⟨c44b0, c44b1, H⟩ | ⟨c44, c44b0, c44b1, H⟩
         ·have H' := Aside0.mk H
          clear H
          have p41 : 0 ≤ ((ji39) : Int) := of_decide_eq_true (by (with_reducible assumption))
          have q41 : (ji39) < (a0.size : Int) := of_decide_eq_true (by (with_reducible assumption))
          have hx41 := bt_at a0 (ji39)
          replace p41 := eq_true p41
          replace q41 := eq_true q41
          have p43 : 0 ≤ ((ji39) : Int) := of_decide_eq_true (by (with_reducible assumption))
          have q43 : (ji39) < (a0.size : Int) := of_decide_eq_true (by (with_reducible assumption))
          have hx43 := bt_at a0 (ji39)
          replace p43 := eq_true p43
          replace q43 := eq_true q43
          go_wp2
          go_meet
          case rel => exact ⟨_, (false), (by rfl), (by (rw [hji39]; exact H')), ⟨by omega⟩, ⟨by exact BK242.out⟩, ⟨by repeat (with_reducible exact HB.out)⟩⟩
         ·have H' := Aside0.mk H
          clear H
          have p41 : 0 ≤ ((ji39) : Int) := of_decide_eq_true (by (with_reducible assumption))
          have q41 : (ji39) < (a0.size : Int) := of_decide_eq_true (by (with_reducible assumption))
          have hx41 := bt_at a0 (ji39)
          replace p41 := eq_true p41
          replace q41 := eq_true q41
          have p43 : 0 ≤ ((ji39) : Int) := of_decide_eq_true (by (with_reducible assumption))
          have q43 : (ji39) < (a0.size : Int) := of_decide_eq_true (by (with_reducible assumption))
          have hx43 := bt_at a0 (ji39)
          replace p43 := eq_true p43
          replace q43 := eq_true q43
          have p45 : 0 ≤ ((ji39) : Int) := of_decide_eq_true (by (with_reducible assumption))
          have q45 : (ji39) < (a0.size : Int) := of_decide_eq_true (by (with_reducible assumption))
          have hx45 := bt_at a0 (ji39)
          replace p45 := eq_true p45
          replace q45 := eq_true q45
          go_wp2
          go_meet
          case rel => exact ⟨_, (((bt a0 (ji39)) != 10)), (by rfl), (by (rw [hji39]; exact H')), ⟨by omega⟩, ⟨by exact BK242.out⟩, ⟨by repeat (with_reducible exact HB.out)⟩⟩
       ·have H' := Aside0.mk H
        clear H
        go_wp2
        go_meet
        case rel => exact ⟨_, (false), (by rfl), (by exact H'), ⟨by omega⟩, ⟨by exact BK242.out⟩, ⟨by repeat (with_reducible exact HB.out)⟩⟩
     case rest =>
      clear HC33
      (try clear c3b0); (try clear c3b1); (try clear q4); (try clear hx4); (try clear qi4); (try clear q29); (try clear hx29); (try clear qi29); (try clear c30b0); (try clear c30b1); (try clear c31b0); (try clear c31b1)
      obtain ⟨kq, x65_32, rfl, HA, HJ32, BK242, HB⟩ := hcut
      cases kq with
      | zero => exact absurd HA.out (by simp [maskref1_token.j1])
      | succ kj32 =>
       have H := HA.out
       clear HA
       simp only [maskref1_token.j1] at H
       replace H := iB H; rcases H with ⟨rfl, H⟩ | ⟨rfl, H⟩
       ·simp only [Option.some.injEq, Prod.mk.injEq] at H
        obtain ⟨rfl, rfl, rfl, rfl, rfl, rfl, rfl, rfl, rfl, rfl, rfl⟩ := H
        obtain ⟨hcz47_0, hcz47_1, hcz47_2, hcz47_3, hcz47_4, hcz47_5, hcz47_6, hcz47_7, hcz47_8, hfz47_0, hfz47_1, hfz47_2, hfz47_3, hfz47_4, hfz47_5, hfz47_6, hfz47_7, hfz47_8⟩ := cf9 BK242
        go_wp2
        refine bodyPost_ret (results_ctt rfl _ _ gb242 51 #[.int .i64 0, .int .i64 0, .int .i64 0, .string (⟨#[]⟩ : ByteArray), .bool false, .int .i64 0, .int .u64 0, .int .u64 0, .bool false] (0, 0) _ rfl (by refine blk_put (cs := #[.int .i64 0, .int .i64 0, .int .i64 0, .string (⟨#[]⟩ : ByteArray), .bool false, .int .i64 0, .int .u64 0, .int .u64 0, .bool false]) ?_ 8 _ rfl; refine blk_put (cs := #[.int .i64 0, .int .i64 0, .int .i64 0, .string (⟨#[]⟩ : ByteArray), .bool false, .int .i64 0, .int .u64 0, .int .u64 0, .bool false]) ?_ 7 _ rfl; refine blk_put (cs := #[.int .i64 0, .int .i64 0, .int .i64 0, .string (⟨#[]⟩ : ByteArray), .bool false, .int .i64 0, .int .u64 0, .int .u64 0, .bool false]) ?_ 6 _ rfl; refine blk_put (cs := #[.int .i64 0, .int .i64 0, .int .i64 0, .string (⟨#[]⟩ : ByteArray), .bool false, .int .i64 0, .int .u64 0, .int .u64 0, .bool false]) ?_ 5 _ rfl; refine blk_put (cs := #[.int .i64 0, .int .i64 0, .int .i64 0, .string (⟨#[]⟩ : ByteArray), .bool false, .int .i64 0, .int .u64 0, .int .u64 0, .bool false]) ?_ 4 _ rfl; refine blk_put (cs := #[.int .i64 0, .int .i64 0, .int .i64 0, .string (⟨#[]⟩ : ByteArray), .bool false, .int .i64 0, .int .u64 0, .int .u64 0, .bool false]) ?_ 3 _ rfl; refine blk_put (cs := #[.int .i64 0, .int .i64 0, .int .i64 0, .string (⟨#[]⟩ : ByteArray), .bool false, .int .i64 0, .int .u64 0, .int .u64 0, .bool false]) ?_ 2 _ rfl; refine blk_put (cs := #[.int .i64 0, .int .i64 0, .int .i64 0, .string (⟨#[]⟩ : ByteArray), .bool false, .int .i64 0, .int .u64 0, .int .u64 0, .bool false]) ?_ 1 _ rfl; refine blk_put (cs := #[.int .i64 0, .int .i64 0, .int .i64 0, .string (⟨#[]⟩ : ByteArray), .bool false, .int .i64 0, .int .u64 0, .int .u64 0, .bool false]) ?_ 0 _ rfl; exact BK242.out) Try.underlying51 rfl (by kernel_rfl)) rfl ?_
        exact ⟨by rfl, by repeat (with_reducible first | exact HB.out | refine below_set ?_ GE242.out)⟩
       ·replace H := iD H; rcases H with ⟨c48b0, H⟩ | ⟨c48b0, H⟩
        ·replace c48b0 : decide (41 < (wrap64 (1 + t247))) = true := c48b0
         simp only [Option.some.injEq, Prod.mk.injEq] at H
         obtain ⟨rfl, rfl, rfl, rfl, rfl, rfl, rfl, rfl, rfl, rfl, rfl⟩ := H
         obtain ⟨hcz49_0, hcz49_1, hcz49_2, hcz49_3, hcz49_4, hcz49_5, hcz49_6, hcz49_7, hcz49_8, hfz49_0, hfz49_1, hfz49_2, hfz49_3, hfz49_4, hfz49_5, hfz49_6, hfz49_7, hfz49_8⟩ := cf9 BK242
         go_wp2
         refine bodyPost_ret (results_ctt rfl _ _ gb242 51 #[.int .i64 0, .int .i64 0, .int .i64 0, .string (⟨#[]⟩ : ByteArray), .bool false, .int .i64 0, .int .u64 0, .int .u64 0, .bool false] (0, 0) _ rfl (by refine blk_put (cs := #[.int .i64 0, .int .i64 0, .int .i64 0, .string (⟨#[]⟩ : ByteArray), .bool false, .int .i64 0, .int .u64 0, .int .u64 0, .bool false]) ?_ 8 _ rfl; refine blk_put (cs := #[.int .i64 0, .int .i64 0, .int .i64 0, .string (⟨#[]⟩ : ByteArray), .bool false, .int .i64 0, .int .u64 0, .int .u64 0, .bool false]) ?_ 7 _ rfl; refine blk_put (cs := #[.int .i64 0, .int .i64 0, .int .i64 0, .string (⟨#[]⟩ : ByteArray), .bool false, .int .i64 0, .int .u64 0, .int .u64 0, .bool false]) ?_ 6 _ rfl; refine blk_put (cs := #[.int .i64 0, .int .i64 0, .int .i64 0, .string (⟨#[]⟩ : ByteArray), .bool false, .int .i64 0, .int .u64 0, .int .u64 0, .bool false]) ?_ 5 _ rfl; refine blk_put (cs := #[.int .i64 0, .int .i64 0, .int .i64 0, .string (⟨#[]⟩ : ByteArray), .bool false, .int .i64 0, .int .u64 0, .int .u64 0, .bool false]) ?_ 4 _ rfl; refine blk_put (cs := #[.int .i64 0, .int .i64 0, .int .i64 0, .string (⟨#[]⟩ : ByteArray), .bool false, .int .i64 0, .int .u64 0, .int .u64 0, .bool false]) ?_ 3 _ rfl; refine blk_put (cs := #[.int .i64 0, .int .i64 0, .int .i64 0, .string (⟨#[]⟩ : ByteArray), .bool false, .int .i64 0, .int .u64 0, .int .u64 0, .bool false]) ?_ 2 _ rfl; refine blk_put (cs := #[.int .i64 0, .int .i64 0, .int .i64 0, .string (⟨#[]⟩ : ByteArray), .bool false, .int .i64 0, .int .u64 0, .int .u64 0, .bool false]) ?_ 1 _ rfl; refine blk_put (cs := #[.int .i64 0, .int .i64 0, .int .i64 0, .string (⟨#[]⟩ : ByteArray), .bool false, .int .i64 0, .int .u64 0, .int .u64 0, .bool false]) ?_ 0 _ rfl; exact BK242.out) Try.underlying51 rfl (by kernel_rfl)) rfl ?_
         exact ⟨by rfl, by repeat (with_reducible first | exact HB.out | refine below_set ?_ GE242.out)⟩
        ·replace c48b0 : decide (41 < (wrap64 (1 + t247))) = false := c48b0
         by_cases c50 : 1 ≤ (wrap64 (1 + t247))
         ·rw [if_pos c50] at H
          have c50b0 := eq_true c50
          have c50b1 : decide (1 ≤ (wrap64 (1 + t247))) = true := decide_eq_true c50
          by_cases c51 : (wrap64 (1 + t247)) ≤ (a0.size : Int)
          ·rw [if_pos c51] at H
           have c51b0 := eq_true c51
           have c51b1 : decide ((wrap64 (1 + t247)) ≤ (a0.size : Int)) = true := decide_eq_true c51
           simp only [Option.some.injEq, Prod.mk.injEq] at H
           obtain ⟨rfl, rfl, rfl, rfl, rfl, rfl, rfl, rfl, rfl, rfl, rfl⟩ := H
           obtain ⟨hcz52_0, hcz52_1, hcz52_2, hcz52_3, hcz52_4, hcz52_5, hcz52_6, hcz52_7, hcz52_8, hfz52_0, hfz52_1, hfz52_2, hfz52_3, hfz52_4, hfz52_5, hfz52_6, hfz52_7, hfz52_8⟩ := cf9 BK242
           go_wp2
           refine bodyPost_ret (results_ctt rfl _ _ gb242 51 #[.int .i64 1, .int .i64 0, .int .i64 0, .string (a0.extract 1 ((wrap64 (1 + t247)) : Int).toNat), .bool true, .int .i64 0, .int .u64 0, .int .u64 0, .bool false] (0, 0) _ rfl (by refine blk_put (cs := #[.int .i64 1, .int .i64 0, .int .i64 0, .string (a0.extract 1 ((wrap64 (1 + t247)) : Int).toNat), .bool true, .int .i64 0, .int .u64 0, .int .u64 0, .bool false]) ?_ 8 _ rfl; refine blk_put (cs := #[.int .i64 1, .int .i64 0, .int .i64 0, .string (a0.extract 1 ((wrap64 (1 + t247)) : Int).toNat), .bool true, .int .i64 0, .int .u64 0, .int .u64 0, .bool false]) ?_ 7 _ rfl; refine blk_put (cs := #[.int .i64 1, .int .i64 0, .int .i64 0, .string (a0.extract 1 ((wrap64 (1 + t247)) : Int).toNat), .bool true, .int .i64 0, .int .u64 0, .int .u64 0, .bool false]) ?_ 6 _ rfl; refine blk_put (cs := #[.int .i64 1, .int .i64 0, .int .i64 0, .string (a0.extract 1 ((wrap64 (1 + t247)) : Int).toNat), .bool true, .int .i64 0, .int .u64 0, .int .u64 0, .bool false]) ?_ 5 _ rfl; refine blk_put (cs := #[.int .i64 1, .int .i64 0, .int .i64 0, .string (a0.extract 1 ((wrap64 (1 + t247)) : Int).toNat), .bool false, .int .i64 0, .int .u64 0, .int .u64 0, .bool false]) ?_ 4 _ rfl; refine blk_put (cs := #[.int .i64 1, .int .i64 0, .int .i64 0, .string (⟨#[]⟩ : ByteArray), .bool false, .int .i64 0, .int .u64 0, .int .u64 0, .bool false]) ?_ 3 _ rfl; refine blk_put (cs := #[.int .i64 1, .int .i64 0, .int .i64 0, .string (⟨#[]⟩ : ByteArray), .bool false, .int .i64 0, .int .u64 0, .int .u64 0, .bool false]) ?_ 2 _ rfl; refine blk_put (cs := #[.int .i64 1, .int .i64 0, .int .i64 0, .string (⟨#[]⟩ : ByteArray), .bool false, .int .i64 0, .int .u64 0, .int .u64 0, .bool false]) ?_ 1 _ rfl; refine blk_put (cs := #[.int .i64 0, .int .i64 0, .int .i64 0, .string (⟨#[]⟩ : ByteArray), .bool false, .int .i64 0, .int .u64 0, .int .u64 0, .bool false]) ?_ 0 _ rfl; exact BK242.out) Try.underlying51 rfl (by kernel_rfl)) rfl ?_
           exact ⟨by rfl, by repeat (with_reducible first | exact HB.out | refine below_set ?_ GE242.out)⟩
          ·rw [if_neg c51] at H
           exact absurd H (by simp)
         ·rw [if_neg c50] at H
          exact absurd H (by simp)
    ·rw [if_neg c31] at H
     exact absurd H (by simp)
   ·replace H := iE H; rcases H with ⟨c54b0, c54b1, H⟩ | ⟨c54, c54b0, c54b1, H⟩
    ·replace H := bN H; obtain ⟨⟨t248, t249, t250, t251, t252, t253, t254, t255, t256, t257, t258⟩, A55, H⟩ := H; dsimp only at H
     simp only [Option.some.injEq, Prod.mk.injEq] at H
     obtain ⟨rfl, rfl, rfl, rfl, rfl, rfl, rfl, rfl, rfl, rfl, rfl⟩ := H
     go_enter Try.func31, Try.ntmps31
     go_wp2_with (first | ((with_reducible refine gate_dst (N := 2) rfl ?_); (try (refine gate_guard (by rfl) ?_; dsimp only)); refine boxA HB 2 #[.int .i64 0, .int .i64 0, .int .i64 0, .string (⟨#[]⟩ : ByteArray), .bool false, .int .i64 0, .int .u64 0, .int .u64 0, .bool false] 51 ?_; clear HB; intro gb242 w56 BK242 GE242 hg hb HB; clear hb hg) | (refine callA (some 11) Try.func53 #[.string a0, (.func (.func 54) #[] #[])] ?_; (with_reducible refine (maskref1_run__isWord.calls k a0  t243 _ A2.out).mono ?_); rintro e w57 ⟨rfl, hb⟩; replace hb := Drawn0.below hb; refine ⟨_, rfl, ?_⟩; replace BK242 := bk1 BK242 hb; replace HB := hb1 HB hb; (try clear hb); have p4 : 0 ≤ (0 : Int) := (by omega); have q4 : 0 < a0.size := (by have : (0 : Int) < (a0.size : Int) := of_decide_eq_true (by (with_reducible assumption)); omega); have hx4 : ∀ h : 0 < a0.size, ((a0[0]'h).toNat : Int) = bt a0 0 := bt_at a0 0; clear p4; have qi4 : (0 < (a0.size : Int)) = True := eq_true (of_decide_eq_true (by (with_reducible assumption))); replace q4 := eq_true q4) | (refine callA (some 15) Try.func55 #[.int .u8 (bt a0 0)] ?_; (with_reducible refine (maskref1_isLetter.calls (bt a0 0) false _ A5.out).mono ?_); rintro e w' ⟨rfl, ⟨nd, rfl⟩⟩; refine ⟨_, rfl, ?_⟩; (try (rw [drewN_self w57]; generalize hq_ : World.drewN w57 _ = w57; have n0_ : Aside0 (w57.heap[gb242]? = some (.cells #[.int .i64 0, .int .i64 0, .int .i64 0, .string (⟨#[]⟩ : ByteArray), .bool false, .int .i64 0, .int .u64 0, .int .u64 0, .bool false] 51 (0, 0))) := ⟨by rw [← hq_]; exact (by (with_reducible repeat (refine blk_drewN ?_ _)); exact BK242.out)⟩; have n1_ : Aside0 (Below w.heap.size w w57) := ⟨by rw [← hq_]; exact (by repeat (with_reducible first | exact HB.out | apply pw_below_drewN))⟩; clear BK242 HB hq_; have BK242 := n0_; have HB := n1_; clear n0_ n1_)); have p29 : 0 ≤ (0 : Int) := (by omega); have q29 : 0 < a0.size := (by have : (0 : Int) < (a0.size : Int) := of_decide_eq_true (by (with_reducible assumption)); omega); have hx29 : ∀ h : 0 < a0.size, ((a0[0]'h).toNat : Int) = bt a0 0 := bt_at a0 0; clear p29; have qi29 : (0 < (a0.size : Int)) = True := eq_true (of_decide_eq_true (by (with_reducible assumption))); replace q29 := eq_true q29; have p53 : 0 ≤ (0 : Int) := (by omega); have q53 : 0 < a0.size := (by have : (0 : Int) < (a0.size : Int) := of_decide_eq_true (by (with_reducible assumption)); omega); have hx53 : ∀ h : 0 < a0.size, ((a0[0]'h).toNat : Int) = bt a0 0 := bt_at a0 0; clear p53; have qi53 : (0 < (a0.size : Int)) = True := eq_true (of_decide_eq_true (by (with_reducible assumption))); replace q53 := eq_true q53) | (refine callA (some 80) Try.func57 #[.string a0] ?_; (with_reducible refine (maskref1_stringToken.calls k a0 t248 t249 t250 t251 t252 t253 t254 t255 t256 t257 t258 _ A55.out).mono ?_); rintro e w58 ⟨rfl, hb⟩; refine ⟨_, rfl, ?_⟩; replace BK242 := bk1 BK242 hb; replace HB := hb1 HB hb; (try clear hb); obtain ⟨hcz59_0, hcz59_1, hcz59_2, hcz59_3, hcz59_4, hcz59_5, hcz59_6, hcz59_7, hcz59_8, hfz59_0, hfz59_1, hfz59_2, hfz59_3, hfz59_4, hfz59_5, hfz59_6, hfz59_7, hfz59_8⟩ := cf9 BK242))
     refine bodyPost_ret (results_ctt rfl _ _ gb242 51 #[.int .i64 t248, .int .i64 t249, .int .i64 t250, .string t251, .bool t252, .int .i64 t253, .int .u64 t254, .int .u64 t255, .bool t256] (0, 0) _ rfl (by refine blk_put (cs := #[.int .i64 t248, .int .i64 t249, .int .i64 t250, .string t251, .bool t252, .int .i64 t253, .int .u64 t254, .int .u64 t255, .bool false]) ?_ 8 _ rfl; refine blk_put (cs := #[.int .i64 t248, .int .i64 t249, .int .i64 t250, .string t251, .bool t252, .int .i64 t253, .int .u64 t254, .int .u64 0, .bool false]) ?_ 7 _ rfl; refine blk_put (cs := #[.int .i64 t248, .int .i64 t249, .int .i64 t250, .string t251, .bool t252, .int .i64 t253, .int .u64 0, .int .u64 0, .bool false]) ?_ 6 _ rfl; refine blk_put (cs := #[.int .i64 t248, .int .i64 t249, .int .i64 t250, .string t251, .bool t252, .int .i64 0, .int .u64 0, .int .u64 0, .bool false]) ?_ 5 _ rfl; refine blk_put (cs := #[.int .i64 t248, .int .i64 t249, .int .i64 t250, .string t251, .bool false, .int .i64 0, .int .u64 0, .int .u64 0, .bool false]) ?_ 4 _ rfl; refine blk_put (cs := #[.int .i64 t248, .int .i64 t249, .int .i64 t250, .string (⟨#[]⟩ : ByteArray), .bool false, .int .i64 0, .int .u64 0, .int .u64 0, .bool false]) ?_ 3 _ rfl; refine blk_put (cs := #[.int .i64 t248, .int .i64 t249, .int .i64 0, .string (⟨#[]⟩ : ByteArray), .bool false, .int .i64 0, .int .u64 0, .int .u64 0, .bool false]) ?_ 2 _ rfl; refine blk_put (cs := #[.int .i64 t248, .int .i64 0, .int .i64 0, .string (⟨#[]⟩ : ByteArray), .bool false, .int .i64 0, .int .u64 0, .int .u64 0, .bool false]) ?_ 1 _ rfl; refine blk_put (cs := #[.int .i64 0, .int .i64 0, .int .i64 0, .string (⟨#[]⟩ : ByteArray), .bool false, .int .i64 0, .int .u64 0, .int .u64 0, .bool false]) ?_ 0 _ rfl; exact BK242.out) Try.underlying51 rfl (by kernel_rfl)) rfl ?_
     exact ⟨by rfl, by repeat (with_reducible first | exact HB.out | refine below_set ?_ GE242.out)⟩
    ·replace H := iD H; rcases H with ⟨c60b0, H⟩ | ⟨c60b0, H⟩
     ·replace c60b0 : decide (0 < t243) = true := c60b0
      replace H := bN H; obtain ⟨⟨t259, t260, t261, t262, t263, t264, t265, t266, t267, t268, t269⟩, A61, H⟩ := H; dsimp only at H
      simp only [Option.some.injEq, Prod.mk.injEq] at H
      obtain ⟨rfl, rfl, rfl, rfl, rfl, rfl, rfl, rfl, rfl, rfl, rfl⟩ := H
      go_enter Try.func31, Try.ntmps31
      go_wp2_with (first | ((with_reducible refine gate_dst (N := 2) rfl ?_); (try (refine gate_guard (by rfl) ?_; dsimp only)); refine boxA HB 2 #[.int .i64 0, .int .i64 0, .int .i64 0, .string (⟨#[]⟩ : ByteArray), .bool false, .int .i64 0, .int .u64 0, .int .u64 0, .bool false] 51 ?_; clear HB; intro gb242 w62 BK242 GE242 hg hb HB; clear hb hg) | (refine callA (some 11) Try.func53 #[.string a0, (.func (.func 54) #[] #[])] ?_; (with_reducible refine (maskref1_run__isWord.calls k a0  t243 _ A2.out).mono ?_); rintro e w63 ⟨rfl, hb⟩; replace hb := Drawn0.below hb; refine ⟨_, rfl, ?_⟩; replace BK242 := bk1 BK242 hb; replace HB := hb1 HB hb; (try clear hb); have p4 : 0 ≤ (0 : Int) := (by omega); have q4 : 0 < a0.size := (by have : (0 : Int) < (a0.size : Int) := of_decide_eq_true (by (with_reducible assumption)); omega); have hx4 : ∀ h : 0 < a0.size, ((a0[0]'h).toNat : Int) = bt a0 0 := bt_at a0 0; clear p4; have qi4 : (0 < (a0.size : Int)) = True := eq_true (of_decide_eq_true (by (with_reducible assumption))); replace q4 := eq_true q4) | (refine callA (some 15) Try.func55 #[.int .u8 (bt a0 0)] ?_; (with_reducible refine (maskref1_isLetter.calls (bt a0 0) false _ A5.out).mono ?_); rintro e w' ⟨rfl, ⟨nd, rfl⟩⟩; refine ⟨_, rfl, ?_⟩; (try (rw [drewN_self w63]; generalize hq_ : World.drewN w63 _ = w63; have n0_ : Aside0 (w63.heap[gb242]? = some (.cells #[.int .i64 0, .int .i64 0, .int .i64 0, .string (⟨#[]⟩ : ByteArray), .bool false, .int .i64 0, .int .u64 0, .int .u64 0, .bool false] 51 (0, 0))) := ⟨by rw [← hq_]; exact (by (with_reducible repeat (refine blk_drewN ?_ _)); exact BK242.out)⟩; have n1_ : Aside0 (Below w.heap.size w w63) := ⟨by rw [← hq_]; exact (by repeat (with_reducible first | exact HB.out | apply pw_below_drewN))⟩; clear BK242 HB hq_; have BK242 := n0_; have HB := n1_; clear n0_ n1_)); have p29 : 0 ≤ (0 : Int) := (by omega); have q29 : 0 < a0.size := (by have : (0 : Int) < (a0.size : Int) := of_decide_eq_true (by (with_reducible assumption)); omega); have hx29 : ∀ h : 0 < a0.size, ((a0[0]'h).toNat : Int) = bt a0 0 := bt_at a0 0; clear p29; have qi29 : (0 < (a0.size : Int)) = True := eq_true (of_decide_eq_true (by (with_reducible assumption))); replace q29 := eq_true q29; have p53 : 0 ≤ (0 : Int) := (by omega); have q53 : 0 < a0.size := (by have : (0 : Int) < (a0.size : Int) := of_decide_eq_true (by (with_reducible assumption)); omega); have hx53 : ∀ h : 0 < a0.size, ((a0[0]'h).toNat : Int) = bt a0 0 := bt_at a0 0; clear p53; have qi53 : (0 < (a0.size : Int)) = True := eq_true (of_decide_eq_true (by (with_reducible assumption))); replace q53 := eq_true q53) | (refine callA (some 88) Try.func58 #[.string a0] ?_; (with_reducible refine (maskref1_numberToken.calls k a0 t259 t260 t261 t262 t263 t264 t265 t266 t267 t268 t269 _ A61.out).mono ?_); rintro e w64 ⟨rfl, hb⟩; refine ⟨_, rfl, ?_⟩; replace BK242 := bk1 BK242 hb; replace HB := hb1 HB hb; (try clear hb); obtain ⟨hcz65_0, hcz65_1, hcz65_2, hcz65_3, hcz65_4, hcz65_5, hcz65_6, hcz65_7, hcz65_8, hfz65_0, hfz65_1, hfz65_2, hfz65_3, hfz65_4, hfz65_5, hfz65_6, hfz65_7, hfz65_8⟩ := cf9 BK242))
      refine bodyPost_ret (results_ctt rfl _ _ gb242 51 #[.int .i64 t259, .int .i64 t260, .int .i64 t261, .string t262, .bool t263, .int .i64 t264, .int .u64 t265, .int .u64 t266, .bool t267] (0, 0) _ rfl (by refine blk_put (cs := #[.int .i64 t259, .int .i64 t260, .int .i64 t261, .string t262, .bool t263, .int .i64 t264, .int .u64 t265, .int .u64 t266, .bool false]) ?_ 8 _ rfl; refine blk_put (cs := #[.int .i64 t259, .int .i64 t260, .int .i64 t261, .string t262, .bool t263, .int .i64 t264, .int .u64 t265, .int .u64 0, .bool false]) ?_ 7 _ rfl; refine blk_put (cs := #[.int .i64 t259, .int .i64 t260, .int .i64 t261, .string t262, .bool t263, .int .i64 t264, .int .u64 0, .int .u64 0, .bool false]) ?_ 6 _ rfl; refine blk_put (cs := #[.int .i64 t259, .int .i64 t260, .int .i64 t261, .string t262, .bool t263, .int .i64 0, .int .u64 0, .int .u64 0, .bool false]) ?_ 5 _ rfl; refine blk_put (cs := #[.int .i64 t259, .int .i64 t260, .int .i64 t261, .string t262, .bool false, .int .i64 0, .int .u64 0, .int .u64 0, .bool false]) ?_ 4 _ rfl; refine blk_put (cs := #[.int .i64 t259, .int .i64 t260, .int .i64 t261, .string (⟨#[]⟩ : ByteArray), .bool false, .int .i64 0, .int .u64 0, .int .u64 0, .bool false]) ?_ 3 _ rfl; refine blk_put (cs := #[.int .i64 t259, .int .i64 t260, .int .i64 0, .string (⟨#[]⟩ : ByteArray), .bool false, .int .i64 0, .int .u64 0, .int .u64 0, .bool false]) ?_ 2 _ rfl; refine blk_put (cs := #[.int .i64 t259, .int .i64 0, .int .i64 0, .string (⟨#[]⟩ : ByteArray), .bool false, .int .i64 0, .int .u64 0, .int .u64 0, .bool false]) ?_ 1 _ rfl; refine blk_put (cs := #[.int .i64 0, .int .i64 0, .int .i64 0, .string (⟨#[]⟩ : ByteArray), .bool false, .int .i64 0, .int .u64 0, .int .u64 0, .bool false]) ?_ 0 _ rfl; exact BK242.out) Try.underlying51 rfl (by kernel_rfl)) rfl ?_
      exact ⟨by rfl, by repeat (with_reducible first | exact HB.out | refine below_set ?_ GE242.out)⟩
     ·replace c60b0 : decide (0 < t243) = false := c60b0
      replace H := bN H; obtain ⟨t270, A66, H⟩ := H
      have H' := Aside0.mk H
      clear H
      go_enter Try.func31, Try.ntmps31
      go_wp2_with (first | ((with_reducible refine gate_dst (N := 2) rfl ?_); (try (refine gate_guard (by rfl) ?_; dsimp only)); refine boxA HB 2 #[.int .i64 0, .int .i64 0, .int .i64 0, .string (⟨#[]⟩ : ByteArray), .bool false, .int .i64 0, .int .u64 0, .int .u64 0, .bool false] 51 ?_; clear HB; intro gb242 w67 BK242 GE242 hg hb HB; clear hb hg) | (refine callA (some 11) Try.func53 #[.string a0, (.func (.func 54) #[] #[])] ?_; (with_reducible refine (maskref1_run__isWord.calls k a0  t243 _ A2.out).mono ?_); rintro e w68 ⟨rfl, hb⟩; replace hb := Drawn0.below hb; refine ⟨_, rfl, ?_⟩; replace BK242 := bk1 BK242 hb; replace HB := hb1 HB hb; (try clear hb); have p4 : 0 ≤ (0 : Int) := (by omega); have q4 : 0 < a0.size := (by have : (0 : Int) < (a0.size : Int) := of_decide_eq_true (by (with_reducible assumption)); omega); have hx4 : ∀ h : 0 < a0.size, ((a0[0]'h).toNat : Int) = bt a0 0 := bt_at a0 0; clear p4; have qi4 : (0 < (a0.size : Int)) = True := eq_true (of_decide_eq_true (by (with_reducible assumption))); replace q4 := eq_true q4) | (refine callA (some 15) Try.func55 #[.int .u8 (bt a0 0)] ?_; (with_reducible refine (maskref1_isLetter.calls (bt a0 0) false _ A5.out).mono ?_); rintro e w' ⟨rfl, ⟨nd, rfl⟩⟩; refine ⟨_, rfl, ?_⟩; have p29 : 0 ≤ (0 : Int) := (by omega); have q29 : 0 < a0.size := (by have : (0 : Int) < (a0.size : Int) := of_decide_eq_true (by (with_reducible assumption)); omega); have hx29 : ∀ h : 0 < a0.size, ((a0[0]'h).toNat : Int) = bt a0 0 := bt_at a0 0; clear p29; have qi29 : (0 < (a0.size : Int)) = True := eq_true (of_decide_eq_true (by (with_reducible assumption))); replace q29 := eq_true q29; have p53 : 0 ≤ (0 : Int) := (by omega); have q53 : 0 < a0.size := (by have : (0 : Int) < (a0.size : Int) := of_decide_eq_true (by (with_reducible assumption)); omega); have hx53 : ∀ h : 0 < a0.size, ((a0[0]'h).toNat : Int) = bt a0 0 := bt_at a0 0; clear p53; have qi53 : (0 < (a0.size : Int)) = True := eq_true (of_decide_eq_true (by (with_reducible assumption))); replace q53 := eq_true q53) | ((with_reducible refine gate_callee (f := 59) rfl ?_); refine goesL_ (some 92) rfl rfl Try.func59 (by kernel_rfl) rfl #[] rfl (by (try simp only [List.map_toArray, List.map_cons, List.map_nil]); done) ?_; (with_reducible refine (maskref1_LexSigns.calls k  t270 _ A66.out).mono ?_); rintro e w69 ⟨v271, rfl, ho0, hb⟩; refine ⟨_, rfl, ?_⟩; have HO272 := Aside0.mk (Kd.R_lower ho0 (below_size (by repeat (with_reducible first | exact HB.out | apply pw_below_drewN)))); replace BK242 := bk1 BK242 hb; replace HB := hb1 HB hb; (try clear hb); (try clear ho0); obtain ⟨Ao70, co70, eo70⟩ := Kd.R_slice HO272.out; subst eo70))
      go_loopg [94] k (fun kq v94 w' => ∃ (x94_1 : Int) (x243000_1 : Int) (x243001_1 : Int) (x243002_1 : Int) (x243003_1 : ByteArray) (x243004_1 : Bool) (x243005_1 : Int) (x243006_1 : Int) (x243007_1 : Int) (x243008_1 : Bool), v94 = .int .i64 x94_1 ∧ Aside0 (maskref1_token.l0 kq a0 t270 (t270.length : Int) x94_1 = some (r1, r2, r3, r4, r5, r6, r7, r8, r9, r10, r11)) ∧ Aside0 (kq ≤ k) ∧ Aside0 (Kd.R Kd.string 9 w' w.heap.size (fun _ => True) (.slice Ao70 t270.length co70) t270) ∧ Aside0 (w'.heap[gb242]? = some (.cells #[.int .i64 x243000_1, .int .i64 x243001_1, .int .i64 x243002_1, .string x243003_1, .bool x243004_1, .int .i64 x243005_1, .int .u64 x243006_1, .int .u64 x243007_1, .bool x243008_1] 51 (0, 0))) ∧ Aside0 (Below w.heap.size w w'))
      case atStart => exact ⟨(0), (0), (0), (0), (⟨#[]⟩ : ByteArray), (false), (0), (0), (0), (false), (by rfl), H', ⟨Nat.le_refl _⟩, ⟨by exact HO272.out⟩, ⟨by exact BK242.out⟩, ⟨by repeat (with_reducible exact HB.out)⟩⟩
      case round =>
       clear H'
       (try clear c3b0); (try clear c3b1); (try clear q4); (try clear hx4); (try clear qi4); (try clear q29); (try clear hx29); (try clear qi29); (try clear c30); (try clear c30b0); (try clear c30b1); (try clear q53); (try clear hx53); (try clear qi53); (try clear c54); (try clear c54b0); (try clear c54b1); (try clear c60b0)
       obtain ⟨x94_1, x243000_1, x243001_1, x243002_1, x243003_1, x243004_1, x243005_1, x243006_1, x243007_1, x243008_1, rfl, HA, HK1, HO_92, BK242, HB⟩ := hrel
       cases gk with
       | zero => exact absurd HA.out (by simp [maskref1_token.l0])
       | succ k1 =>
        have H := HA.out
        clear HA
        simp only [maskref1_token.l0] at H
        replace H := iD H; rcases H with ⟨c71b0, H⟩ | ⟨c71b0, H⟩
        ·replace H := iN H; obtain ⟨c72b0, H⟩ := H
         replace H := iN H; obtain ⟨c73b0, H⟩ := H
         by_cases c74 : ((rdOf ByteArray.empty t270 x94_1).size : Int) ≤ (a0.size : Int)
         ·rw [if_pos c74] at H
          have c74b0 : decide (((rdOf ByteArray.empty t270 x94_1).size : Int) ≤ (a0.size : Int)) = true := decide_eq_true c74
          have c74b1 : decide ((rdOf ByteArray.empty t270 x94_1).size ≤ a0.size) = true := decide_eq_true (Int.ofNat_le.mp c74)
          clear c74
          by_cases c75 : 0 ≤ ((rdOf ByteArray.empty t270 x94_1).size : Int)
          ·rw [if_pos c75] at H
           have c75b0 := eq_true c75
           have c75b1 : decide (0 ≤ ((rdOf ByteArray.empty t270 x94_1).size : Int)) = true := decide_eq_true c75
           clear c75
           have c76b0 := eq_true (of_decide_eq_true (by (with_reducible assumption)) : ((rdOf ByteArray.empty t270 x94_1).size : Int) ≤ (a0.size : Int))
           by_cases c77 : (a0.extract 0 (((rdOf ByteArray.empty t270 x94_1).size : Int) : Int).toNat).toList = (rdOf ByteArray.empty t270 x94_1).toList
           ·rw [if_pos c77] at H
            have c77b0 : ((a0.extract 0 (((rdOf ByteArray.empty t270 x94_1).size : Int) : Int).toNat).toList == (rdOf ByteArray.empty t270 x94_1).toList) = true := beq_iff_eq.mpr c77
            have c77b1 : ((a0.extract 0 (((rdOf ByteArray.empty t270 x94_1).size : Int) : Int).toNat).toList != (rdOf ByteArray.empty t270 x94_1).toList) = false := bne_eq_false_iff_eq.mpr c77
            rw [Int.toNat_natCast] at c77b0 c77b1
            clear c77
            simp only [Option.some.injEq, Prod.mk.injEq] at H
            obtain ⟨rfl, rfl, rfl, rfl, rfl, rfl, rfl, rfl, rfl, rfl, rfl⟩ := H
            have p273 : 0 ≤ (x94_1 : Int) := of_decide_eq_true (by (with_reducible assumption))
            have q273 : x94_1 < (t270.length : Int) := of_decide_eq_true (by (with_reducible assumption))
            obtain ⟨ad273, e273, hx273_0⟩ := Kd.at_string (Kd.R_reads' HO_92.out).2.2 x94_1 p273 q273
            cases e273
            replace p273 := eq_true p273
            replace q273 := eq_true q273
            obtain ⟨hcz78_0, hcz78_1, hcz78_2, hcz78_3, hcz78_4, hcz78_5, hcz78_6, hcz78_7, hcz78_8, hfz78_0, hfz78_1, hfz78_2, hfz78_3, hfz78_4, hfz78_5, hfz78_6, hfz78_7, hfz78_8⟩ := cf9 BK242
            go_wp2
            refine bodyPost_ret (results_ctt rfl _ _ gb242 51 #[.int .i64 5, .int .i64 0, .int .i64 0, .string (rdOf ByteArray.empty t270 x94_1), .bool false, .int .i64 0, .int .u64 0, .int .u64 0, .bool false] (0, 0) _ rfl (by refine blk_put (cs := #[.int .i64 5, .int .i64 0, .int .i64 0, .string (rdOf ByteArray.empty t270 x94_1), .bool false, .int .i64 0, .int .u64 0, .int .u64 0, .bool x243008_1]) ?_ 8 _ rfl; refine blk_put (cs := #[.int .i64 5, .int .i64 0, .int .i64 0, .string (rdOf ByteArray.empty t270 x94_1), .bool false, .int .i64 0, .int .u64 0, .int .u64 x243007_1, .bool x243008_1]) ?_ 7 _ rfl; refine blk_put (cs := #[.int .i64 5, .int .i64 0, .int .i64 0, .string (rdOf ByteArray.empty t270 x94_1), .bool false, .int .i64 0, .int .u64 x243006_1, .int .u64 x243007_1, .bool x243008_1]) ?_ 6 _ rfl; refine blk_put (cs := #[.int .i64 5, .int .i64 0, .int .i64 0, .string (rdOf ByteArray.empty t270 x94_1), .bool false, .int .i64 x243005_1, .int .u64 x243006_1, .int .u64 x243007_1, .bool x243008_1]) ?_ 5 _ rfl; refine blk_put (cs := #[.int .i64 5, .int .i64 0, .int .i64 0, .string (rdOf ByteArray.empty t270 x94_1), .bool x243004_1, .int .i64 x243005_1, .int .u64 x243006_1, .int .u64 x243007_1, .bool x243008_1]) ?_ 4 _ rfl; refine blk_put (cs := #[.int .i64 5, .int .i64 0, .int .i64 0, .string x243003_1, .bool x243004_1, .int .i64 x243005_1, .int .u64 x243006_1, .int .u64 x243007_1, .bool x243008_1]) ?_ 3 _ rfl; refine blk_put (cs := #[.int .i64 5, .int .i64 0, .int .i64 x243002_1, .string x243003_1, .bool x243004_1, .int .i64 x243005_1, .int .u64 x243006_1, .int .u64 x243007_1, .bool x243008_1]) ?_ 2 _ rfl; refine blk_put (cs := #[.int .i64 5, .int .i64 x243001_1, .int .i64 x243002_1, .string x243003_1, .bool x243004_1, .int .i64 x243005_1, .int .u64 x243006_1, .int .u64 x243007_1, .bool x243008_1]) ?_ 1 _ rfl; refine blk_put (cs := #[.int .i64 x243000_1, .int .i64 x243001_1, .int .i64 x243002_1, .string x243003_1, .bool x243004_1, .int .i64 x243005_1, .int .u64 x243006_1, .int .u64 x243007_1, .bool x243008_1]) ?_ 0 _ rfl; exact BK242.out) Try.underlying51 rfl (by kernel_rfl)) rfl ?_
            exact ⟨by rfl, by repeat (with_reducible first | exact HB.out | refine below_set ?_ GE242.out)⟩
           ·rw [if_neg c77] at H
            have c77b0 : ((a0.extract 0 (((rdOf ByteArray.empty t270 x94_1).size : Int) : Int).toNat).toList == (rdOf ByteArray.empty t270 x94_1).toList) = false := beq_eq_false_iff_ne.mpr c77
            have c77b1 : ((a0.extract 0 (((rdOf ByteArray.empty t270 x94_1).size : Int) : Int).toNat).toList != (rdOf ByteArray.empty t270 x94_1).toList) = true := bne_iff_ne.mpr c77
            rw [Int.toNat_natCast] at c77b0 c77b1
            have H' := Aside0.mk H
            clear H
            have p273 : 0 ≤ (x94_1 : Int) := of_decide_eq_true (by (with_reducible assumption))
            have q273 : x94_1 < (t270.length : Int) := of_decide_eq_true (by (with_reducible assumption))
            obtain ⟨ad273, e273, hx273_0⟩ := Kd.at_string (Kd.R_reads' HO_92.out).2.2 x94_1 p273 q273
            cases e273
            replace p273 := eq_true p273
            replace q273 := eq_true q273
            go_wp2
            go_roundg k1
            case measure => have := HK1.out; omega
            case rel => exact ⟨(wrap64 (x94_1 + 1)), (x243000_1), (x243001_1), (x243002_1), (x243003_1), (x243004_1), (x243005_1), (x243006_1), (x243007_1), (x243008_1), (by rfl), H', ⟨by have := HK1.out; omega⟩, ⟨by exact HO_92.out⟩, ⟨by exact BK242.out⟩, ⟨by repeat (with_reducible exact HB.out)⟩⟩
          ·rw [if_neg c75] at H
           exact absurd H (by simp)
         ·rw [if_neg c74] at H
          have c74b0 : decide (((rdOf ByteArray.empty t270 x94_1).size : Int) ≤ (a0.size : Int)) = false := decide_eq_false c74
          have c74b1 : decide ((rdOf ByteArray.empty t270 x94_1).size ≤ a0.size) = false := decide_eq_false (fun h => c74 (Int.ofNat_le.mpr h))
          clear c74
          have H' := Aside0.mk H
          clear H
          have p273 : 0 ≤ (x94_1 : Int) := of_decide_eq_true (by (with_reducible assumption))
          have q273 : x94_1 < (t270.length : Int) := of_decide_eq_true (by (with_reducible assumption))
          obtain ⟨ad273, e273, hx273_0⟩ := Kd.at_string (Kd.R_reads' HO_92.out).2.2 x94_1 p273 q273
          cases e273
          replace p273 := eq_true p273
          replace q273 := eq_true q273
          go_wp2
          go_roundg k1
          case measure => have := HK1.out; omega
          case rel => exact ⟨(wrap64 (x94_1 + 1)), (x243000_1), (x243001_1), (x243002_1), (x243003_1), (x243004_1), (x243005_1), (x243006_1), (x243007_1), (x243008_1), (by rfl), H', ⟨by have := HK1.out; omega⟩, ⟨by exact HO_92.out⟩, ⟨by exact BK242.out⟩, ⟨by repeat (with_reducible exact HB.out)⟩⟩
        ·simp only [Option.some.injEq, Prod.mk.injEq] at H
         obtain ⟨rfl, rfl, rfl, rfl, rfl, rfl, rfl, rfl, rfl, rfl, rfl⟩ := H
         obtain ⟨hcz79_0, hcz79_1, hcz79_2, hcz79_3, hcz79_4, hcz79_5, hcz79_6, hcz79_7, hcz79_8, hfz79_0, hfz79_1, hfz79_2, hfz79_3, hfz79_4, hfz79_5, hfz79_6, hfz79_7, hfz79_8⟩ := cf9 BK242
         go_wp2
         refine bodyPost_ret (results_ctt rfl _ _ gb242 51 #[.int .i64 0, .int .i64 0, .int .i64 0, .string (⟨#[]⟩ : ByteArray), .bool false, .int .i64 0, .int .u64 0, .int .u64 0, .bool false] (0, 0) _ rfl (by refine blk_put (cs := #[.int .i64 0, .int .i64 0, .int .i64 0, .string (⟨#[]⟩ : ByteArray), .bool false, .int .i64 0, .int .u64 0, .int .u64 0, .bool x243008_1]) ?_ 8 _ rfl; refine blk_put (cs := #[.int .i64 0, .int .i64 0, .int .i64 0, .string (⟨#[]⟩ : ByteArray), .bool false, .int .i64 0, .int .u64 0, .int .u64 x243007_1, .bool x243008_1]) ?_ 7 _ rfl; refine blk_put (cs := #[.int .i64 0, .int .i64 0, .int .i64 0, .string (⟨#[]⟩ : ByteArray), .bool false, .int .i64 0, .int .u64 x243006_1, .int .u64 x243007_1, .bool x243008_1]) ?_ 6 _ rfl; refine blk_put (cs := #[.int .i64 0, .int .i64 0, .int .i64 0, .string (⟨#[]⟩ : ByteArray), .bool false, .int .i64 x243005_1, .int .u64 x243006_1, .int .u64 x243007_1, .bool x243008_1]) ?_ 5 _ rfl; refine blk_put (cs := #[.int .i64 0, .int .i64 0, .int .i64 0, .string (⟨#[]⟩ : ByteArray), .bool x243004_1, .int .i64 x243005_1, .int .u64 x243006_1, .int .u64 x243007_1, .bool x243008_1]) ?_ 4 _ rfl; refine blk_put (cs := #[.int .i64 0, .int .i64 0, .int .i64 0, .string x243003_1, .bool x243004_1, .int .i64 x243005_1, .int .u64 x243006_1, .int .u64 x243007_1, .bool x243008_1]) ?_ 3 _ rfl; refine blk_put (cs := #[.int .i64 0, .int .i64 0, .int .i64 x243002_1, .string x243003_1, .bool x243004_1, .int .i64 x243005_1, .int .u64 x243006_1, .int .u64 x243007_1, .bool x243008_1]) ?_ 2 _ rfl; refine blk_put (cs := #[.int .i64 0, .int .i64 x243001_1, .int .i64 x243002_1, .string x243003_1, .bool x243004_1, .int .i64 x243005_1, .int .u64 x243006_1, .int .u64 x243007_1, .bool x243008_1]) ?_ 1 _ rfl; refine blk_put (cs := #[.int .i64 x243000_1, .int .i64 x243001_1, .int .i64 x243002_1, .string x243003_1, .bool x243004_1, .int .i64 x243005_1, .int .u64 x243006_1, .int .u64 x243007_1, .bool x243008_1]) ?_ 0 _ rfl; exact BK242.out) Try.underlying51 rfl (by kernel_rfl)) rfl ?_
         exact ⟨by rfl, by repeat (with_reducible first | exact HB.out | refine below_set ?_ GE242.out)⟩
 ·rw [if_neg c3] at H
  exact absurd H (by simp)
end Go.Proofs.Ytlamgdibnnmbmaa.PLex
end
