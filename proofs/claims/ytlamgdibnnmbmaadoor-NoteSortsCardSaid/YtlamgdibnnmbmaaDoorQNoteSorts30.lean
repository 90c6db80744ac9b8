/- Part 31 of the proof of NoteSortsCardSaid: The law NoteSorts: for all arguments it returns true; each argument reads behind the call as it read before. Out of the plain theorem of YtlamgdibnnmbmaaDoorPureNoteSorts and the printed contract. -/
import Derived.Test.YtlamgdibnnmbmaaDoorQNoteSorts15
import Derived.Test.YtlamgdibnnmbmaaDoorQNoteSorts21
import Derived.Shelf.SlicesQ.Reverse
import Derived.Lib.SlicesCompact
import Derived.Lib.SliceRun
import Derived.Sort.Grow
section
namespace Go.Proofs.YtlamgdibnnmbmaaDoor.PSort
open Go.RowKit Go.Lib Go.Sort
set_option linter.unusedVariables false
set_option linter.unusedSimpArgs false
instance : Inhabited S24 := ⟨z24⟩
def enc24 (x : S24) : List Value := [.string x.f0, .int .i64 x.f1, .int .i64 x.f2, .int .i64 x.f3, .string x.f4]
def eq24 (x y : S24) : Bool := x.f0.toList == y.f0.toList && (x.f1 == y.f1 && (x.f2 == y.f2 && (x.f3 == y.f3 && (x.f4.toList == y.f4.toList))))
theorem eq24_iff (x y : S24) : eq24 x y = true ↔ x = y := by
  unfold eq24
  simp only [Bool.and_eq_true, beq_iff_eq]
  constructor
  · rintro ⟨h0, h1, h2, h3, h4⟩
    exact s24_eq h0 h1 h2 h3 h4
  · rintro rfl
    exact ⟨rfl, rfl, rfl, rfl, rfl⟩
instance : DecidableEq S24 := fun x y => if h : eq24 x y = true then isTrue ((eq24_iff x y).1 h) else isFalse (fun e => h ((eq24_iff x y).2 e))
open Go.Proofs.YtlamgdibnnmbmaaDoorW.PrintWords in
theorem eqC24 (d : Nat) (w : World) (x0 y0 : ByteArray) (x1 y1 : Int) (x2 y2 : Int) (x3 y3 : Int) (x4 y4 : ByteArray) :
  (Op.equalIn (d + 2) 24 (.agg #[.string x0, .int .i64 x1, .int .i64 x2, .int .i64 x3, .string x4]) (.agg #[.string y0, .int .i64 y1, .int .i64 y2, .int .i64 y3, .string y4])).run Tryd.prog w = .ok (x0.toList == y0.toList && (x1 == y1 && (x2 == y2 && (x3 == y3 && (x4.toList == y4.toList))))) w := by
 refine eqA_of Tryd.underlying24 (by kernel_rfl) ?_
 refine eqf_cons (by rfl) (by go_simp; rfl) (by go_simp; rfl) (by go_simp) ?_
 refine eqf_cons (by rfl) (by go_simp; rfl) (by go_simp; rfl) (by go_simp) ?_
 refine eqf_cons (by rfl) (by go_simp; rfl) (by go_simp; rfl) (by go_simp) ?_
 refine eqf_cons (by rfl) (by go_simp; rfl) (by go_simp; rfl) (by go_simp) ?_
 exact eqf_last (by rfl) (by go_simp; rfl) (by go_simp; rfl) (by go_simp)
theorem eqC24' (d : Nat) (w : World) (x y : S24) :
  (Op.equalIn (d + 2) 24 (.agg #[.string x.f0, .int .i64 x.f1, .int .i64 x.f2, .int .i64 x.f3, .string x.f4]) (.agg #[.string y.f0, .int .i64 y.f1, .int .i64 y.f2, .int .i64 y.f3, .string y.f4])).run Tryd.prog w = .ok (eq24 x y) w := eqC24 d w _ _ _ _ _ _ _ _ _ _
attribute [local go_sem high] eqC24'
theorem cells24 {W : World} {blk off : Nat} {d : Array S24} (h : HoldsK enc24 5 W blk off d) {i : Nat} (hi : i < d.size) :
    W.cell? ⟨blk, off + i * 5, none⟩ = some (.string d[i]!.f0) ∧ W.cell? ⟨blk, off + i * 5 + 1, none⟩ = some (.int .i64 d[i]!.f1) ∧ W.cell? ⟨blk, off + i * 5 + 2, none⟩ = some (.int .i64 d[i]!.f2) ∧ W.cell? ⟨blk, off + i * 5 + 3, none⟩ = some (.int .i64 d[i]!.f3) ∧ W.cell? ⟨blk, off + i * 5 + 4, none⟩ = some (.string d[i]!.f4) :=
  ⟨(h.cell hi (c := 0) (by decide)).1, (h.cell hi (c := 1) (by decide)).1, (h.cell hi (c := 2) (by decide)).1, (h.cell hi (c := 3) (by decide)).1, (h.cell hi (c := 4) (by decide)).1⟩
theorem setMany_append : ∀ (a b : List Value) (s : Nat) (F : Array Value), setMany F s (a ++ b) = setMany (setMany F s a) (s + a.length) b
  | [], b, s, F => rfl
  | v :: r, b, s, F => by
    rw [List.cons_append, setMany, setMany, setMany_append r b, List.length_cons]
    congr 1; omega
theorem setMany_set {α : Type} [Inhabited α] (enc : α → List Value) (k : Nat) (k0 : 0 < k) (hk : ∀ x, (enc x).length = k) (d : Array α) (i : Nat) (x : α) (hi : i < d.size) :
    setMany (flatK enc k d) (i * k) (enc x) = flatK enc k (d.setIfInBounds i x) := by
  refine ext_get! (by simp) fun t ht => ?_
  have ht' : t < d.size * k := by simpa using ht
  rw [get_setMany _ _ _ t (by simpa using ht'), get_flatK _ _ _ t ht', get_flatK _ _ _ t (by simpa using ht'), hk]
  by_cases b : t / k = i
  · rw [if_pos ((blk_iff k i t k0).2 b), b, getElem!_set_same d i x hi]
    subst b; rw [Nat.mod_eq_sub_div_mul]
  · rw [if_neg (fun h => b ((blk_iff k i t k0).1 h)), getElem!_set_other d i (t / k) x b]
theorem setMany_lay : ∀ (xs : List S24) (d : Array S24) (s : Nat), s + xs.length ≤ d.size → setMany (flatK enc24 5 d) (s * 5) (xs.flatMap enc24) = flatK enc24 5 (lay d s xs)
  | [], d, s, _ => rfl
  | x :: r, d, s, h => by
    have hl : s + (r.length + 1) ≤ d.size := by simpa using h
    rw [List.flatMap_cons, setMany_append, setMany_set enc24 5 (by decide) (fun _ => rfl) d s x (by omega), show s * 5 + (enc24 x).length = (s + 1) * 5 by simp [enc24]; omega, lay]
    exact setMany_lay r _ (s + 1) (by simp; omega)
theorem len24 (x : S24) : (enc24 x).length = 5 := rfl
theorem one24 (x : S24) : ∀ v ∈ enc24 x, v.oneCell' = true := by
  intro v hv
  simp only [enc24, List.mem_cons, List.not_mem_nil, or_false] at hv
  rcases hv with rfl | rfl | rfl | rfl | rfl <;> rfl
theorem flat_len (xs : List S24) : (xs.flatMap enc24).length = xs.length * 5 := by
  induction xs with
  | nil => rfl
  | cons x r ih => rw [List.flatMap_cons, List.length_append, ih, len24, List.length_cons]; omega
theorem zeros24 (n : Nat) : (Builtin.zeroCells (enc24 z24).toArray n).toList = (List.replicate n z24).flatMap enc24 := by
  have h : (Builtin.zeroCells (enc24 z24).toArray n).toList = (List.range (n * 5)).map (fun i => (enc24 z24).toArray[i % 5]!) := by
    unfold Builtin.zeroCells
    simp [enc24]
  rw [h]
  induction n with
  | zero => rfl
  | succ n ih =>
    rw [List.replicate_succ, List.flatMap_cons, show (n + 1) * 5 = 5 + n * 5 by omega, List.range_add, List.map_append, List.map_map, ← ih (by unfold Builtin.zeroCells; simp [enc24])]
    congr 1
    apply List.map_congr_left
    intro i hi
    simp
theorem run_clear24 (w : World) (ty : TypeId) (b o n c : Nat) (hn : 0 < n)
    (hc : ∀ j, j < n * 5 → (w.cell? ⟨b, o + j, none⟩).isSome = true) (hf : ∀ j, j < n * 5 → w.frozen? ⟨b, o + j, none⟩ = false) :
    (Builtin.clear_ #[36] ty #[.slice (some ⟨b, o, none⟩) n c]).run Tryd.prog w = .ok (.tuple #[]) (w.setCells b o ((List.replicate n z24).flatMap enc24)) := by
  have hst := run_storeCells_cells (P := Tryd.prog) b o ((List.replicate n z24).flatMap enc24) 0 w (by rw [flat_len]; simpa using hc) (by rw [flat_len]; simpa using hf) (by
    intro v hv
    obtain ⟨x, _, hx⟩ := List.mem_flatMap.1 hv
    exact one24 x v hx)
  simp only [Nat.add_zero] at hst
  have hzc := zeros24 n
  have hv := Tryd.zeroValue24
  obtain ⟨m, rfl⟩ : ∃ m, n = m + 1 := ⟨n - 1, by omega⟩
  have hz : (Value.agg (enc24 z24).toArray).cells = (enc24 z24).toArray := rfl
  have hv' : ∀ w, (zeroValue 24).run Tryd.prog w = .ok (.agg (enc24 z24).toArray) w := Tryd.zeroValue24
  simp [Builtin.clear_, run_underlying Tryd.underlying36, hv', hz, hzc, hst]
theorem store24 {w wr : World} {n blk off : Nat} {dk : Array S24} {i : Nat} (hi : i < dk.size) (m : Nat) (hwr : wr = putRowK enc24 5 (Sort.ahead w n) blk off dk) (x : S24) :
    (((((wr.drewN m).setCell ⟨blk, off + i * 5, none⟩ (.string x.f0)).setCell ⟨blk, off + i * 5 + 1, none⟩ (.int .i64 x.f1)).setCell ⟨blk, off + i * 5 + 2, none⟩ (.int .i64 x.f2)).setCell ⟨blk, off + i * 5 + 3, none⟩ (.int .i64 x.f3)).setCell ⟨blk, off + i * 5 + 4, none⟩ (.string x.f4) = putRowK enc24 5 (Sort.ahead w (n + m)) blk off (dk.setIfInBounds i x) := by
  subst hwr
  have h : ((putRowK enc24 5 (Sort.ahead w (n + m)) blk off dk).setCells blk (off + i * 5) (enc24 x)) = putRowK enc24 5 (Sort.ahead w (n + m)) blk off (dk.setIfInBounds i x) := by
    unfold putRowK
    rw [setCells_putRow _ _ _ _ _ _ (by rw [len24, size_flatK]; omega), setMany_set enc24 5 (by decide) len24 dk i x hi]
  rw [← h, ← putRowK_drewN]
  rfl
set_option maxHeartbeats 4000000 in
set_option maxRecDepth 1000000 in
theorem Compact_arr (blk off cap : Nat) (d : Array S24) (w : World) (hH : HoldsK enc24 5 w blk off d) (hsz : d.size ≤ 9223372036854775) (hcap : d.size ≤ cap) :
    Calls Tryd.prog 50 #[.slice (some ⟨blk, off, none⟩) d.size cap] w fun e w' => e = .returned (.slice (some ⟨blk, off, none⟩) (compactUpTo d d.size).length cap) ∧ ∃ q, w' = putRowK enc24 5 (Sort.ahead w q) blk off (compactUpTo d d.size ++ List.replicate (d.size - (compactUpTo d d.size).length) z24).toArray := by
  have same : ∀ q, (∀ j, j < d.size → keeps d j = true) → (compactUpTo d d.size).length = d.size ∧ w.drewN q = putRowK enc24 5 (Sort.ahead w q) blk off (compactUpTo d d.size ++ List.replicate (d.size - (compactUpTo d d.size).length) z24).toArray := by
    intro q hall
    have e : compactUpTo d d.size = d.toList := by rw [compactUpTo_all d _ hall, range_map_get]
    rw [e]
    refine ⟨by simp, ?_⟩
    simp only [Array.length_toList, Nat.sub_self, List.replicate_zero, List.append_nil, Array.toArray_toList]
    exact (putRowK_self enc24 5 (Sort.ahead w q) blk off d (holdsK_ahead enc24 5 w q blk off d hH)).symm
  have mixed : Tryd.prog.follows .mixedOrders = true := by kernel_rfl
  have HS : Aside (∀ q, (∀ j, j < d.size → keeps d j = true) → (compactUpTo d d.size).length = d.size ∧ w.drewN q = putRowK enc24 5 (Sort.ahead w q) blk off (compactUpTo d d.size ++ List.replicate (d.size - (compactUpTo d d.size).length) z24).toArray) := same
  clear same
  by_cases h2 : d.size < 2
  · have HH : Aside (HoldsK enc24 5 w blk off d) := hH
    clear hH
    go_enter Tryd.func50, Tryd.ntmps50
    go_wp2
    go_ret
    obtain ⟨e1, e2⟩ := HS.out 0 (fun j hj => keeps_lt_one d j (by omega))
    exact ⟨by rw [e1]; rfl, 0, e2⟩
  · go_enter Tryd.func50, Tryd.ntmps50
    go_wp2
    go_loopg [3] d.size (fun g s3 wr => ∃ k q : Nat, 1 ≤ k ∧ k ≤ d.size ∧ d.size - k ≤ g ∧ s3 = .int .i64 k ∧ wr = w.drewN q ∧ ∀ j, j < k → keeps d j = true)
    case atStart => exact ⟨1, 0, Nat.le_refl _, by omega, by omega, rfl, rfl, keeps_lt_one d⟩
    case round =>
      obtain ⟨k, q, hk1, hk, hg, rfl, rfl, hall⟩ := hrel
      by_cases hlt : k < d.size
      · obtain ⟨k, rfl⟩ : ∃ kp, k = kp + 1 := ⟨k - 1, by omega⟩
        obtain ⟨c10, c11, c12, c13, c14⟩ := cells24 (W := w.drewN q) (holdsK_ahead enc24 5 w q blk off d hH) (i := k + 1) hlt
        obtain ⟨c00, c01, c02, c03, c04⟩ := cells24 (W := w.drewN q) (holdsK_ahead enc24 5 w q blk off d hH) (i := k) (by omega)
        have A : Aside (∀ j, j < k + 1 → keeps d j = true) := hall
        have hwp : IntKind.i64.wrap (k : Int) = (k : Int) := by rw [IntKind.wrap_i64]; omega
        have jz : (k : Int) + 1 < (d.size : Int) := by omega
        have jz1 : (k : Int) < (d.size : Int) := by omega
        have p0 : (0 : Int) ≤ (k : Int) + 1 := by omega
        have e0 : ((k : Int) + 1).toNat = k + 1 := by omega
        have HH : Aside (HoldsK enc24 5 w blk off d) := hH
        clear hall hH
        generalize hx : d[k + 1]! = x at c10 c11 c12 c13 c14
        generalize hy : d[k]! = y at c00 c01 c02 c03 c04
        have B : Aside (d[k + 1]! = x ∧ d[k]! = y) := ⟨hx, hy⟩
        clear hx hy
        generalize hwq : w.drewN q = wq at *
        by_cases hdup : x = y
        · subst hdup
          have hdb : eq24 x x = true := (eq24_iff x x).2 rfl
          go_wp2_with fail
          go_quiet_o (fail)
          clear c00 c01 c02 c03 c04 c10 c11 c12 c13 c14 hdb
          go_wp2
          go_loopg [3, 5] d.size (fun g s3 s5 wr => ∃ (kk k2 q2 : Nat) (dk : Array S24), s3 = .int .i64 kk ∧ s5 = .int .i64 k2 ∧ 1 ≤ k2 ∧ k + 1 + k2 ≤ d.size ∧ d.size - (k + 1 + k2) ≤ g ∧ wr = putRowK enc24 5 (Sort.ahead w q2) blk off dk ∧ CompInv d (k + 1 + k2) kk dk)
          case atStart => exact ⟨k + 1, 1, q + nq, d, by go_num, rfl, Nat.le_refl _, by omega, by omega, by rw [← hwq, World.drewN_drewN]; exact (putRowK_self enc24 5 (Sort.ahead w (q + nq)) blk off d (holdsK_ahead enc24 5 w (q + nq) blk off d HH.out)).symm, CompInv.start A.out (keeps_neg (by omega) (by rw [B.out.1]; exact B.out.2.symm))⟩
          case round =>
            obtain ⟨kk, k2, q2, dk, rfl, rfl, h1, hle, hg2, hwr, hI⟩ := hrel
            have hkk := hI.lt
            have hds := hI.size
            have hHk : HoldsK enc24 5 wr blk off dk := by rw [hwr]; exact holdsK_putRowK enc24 5 _ blk off d dk (holdsK_ahead enc24 5 w q2 blk off d HH.out) hds
            have W2 : Aside (wr = putRowK enc24 5 (Sort.ahead w q2) blk off dk) := hwr
            have I2 : Aside (CompInv d (k + 1 + k2) kk dk) := hI
            clear hwr
            by_cases hlt2 : k + 1 + k2 < d.size
            · obtain ⟨k2, rfl⟩ : ∃ kp, k2 = kp + 1 := ⟨k2 - 1, by omega⟩
              obtain ⟨c10, c11, c12, c13, c14⟩ := cells24 hHk (i := k + 1 + (k2 + 1)) (by omega)
              obtain ⟨c00, c01, c02, c03, c04⟩ := cells24 hHk (i := k + 1 + k2) (by omega)
              obtain ⟨o0, o1, o2, o3, o4⟩ := cells24 hHk (i := kk) (by omega)
              have f0 : wr.frozen? ⟨blk, off + kk * 5, none⟩ = false := (hHk.cell (i := kk) (by omega) (c := 0) (by decide)).2
              have f1 := (hHk.cell (i := kk) (by omega) (c := 1) (by decide)).2
              have f2 := (hHk.cell (i := kk) (by omega) (c := 2) (by decide)).2
              have f3 := (hHk.cell (i := kk) (by omega) (c := 3) (by decide)).2
              have f4 := (hHk.cell (i := kk) (by omega) (c := 4) (by decide)).2
              rw [show off + (k + 1 + (k2 + 1)) * 5 = off + (k + 1) * 5 + (k2 + 1) * 5 by omega, hI.high _ (by omega)] at c10 c11 c12 c13 c14
              rw [show off + (k + 1 + k2) * 5 = off + (k + 1) * 5 + k2 * 5 by omega, hI.high _ (by omega)] at c00 c01 c02 c03 c04
              clear hHk hI
              generalize hx : d[k + 1 + (k2 + 1)]! = u at c10 c11 c12 c13 c14
              generalize hy : d[k + 1 + k2]! = v at c00 c01 c02 c03 c04
              generalize dk[kk]! = old at o0 o1 o2 o3 o4
              have C : Aside (d[k + 1 + (k2 + 1)]! = u ∧ d[k + 1 + k2]! = v) := ⟨hx, hy⟩
              clear hx hy
              have hwp : IntKind.i64.wrap (k2 : Int) = (k2 : Int) := by rw [IntKind.wrap_i64]; omega
              have jz : (k2 : Int) + 1 < ((d.size - (k + 1) : Nat) : Int) := by omega
              have jz1 : (k2 : Int) < ((d.size - (k + 1) : Nat) : Int) := by omega
              have p0 : (0 : Int) ≤ (k2 : Int) + 1 := by omega
              have e0 : ((k2 : Int) + 1).toNat = k2 + 1 := by omega
              by_cases huv : u = v
              · subst huv
                have hdb : eq24 u u = true := (eq24_iff u u).2 rfl
                go_wp2_with fail
                go_quiet_o (fail)
                go_wp2
                go_roundg (d.size - (k + 1 + (k2 + 1 + 1)))
                case measure => omega
                case rel => exact ⟨kk, k2 + 1 + 1, q2 + nq, dk, rfl, by go_num, by omega, by omega, Nat.le_refl _, by rw [W2.out]; exact putRowK_drewN enc24 5 w q2 nq blk off dk, I2.out.skip (keeps_neg (by omega) (by rw [C.out.1]; exact C.out.2.symm))⟩
              · have hdb : eq24 u v = false := by
                  cases h : eq24 u v with
                  | false => rfl
                  | true => exact absurd ((eq24_iff u v).1 h) huv
                go_wp2_with fail
                go_quiet_o (fail)
                go_wp2
                go_roundg (d.size - (k + 1 + (k2 + 1 + 1)))
                case measure => omega
                case rel => exact ⟨kk + 1, k2 + 1 + 1, q2 + nq, dk.setIfInBounds kk u, by go_num, by go_num, by omega, by omega, Nat.le_refl _, store24 (by omega) nq W2.out u, by have := I2.out.keep hlt2 (keeps_pos (by rw [C.out.1]; exact fun e => huv (e.trans C.out.2))); rwa [C.out.1] at this⟩
            · have hend : k + 1 + k2 = d.size := by omega
              have hcl : ∀ ty, (Builtin.clear_ #[36] ty #[.slice (some ⟨blk, off + kk * 5, none⟩) (d.size - kk) (cap - kk)]).run Tryd.prog wr = .ok (.tuple #[]) (wr.setCells blk (off + kk * 5) ((List.replicate (d.size - kk) z24).flatMap enc24)) :=
                fun ty => run_clear24 wr ty blk (off + kk * 5) _ _ (by omega) (fun j hj => by rw [Nat.add_assoc, (hHk (kk * 5 + j) (by rw [size_flatK]; omega)).1]; rfl) (fun j hj => by rw [Nat.add_assoc]; exact (hHk (kk * 5 + j) (by rw [size_flatK]; omega)).2)
              clear hHk hI
              go_wp2
              go_ret
              have hI := I2.out
              rw [hend] at hI
              refine ⟨by rw [hI.len]; rfl, q2, ?_⟩
              rw [hI.len, ← hI.done z24, W2.out]
              unfold putRowK
              rw [setCells_putRow _ _ _ _ _ _ (by rw [flat_len, size_flatK]; simp; omega), setMany_lay _ _ _ (by simp; omega)]
        · have hdb : eq24 x y = false := by
            cases h : eq24 x y with
            | false => rfl
            | true => exact absurd ((eq24_iff x y).1 h) hdup
          go_wp2_with fail
          go_quiet_o (fail)
          go_wp2
          go_roundg (d.size - (k + 1 + 1))
          case measure => omega
          case rel =>
            refine ⟨k + 1 + 1, q + nq, by omega, by omega, Nat.le_refl _, by go_num, by rw [← hwq, World.drewN_drewN], fun j hj => ?_⟩
            by_cases e : j = k + 1
            · subst e
              exact keeps_pos (by rw [B.out.1]; exact fun e => hdup (e.trans B.out.2))
            · exact A.out j (by omega)
      · have : k = d.size := by omega
        subst this
        have HH : Aside (HoldsK enc24 5 w blk off d) := hH
        clear hH
        go_wp2
        go_ret
        obtain ⟨e1, e2⟩ := HS.out q hall
        exact ⟨by rw [e1]; rfl, q, e2⟩
end Go.Proofs.YtlamgdibnnmbmaaDoor.PSort
end
