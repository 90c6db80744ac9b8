/- Part 35 of the proof of LexTokensSaid: The law LexTokens: for all arguments it returns true; each argument reads behind the call as it read before. Out of the plain theorem of YtlamgdibnnmbmaaLtA and the printed contract. -/
import Derived.Test.YtlamgdibnnmbmaaQLexTokens31
import Derived.Test.YtlamgdibnnmbmaaQLexTokens33
section
namespace Go.Proofs.Ytlamgdibnnmbmaa.PLex
open Go.RowKit Go.Proofs.YtlamgdibnnmbmaaW.PrintWords Go.Proofs.YtlamgdibnnmbmaaW.PrintLast Go.Proofs.YtlamgdibnnmbmaaW.PrintMore
set_option linter.unusedVariables false
set_option linter.unusedSimpArgs false
def slashB (T : ByteArray) (i : Nat) (x : Int) : Bool := if h : i < T.size then (((T[i]'h).toNat : Int) == 47) && (if h2 : i + 1 < T.size then (((T[i + 1]'h2).toNat : Int) == x) else false) else false
def closeF (T : ByteArray) : Nat → Nat → Nat
  | 0, k => k
  | n + 1, k => if k + 1 < T.size then if (T.extract k (k + 2)).toList == [42, 47] then k else closeF T n (k + 1) else k
def rtoksF (k : Nat) (T : ByteArray) : Nat → Sc → List S51 → Option (List S51 × Int × Int × Int)
  | 0, _, _ => none
  | n + 1, s, acc =>
    if 100000 < acc.length then none
    else if h : s.at_ < T.size then
      if (((T[s.at_]'h).toNat : Int) == 32) || (((T[s.at_]'h).toNat : Int) == 9) || (((T[s.at_]'h).toNat : Int) == 10) then rtoksF k T n (Sc.skip T 1 s) acc
      else if slashB T s.at_ 47 then rtoksF k T n (Sc.skip T (runTo T lineP s.at_ - s.at_) s) acc
      else if slashB T s.at_ 42 then
        if closeF T T.size (s.at_ + 2) + 1 < T.size then rtoksF k T n (Sc.skip T (closeF T T.size (s.at_ + 2) + 2 - s.at_) s) acc else some ([], s.line, s.col, 11)
      else (maskref1_token.f k (T.extract s.at_ T.size)).bind fun r =>
        if r.2.2.2.2.2.2.2.2.2.2 ≠ 0 then some ([], s.line, s.col, r.2.2.2.2.2.2.2.2.2.2)
        else if 0 ≤ r.2.2.2.2.2.2.2.2.2.1 ∧ s.at_ + r.2.2.2.2.2.2.2.2.2.1.toNat ≤ T.size then
          rtoksF k T n (Sc.skip T r.2.2.2.2.2.2.2.2.2.1.toNat s) (acc ++ [⟨r.1, s.line, s.col, r.2.2.2.1, r.2.2.2.2.1, ⟨r.2.2.2.2.2.1, r.2.2.2.2.2.2.1, r.2.2.2.2.2.2.2.1⟩, r.2.2.2.2.2.2.2.2.1⟩])
        else none
    else some (acc ++ [tok0 s], 0, 0, 0)
def maskref1_Tokens.f (k : Nat) (a0 : ByteArray) : Option (List S51 × Int × Int × Int) := if 16000 < (a0.size : Int) then some ([], 0, 0, 3) else rtoksF k a0 k ⟨0, 1, 1⟩ []
theorem slash_ways {T : ByteArray} {a a1 : Nat} {c : Int} (hlt : a < T.size) (hcc : ((T[a]'hlt).toNat : Int) = c) (ha : a1 = a + 1) :
    (slashB T a 47 = true ∧ (c == 47) = true ∧ ∃ h : a1 < T.size, ((a1 : Int) < (T.size : Int)) ∧ decide ((a1 : Int) < (T.size : Int)) = true ∧ decide (a1 < T.size) = true ∧ (((T[a1]'h).toNat : Int) == 47) = true) ∨
    (slashB T a 47 = false ∧ slashB T a 42 = true ∧ (c == 47) = true ∧ ∃ h : a1 < T.size, ((a1 : Int) < (T.size : Int)) ∧ decide ((a1 : Int) < (T.size : Int)) = true ∧ decide (a1 < T.size) = true ∧ (((T[a1]'h).toNat : Int) == 47) = false ∧ (((T[a1]'h).toNat : Int) == 42) = true) ∨
    (slashB T a 47 = false ∧ slashB T a 42 = false ∧ ((c == 47) = false ∨ (c == 47) = true ∧ decide ((a1 : Int) < (T.size : Int)) = false ∧ decide (a1 < T.size) = false ∨ (c == 47) = true ∧ ∃ h : a1 < T.size, ((a1 : Int) < (T.size : Int)) ∧ decide ((a1 : Int) < (T.size : Int)) = true ∧ decide (a1 < T.size) = true ∧ (((T[a1]'h).toNat : Int) == 47) = false ∧ (((T[a1]'h).toNat : Int) == 42) = false)) := by
  subst ha
  unfold slashB
  rw [dif_pos hlt, dif_pos hlt, hcc]
  cases h47 : (c == 47)
  · exact .inr (.inr ⟨rfl, rfl, .inl rfl⟩)
  · rw [Bool.true_and, Bool.true_and]
    by_cases h1 : a + 1 < T.size
    · rw [dif_pos h1, dif_pos h1]
      have d := decide_eq_true h1
      have d' : decide (((a + 1 : Nat) : Int) < (T.size : Int)) = true := decide_eq_true (lt_int h1)
      cases hx : (((T[a + 1]'h1).toNat : Int) == 47)
      · cases hy : (((T[a + 1]'h1).toNat : Int) == 42)
        · exact .inr (.inr ⟨rfl, rfl, .inr (.inr ⟨rfl, h1, lt_int h1, d', d, hx, hy⟩)⟩)
        · exact .inr (.inl ⟨rfl, rfl, rfl, h1, lt_int h1, d', d, hx, hy⟩)
      · exact .inl ⟨rfl, rfl, h1, lt_int h1, d', d, hx⟩
    · rw [dif_neg h1, dif_neg h1]
      exact .inr (.inr ⟨rfl, rfl, .inr (.inl ⟨rfl, decide_eq_false (by omega), decide_eq_false h1⟩)⟩)
theorem line_eq (c : UInt8) : lineP c = ((c.toNat : Int) != 10) := by
  unfold lineP
  rw [Bool.eq_iff_iff]
  simp only [decide_eq_true_eq, bne_iff_ne]
  omega
theorem Mut3.trans {ba bl bc : Nat} {a b c : World} (h : Mut3 ba bl bc a b) (k : Mut3 ba bl bc b c) : Mut3 ba bl bc a c :=
  ⟨k.os.trans h.os, k.tape.trans h.tape, k.output.trans h.output, Nat.le_trans h.size k.size, fun j hj h1 h2 h3 => (k.keep j (Nat.lt_of_lt_of_le hj h.size) h1 h2 h3).trans (h.keep j hj h1 h2 h3)⟩
theorem w64_two {a a2 S : Nat} (h : a2 = a + 2) (hS : S ≤ 1000000) (ha : a2 ≤ S) : wrap64 ((a : Int) + 2) = (a2 : Int) := by rw [w64' (by omega) (by omega)]; omega
theorem w64_sub {a m e S : Nat} (h : a + m = e) (he : e ≤ S) (hS : S ≤ 1000000) : wrap64 ((e : Int) - (a : Int)) = (m : Int) := by rw [w64' (by omega) (by omega)]; omega
theorem m_lt3 {S e e1 q : Nat} (h : e1 = e + 1) (hl : e1 < S) (hq : S - e + 1 ≤ q) : S - e1 + 1 < q := by omega
theorem fuel_pos {e e1 f S : Nat} (h : S ≤ e + f) (h1 : e1 = e + 1) (hl : e1 < S) : ∃ f', f = f' + 1 := ⟨f - 1, by omega⟩
theorem fuel_next {e e1 f f' S : Nat} (h : S ≤ e + f) (hf : f = f' + 1) (h1 : e1 = e + 1) : S ≤ e1 + f' := by omega
theorem sub_back {e e2 m a a2 : Nat} (hm : m = e + 2 - a) (he : e2 = e + 2) (ha : a2 = a + 2) (hl : a2 ≤ e) : a + m = e2 := by omega
theorem far_gt {b1 ba bl bc gt : Nat} {T : ByteArray} {s : Sc} {w : World} (h : RB b1 ba bl bc T s w) (hg : w.heap.size ≤ gt) : b1 ≠ gt ∧ ba ≠ gt ∧ bl ≠ gt ∧ bc ≠ gt :=
  ⟨Nat.ne_of_lt (Nat.lt_of_lt_of_le (blk_lt h.t) hg), Nat.ne_of_lt (Nat.lt_of_lt_of_le (blk_lt h.a) hg), Nat.ne_of_lt (Nat.lt_of_lt_of_le (blk_lt h.l) hg), Nat.ne_of_lt (Nat.lt_of_lt_of_le (blk_lt h.c) hg)⟩
theorem rb_mut {b1 ba bl bc gt : Nat} {T : ByteArray} {s : Sc} {w w' : World} (h : RB b1 ba bl bc T s w) (hm : Mut gt w w') (hx : b1 ≠ gt ∧ ba ≠ gt ∧ bl ≠ gt ∧ bc ≠ gt) : RB b1 ba bl bc T s w' :=
  ⟨(hm.keep _ (blk_lt h.t) hx.1).trans h.t, (hm.keep _ (blk_lt h.a) hx.2.1).trans h.a, (hm.keep _ (blk_lt h.l) hx.2.2.1).trans h.l, (hm.keep _ (blk_lt h.c) hx.2.2.2).trans h.c⟩
theorem rb_fresh {b1 ba bl bc k : Nat} {T : ByteArray} {s : Sc} {w : World} (h : RB b1 ba bl bc T s w) (hk : w.heap.size ≤ k) : k ≠ b1 ∧ k ≠ ba ∧ k ≠ bl ∧ k ≠ bc :=
  ⟨Kd.freshB h.t k hk, Kd.freshB h.a k hk, Kd.freshB h.l k hk, Kd.freshB h.c k hk⟩
theorem rb_grown {b1 ba bl bc : Nat} {T : ByteArray} {s : Sc} {w w' : World} {o : Option Nat} (h : RB b1 ba bl bc T s w) (hg : w.grownBy w' o) (ho : ∀ k, o = some k → k ≠ b1 ∧ k ≠ ba ∧ k ≠ bl ∧ k ≠ bc) : RB b1 ba bl bc T s w' :=
  ⟨(hg.block _ (blk_lt h.t) (fun e => (ho b1 e.symm).1 rfl)).trans h.t, (hg.block _ (blk_lt h.a) (fun e => (ho ba e.symm).2.1 rfl)).trans h.a, (hg.block _ (blk_lt h.l) (fun e => (ho bl e.symm).2.2.1 rfl)).trans h.l, (hg.block _ (blk_lt h.c) (fun e => (ho bc e.symm).2.2.2 rfl)).trans h.c⟩
theorem rb_start (w : World) (T : ByteArray) {b1 ba bl bc : Nat} {w1 : World} (e1 : b1 = w.heap.size) (ea : ba = w.heap.size + 1) (el : bl = w.heap.size + 1 + 1) (ec : bc = w.heap.size + 1 + 1 + 1)
    (ew : w1 = ((((w.alloc (Obj.cells #[.string T] 9)).alloc (Obj.cells #[.int .i64 0] 3)).alloc (Obj.cells #[.int .i64 1] 3)).alloc (Obj.cells #[.int .i64 1] 3))) : RB b1 ba bl bc T ⟨0, 1, 1⟩ w1 := by
  have z : ∀ (W : World) (o : Obj), (W.alloc o).heap.size = W.heap.size + 1 := fun W o => Array.size_push _
  subst e1 ea el ec ew
  refine ⟨?_, ?_, ?_, ?_⟩
  · exact blk_alloc (blk_alloc (blk_alloc (heap_alloc_new _ _) _) _) _
  · have h := heap_alloc_new (w.alloc (Obj.cells #[.string T] 9)) (.cells #[.int .i64 0] 3)
    rw [z] at h
    exact blk_alloc (blk_alloc h _) _
  · have h := heap_alloc_new ((w.alloc (Obj.cells #[.string T] 9)).alloc (Obj.cells #[.int .i64 0] 3)) (.cells #[.int .i64 1] 3)
    rw [z, z] at h
    exact blk_alloc h _
  · have h := heap_alloc_new (((w.alloc (Obj.cells #[.string T] 9)).alloc (Obj.cells #[.int .i64 0] 3)).alloc (Obj.cells #[.int .i64 1] 3)) (.cells #[.int .i64 1] 3)
    rw [z, z, z] at h
    exact h
set_option maxHeartbeats 16000000 in
set_option maxRecDepth 100000 in
theorem rtokens_walk (k : Nat) (T : ByteArray) (r : List S51 × Int × Int × Int) (w : World) (hT : T.size ≤ 16000) (h : rtoksF k T k ⟨0, 1, 1⟩ [] = some r) :
    Calls Try.prog 21 #[.string T] w fun e w' => ∃ v, e = .returned (.tuple #[v, .int .i64 r.2.1, .int .i64 r.2.2.1, .int .i64 r.2.2.2]) ∧ Kd.R k51 51 w' w.heap.size (fun _ => True) v r.1 ∧ Below w.heap.size w w' := by
  have mixed : Try.prog.follows .mixedOrders = true := by kernel_rfl
  have hT2 : decide ((16000 : Int) < (T.size : Int)) = false := decide_eq_false (by omega)
  have hT3 : decide (16000 < T.size) = false := decide_eq_false (by omega)
  have HH := Aside0.mk h
  have HT := Aside0.mk hT
  clear h hT
  go_enter Try.func21, Try.ntmps21
  go_wp2
  have hW : ∃ (b1 ba bl bc : Nat) (w1 : World), b1 = w.heap.size ∧ ba = w.heap.size + 1 ∧ bl = w.heap.size + 1 + 1 ∧ bc = w.heap.size + 1 + 1 + 1 ∧ w1 = ((((w.alloc (Obj.cells #[.string T] 9)).alloc (Obj.cells #[.int .i64 0] 3)).alloc (Obj.cells #[.int .i64 1] 3)).alloc (Obj.cells #[.int .i64 1] 3)) := ⟨_, _, _, _, _, rfl, rfl, rfl, rfl, rfl⟩
  obtain ⟨b1, ba, bl, bc, w1, e1, ea, el, ec, ew⟩ := hW
  have hRB := Aside0.mk (rb_start w T e1 ea el ec ew)
  rw [← ew, ← ec, ← el, ← ea, ← e1]
  have HE := Aside0.mk (And.intro e1 (And.intro ea (And.intro el ec)))
  have HFAR := Aside0.mk (show Far b1 ba bl bc from ⟨by omega, by omega, by omega, by omega, by omega, by omega⟩)
  have HGE := Aside0.mk (show w.heap.size ≤ b1 ∧ w.heap.size ≤ ba ∧ w.heap.size ≤ bl ∧ w.heap.size ≤ bc from ⟨by omega, by omega, by omega, by omega⟩)
  have HBW1 := Aside0.mk (show Below w.heap.size w w1 from by rw [ew]; exact below_alloc (below_alloc (below_alloc (below_alloc (Below.refl _ _) _) _) _) _)
  clear e1 ea el ec ew
  go_loopg [6] k (fun kq v6 w' => ∃ (s : Sc) (acc : List S51), Aside0 (s.Ok T) ∧ Aside0 (rtoksF k T kq s acc = some r) ∧ Aside0 (RB b1 ba bl bc T s w') ∧ Aside0 (Below w.heap.size w w') ∧ Aside0 (Kd.R k51 51 w' w.heap.size (fun k => k ≠ b1 ∧ k ≠ ba ∧ k ≠ bl ∧ k ≠ bc) v6 acc))
  case atStart => exact ⟨⟨0, 1, 1⟩, [], ⟨⟨Nat.le_trans HT.out (by decide), Nat.zero_le _, Nat.le_refl _, Nat.le_refl _⟩⟩, HH, hRB, HBW1, ⟨Kd.R_nil _ _ _ _ _⟩⟩
  case round =>
    obtain ⟨s, acc, HS, HF, HRB, HBW, HR⟩ := hrel
    cases gk with
    | zero => exact absurd HF.out (by simp [rtoksF])
    | succ n =>
      have hF := HF.out
      rw [rtoksF] at hF
      clear HF
      split at hF
      · cases hF
      rename_i hacc
      have HA := Aside0.mk (Nat.le_of_not_lt hacc)
      clear hacc
      have hc0 : wr.cell? ⟨b1, 0, none⟩ = some (.string T) := (blk_cell HRB.out.t 0).trans rfl
      have hc1 : wr.cell? ⟨ba, 0, none⟩ = some (.int .i64 s.at_) := (blk_cell HRB.out.a 0).trans rfl
      have hc2 : wr.cell? ⟨bl, 0, none⟩ = some (.int .i64 s.line) := (blk_cell HRB.out.l 0).trans rfl
      have hc3 : wr.cell? ⟨bc, 0, none⟩ = some (.int .i64 s.col) := (blk_cell HRB.out.c 0).trans rfl
      split at hF
      · rename_i hlt
        have i0 : (0 : Int) ≤ (s.at_ : Int) := nn_int
        have i1 := lt_int hlt
        have il : decide (s.at_ < T.size) = true := decide_eq_true hlt
        have hON := Aside0.mk (fun (n : Nat) (hn : s.at_ + n ≤ T.size) (W : World) (h : RB b1 ba bl bc T s W) => on_walk T b1 ba bl bc n s W HFAR.out HS.out hn h)
        obtain ⟨c, hcc⟩ : ∃ c : Int, (((T[s.at_]'hlt).toNat : Int)) = c := ⟨_, rfl⟩
        rw [hcc] at hF
        split at hF
        · rename_i hbl
          have HF := Aside0.mk hF
          clear hF
          have hor : (c == 32) = true ∨ ((c == 32) = false ∧ (c == 9) = true) ∨ ((c == 32) = false ∧ (c == 9) = false ∧ (c == 10) = true) := by
            revert hbl; cases (c == 32) <;> cases (c == 9) <;> cases (c == 10) <;> simp
          clear hbl
          have H1 := Aside0.mk (show Calls Try.prog 30 #[.int .i64 1, .pointer (some ⟨bc, 0, none⟩), .pointer (some ⟨b1, 0, none⟩), .pointer (some ⟨ba, 0, none⟩), .pointer (some ⟨bl, 0, none⟩)] wr fun e w' => e = .returned (.tuple #[]) ∧ Mut3 ba bl bc wr w' ∧ RB b1 ba bl bc T (Sc.skip T 1 s) w' from hON.out 1 hlt wr HRB.out)
          rcases hor with h32 | ⟨h32, h9⟩ | ⟨h32, h9, h10⟩
          all_goals as_aux_lemma =>
            go_wp2_with (first | (go_at_call 30; (with_reducible refine H1.out.mono ?_); rintro e w2 ⟨rfl, hM2, hRB2⟩; have HM2 := Aside0.mk hM2; have HRB2 := Aside0.mk hRB2; clear hM2 hRB2))
            go_roundg n
            case measure => exact Nat.lt_succ_self n
            case rel => exact ⟨_, acc, ⟨HS.out.skip 1 hlt⟩, HF, HRB2, ⟨Mut3.to_below HBW.out HGE.out.2.1 HGE.out.2.2.1 HGE.out.2.2.2 HBW.out.size HM2.out⟩, ⟨Kd.R_step HR.out (fun k hk hl => HM2.out.keep k hl hk.2.1 hk.2.2.1 hk.2.2.2)⟩⟩
        · rename_i hbl
          have hbl := Bool.eq_false_iff.2 hbl
          obtain ⟨hbl1, h10⟩ := Bool.or_eq_false_iff.1 hbl
          obtain ⟨h32, h9⟩ := Bool.or_eq_false_iff.1 hbl1
          clear hbl hbl1
          obtain ⟨a1, ha1⟩ : ∃ a1, a1 = s.at_ + 1 := ⟨_, rfl⟩
          have iw1 : wrap64 ((s.at_ : Int) + 1) = (a1 : Int) := w64_succ ha1 HS.out.size (Nat.le_of_lt hlt)
          have iw2 : IntKind.i64.wrap ((s.at_ : Int) + 1) = (a1 : Int) := by rw [i64_w]; exact iw1
          have ia0 : (0 : Int) ≤ (a1 : Int) := nn_int
          have HA1 := Aside0.mk ha1
          have hways : (slashB T s.at_ 47 = true ∧ (c == 47) = true ∧ ∃ h : a1 < T.size, ((a1 : Int) < (T.size : Int)) ∧ decide ((a1 : Int) < (T.size : Int)) = true ∧ decide (a1 < T.size) = true ∧ (((T[a1]'h).toNat : Int) == 47) = true) ∨
              (slashB T s.at_ 47 = false ∧ slashB T s.at_ 42 = true ∧ (c == 47) = true ∧ ∃ h : a1 < T.size, ((a1 : Int) < (T.size : Int)) ∧ decide ((a1 : Int) < (T.size : Int)) = true ∧ decide (a1 < T.size) = true ∧ (((T[a1]'h).toNat : Int) == 47) = false ∧ (((T[a1]'h).toNat : Int) == 42) = true) ∨
              (slashB T s.at_ 47 = false ∧ slashB T s.at_ 42 = false ∧ ((c == 47) = false ∨ (c == 47) = true ∧ decide ((a1 : Int) < (T.size : Int)) = false ∧ decide (a1 < T.size) = false ∨ (c == 47) = true ∧ ∃ h : a1 < T.size, ((a1 : Int) < (T.size : Int)) ∧ decide ((a1 : Int) < (T.size : Int)) = true ∧ decide (a1 < T.size) = true ∧ (((T[a1]'h).toNat : Int) == 47) = false ∧ (((T[a1]'h).toNat : Int) == 42) = false)) := slash_ways hlt hcc ha1
          clear ha1
          rcases hways with ⟨hs47, h47, h1T, j1, d1, d2, hx⟩ | ⟨hs47, hs42, h47, h1T, j1, d1, d2, hx, hx2⟩ | ⟨hs47, hs42, hways⟩
          · rw [if_pos hs47] at hF
            have HF := Aside0.mk hF
            clear hF hs47
            as_aux_lemma =>
              go_wp2_with fail
              go_loopg [] (T.size - s.at_ + 1) (fun kq w' => ∃ j : Nat, Aside0 (s.at_ + j ≤ T.size) ∧ Aside0 (runTo T lineP (s.at_ + j) = runTo T lineP s.at_) ∧ Aside0 (T.size - (s.at_ + j) + 1 ≤ kq) ∧ Aside0 (Mut3 ba bl bc wr w') ∧ Aside0 (RB b1 ba bl bc T (Sc.skip T j s) w'))
              case atStart => exact ⟨0, ⟨Nat.le_of_lt hlt⟩, ⟨rfl⟩, ⟨Nat.le_refl _⟩, ⟨Mut3.refl _ _ _ _⟩, HRB⟩
              case round =>
                obtain ⟨j, HJ, HRT, HQ, HM2, HRB2⟩ := hrel
                by_cases hj : s.at_ + j < T.size
                · have hok := HS.out.skip j (Nat.le_of_lt hj)
                  have hat := Sc.skip_at T s j
                  have hst : Sc.skip T (j + 1) s = (Sc.skip T j s).step T := rfl
                  obtain ⟨kk, hkk⟩ : ∃ kk, kk = s.at_ + j := ⟨_, rfl⟩
                  rw [← hkk] at hat hj
                  generalize hz : Sc.skip T j s = z at hok hat hst HRB2
                  have HZ := Aside0.mk hz
                  clear hz
                  have hd0 : wr.cell? ⟨b1, 0, none⟩ = some (.string T) := (blk_cell HRB2.out.t 0).trans rfl
                  have hd1 : wr.cell? ⟨ba, 0, none⟩ = some (.int .i64 kk) := by rw [← hat]; exact (blk_cell HRB2.out.a 0).trans rfl
                  have k0 : (0 : Int) ≤ (kk : Int) := nn_int
                  have k1 := lt_int hj
                  have kd1 : decide ((kk : Int) < (T.size : Int)) = true := decide_eq_true k1
                  have kd2 : decide (kk < T.size) = true := decide_eq_true hj
                  have hrt : runTo T lineP kk = if lineP (T[kk]'hj) then runTo T lineP (kk + 1) else kk := by rw [runTo_eq, dif_pos hj]
                  have hlp : lineP (T[kk]'hj) = (((T[kk]'hj).toNat : Int) != 10) := line_eq _
                  rw [hlp] at hrt
                  obtain ⟨d, hd⟩ : ∃ d : Int, (((T[kk]'hj).toNat : Int)) = d := ⟨_, rfl⟩
                  rw [hd] at hrt
                  have HOK := Aside0.mk hok
                  have HAT := Aside0.mk hat
                  have HST := Aside0.mk hst
                  have HKK := Aside0.mk hkk
                  have HRTE := Aside0.mk hrt
                  have HJ2 := Aside0.mk hj
                  clear hok hat hst hkk hrt hlp
                  cases hd10 : (d != 10)
                  · have HD := Aside0.mk hd10
                    go_wp2_with fail
                    go_roundg n
                    case measure => exact Nat.lt_succ_self n
                    case rel =>
                      have hjr : runTo T lineP s.at_ - s.at_ = j := by
                        have h1 := HRT.out
                        have h2 := HRTE.out
                        rw [HD.out] at h2
                        rw [← h1, ← HKK.out, h2]
                        show kk - s.at_ = j
                        rw [HKK.out, Nat.add_sub_cancel_left]
                      exact ⟨z, acc, HOK, ⟨by have h := HF.out; rw [hjr, HZ.out] at h; exact h⟩, HRB2, ⟨Mut3.to_below HBW.out HGE.out.2.1 HGE.out.2.2.1 HGE.out.2.2.2 HBW.out.size HM2.out⟩, ⟨Kd.R_step HR.out (fun k hk hl => HM2.out.keep k hl hk.2.1 hk.2.2.1 hk.2.2.2)⟩⟩
                  · have HD := Aside0.mk hd10
                    have H1 := Aside0.mk (show Calls Try.prog 30 #[.int .i64 1, .pointer (some ⟨bc, 0, none⟩), .pointer (some ⟨b1, 0, none⟩), .pointer (some ⟨ba, 0, none⟩), .pointer (some ⟨bl, 0, none⟩)] wr fun e w' => e = .returned (.tuple #[]) ∧ Mut3 ba bl bc wr w' ∧ RB b1 ba bl bc T (Sc.skip T 1 z) w' from on_walk T b1 ba bl bc 1 z wr HFAR.out HOK.out (by rw [HAT.out]; exact HJ2.out) HRB2.out)
                    go_wp2_with (first | (go_at_call 30; (with_reducible refine H1.out.mono ?_); rintro e w2 ⟨rfl, hM2, hRB2⟩; have HM3 := Aside0.mk hM2; have HRB3 := Aside0.mk hRB2; clear hM2 hRB2))
                    go_roundg (T.size - (s.at_ + (j + 1)) + 1)
                    case measure => exact m_lt' (Nat.le_of_lt (HKK.out ▸ HJ2.out)) HKK.out HJ2.out HQ.out
                    case rel =>
                      refine ⟨j + 1, ⟨m_j HKK.out HJ2.out⟩, ⟨?_⟩, ⟨Nat.le_refl _⟩, ⟨HM2.out.trans HM3.out⟩, ⟨?_⟩⟩
                      · have h1 := HRT.out
                        have h2 := HRTE.out
                        rw [HD.out] at h2
                        rw [← h1, ← HKK.out, h2, HKK.out]; rfl
                      · rw [HST.out]; exact HRB3.out
                · have hat := Sc.skip_at T s j
                  have hend : s.at_ + j = T.size := Nat.le_antisymm HJ.out (Nat.le_of_not_lt hj)
                  rw [hend] at hat
                  have hjr : runTo T lineP s.at_ - s.at_ = j := by
                    rw [← HRT.out, runTo_eq, dif_neg hj, Nat.add_sub_cancel_left]
                  have hd0 : wr.cell? ⟨b1, 0, none⟩ = some (.string T) := (blk_cell HRB2.out.t 0).trans rfl
                  have hd1 : wr.cell? ⟨ba, 0, none⟩ = some (.int .i64 T.size) := by rw [← hat]; exact (blk_cell HRB2.out.a 0).trans rfl
                  have kd1 : decide ((T.size : Int) < (T.size : Int)) = false := decide_eq_false (by omega)
                  have kd2 : decide (T.size < T.size) = false := decide_eq_false (by omega)
                  have HJR := Aside0.mk hjr
                  clear hj hat hend hjr
                  go_wp2_with fail
                  go_roundg n
                  case measure => exact Nat.lt_succ_self n
                  case rel => exact ⟨Sc.skip T j s, acc, ⟨HS.out.skip j HJ.out⟩, ⟨by have h := HF.out; rw [HJR.out] at h; exact h⟩, HRB2, ⟨Mut3.to_below HBW.out HGE.out.2.1 HGE.out.2.2.1 HGE.out.2.2.2 HBW.out.size HM2.out⟩, ⟨Kd.R_step HR.out (fun k hk hl => HM2.out.keep k hl hk.2.1 hk.2.2.1 hk.2.2.2)⟩⟩
          · rw [if_neg (by rw [hs47]; decide), if_pos hs42] at hF
            have HF := Aside0.mk hF
            clear hF hs47 hs42
            obtain ⟨a2, ha2⟩ : ∃ a2, a2 = s.at_ + 2 := ⟨_, rfl⟩
            rw [← ha2] at HF
            have hle2 : a2 ≤ T.size := by rw [ha2]; have h := h1T; rw [HA1.out] at h; exact h
            have iw3 : wrap64 ((s.at_ : Int) + 2) = (a2 : Int) := w64_two ha2 HS.out.size hle2
            have iw4 : IntKind.i64.wrap ((s.at_ : Int) + 2) = (a2 : Int) := by rw [i64_w]; exact iw3
            have HA2 := Aside0.mk (And.intro ha2 hle2)
            clear ha2 hle2
            as_aux_lemma =>
              go_wp2_with fail
              go_loopg [11] (T.size + 1) (fun kq v11 w' => ∃ (e f : Nat), v11 = .int .i64 (e : Int) ∧ Aside0 (a2 ≤ e ∧ e ≤ T.size) ∧ Aside0 (closeF T f e = closeF T T.size a2) ∧ Aside0 (T.size ≤ e + f) ∧ Aside0 (T.size - e + 1 ≤ kq) ∧ w' = wr)
              case atStart => exact ⟨a2, T.size, rfl, ⟨Nat.le_refl _, HA2.out.2⟩, ⟨rfl⟩, ⟨Nat.le_add_left _ _⟩, ⟨Nat.succ_le_succ (Nat.sub_le _ _)⟩, rfl⟩
              case round =>
                obtain ⟨e, f, rfl, HEE, HCL, HEF, HQ, rfl⟩ := hrel
                obtain ⟨e1, he1⟩ : ∃ e1, e1 = e + 1 := ⟨_, rfl⟩
                have ie1 : wrap64 ((e : Int) + 1) = (e1 : Int) := w64_succ he1 HS.out.size HEE.out.2
                have ie2 : IntKind.i64.wrap ((e : Int) + 1) = (e1 : Int) := by rw [i64_w]; exact ie1
                have ie0 : (0 : Int) ≤ (e : Int) := nn_int
                have HE1 := Aside0.mk he1
                by_cases hl1 : e1 < T.size
                · have il1 := lt_int hl1
                  have id1 : decide ((e1 : Int) < (T.size : Int)) = true := decide_eq_true il1
                  have id2 : decide (e1 < T.size) = true := decide_eq_true hl1
                  obtain ⟨e2, he2⟩ : ∃ e2, e2 = e + 2 := ⟨_, rfl⟩
                  have hl2 : e2 ≤ T.size := by rw [he2]; rw [he1] at hl1; exact hl1
                  have ie3 : wrap64 ((e : Int) + 2) = (e2 : Int) := w64_two he2 HS.out.size hl2
                  have ie4 : IntKind.i64.wrap ((e : Int) + 2) = (e2 : Int) := by rw [i64_w]; exact ie3
                  have il2 : (e2 : Int) ≤ (T.size : Int) := le_int hl2
                  have il3 : (e : Int) ≤ (e2 : Int) := le_int (by rw [he2]; exact Nat.le_add_right _ _)
                  have HE2 := Aside0.mk he2
                  obtain ⟨f', hf'⟩ : ∃ f', f = f' + 1 := fuel_pos HEF.out he1 hl1
                  have id3 : (T.size ≤ e1) = False := eq_false (Nat.not_le_of_lt hl1)
                  have id4 : decide ((T.size : Int) ≤ (e1 : Int)) = false := ge_no hl1
                  have hcl := HCL.out
                  rw [hf', closeF, if_pos (he1 ▸ hl1), ← he2, ← he1] at hcl
                  have HF' := Aside0.mk hf'
                  have HL1 := Aside0.mk hl1
                  clear he1 he2 hf' HCL
                  cases hq : ((T.extract e e2).toList == [42, 47])
                  · rw [hq, if_neg (by decide)] at hcl
                    have HCL2 := Aside0.mk hcl
                    clear hcl
                    go_wp2_with fail
                    go_roundg (T.size - e1 + 1)
                    case measure => exact m_lt3 HE1.out HL1.out HQ.out
                    case rel => exact ⟨e1, f', rfl, ⟨by rw [HE1.out]; exact Nat.le_succ_of_le HEE.out.1, Nat.le_of_lt HL1.out⟩, HCL2, ⟨fuel_next HEF.out HF'.out HE1.out⟩, ⟨Nat.le_refl _⟩, rfl⟩
                  · rw [hq, if_pos rfl] at hcl
                    obtain ⟨m, hm⟩ : ∃ m, m = e + 2 - s.at_ := ⟨_, rfl⟩
                    have hma : s.at_ + m = e2 := sub_back hm HE2.out HA2.out.1 HEE.out.1
                    have iwm : wrap64 ((e2 : Int) - (s.at_ : Int)) = (m : Int) := w64_sub hma hl2 HS.out.size
                    have iwm2 : IntKind.i64.wrap ((e2 : Int) - (s.at_ : Int)) = (m : Int) := by rw [i64_w]; exact iwm
                    have hF2 := HF.out
                    rw [← hcl, ← HE1.out, if_pos HL1.out, ← hm] at hF2
                    have HF2 := Aside0.mk hF2
                    have HMA := Aside0.mk (show s.at_ + m ≤ T.size from hma ▸ hl2)
                    have HM1 := Aside0.mk (hON.out m HMA.out wr HRB.out)
                    clear hF2 hcl hm hma
                    go_wp2_with (first | (go_at_call 30; (with_reducible refine HM1.out.mono ?_); rintro e w2 ⟨rfl, hM2, hRB2⟩; have HM2 := Aside0.mk hM2; have HRB2 := Aside0.mk hRB2; clear hM2 hRB2))
                    go_roundg n
                    case measure => exact Nat.lt_succ_self n
                    case rel => exact ⟨_, acc, ⟨HS.out.skip m HMA.out⟩, HF2, HRB2, ⟨Mut3.to_below HBW.out HGE.out.2.1 HGE.out.2.2.1 HGE.out.2.2.2 HBW.out.size HM2.out⟩, ⟨Kd.R_step HR.out (fun k hk hl => HM2.out.keep k hl hk.2.1 hk.2.2.1 hk.2.2.2)⟩⟩
                · have id1 : decide ((e1 : Int) < (T.size : Int)) = false := decide_eq_false (fun h => hl1 (Int.ofNat_lt.1 h))
                  have id2 : decide (e1 < T.size) = false := decide_eq_false hl1
                  have id3 : (T.size ≤ e1) = True := eq_true (Nat.le_of_not_lt hl1)
                  have id4 : decide ((T.size : Int) ≤ (e1 : Int)) = true := decide_eq_true (le_int (Nat.le_of_not_lt hl1))
                  have hcl : closeF T f e = e := by
                    cases f with
                    | zero => rfl
                    | succ f => rw [closeF, if_neg (he1 ▸ hl1)]
                  have hF2 := HF.out
                  rw [← HCL.out, hcl, ← he1, if_neg hl1] at hF2
                  injection hF2 with hF2
                  have HRE := Aside0.mk hF2
                  clear hF2 hcl he1 hl1
                  go_wp2_with fail
                  go_quiet (fail)
                  go_wp2_with fail
                  refine bodyPost_ret (results_tmp4 rfl _ _ _) rfl ?_
                  rw [← HRE.out]
                  exact ⟨_, rfl, Kd.R_nil _ _ _ _ _, pw_below_drewN HBW.out _⟩
          · rw [if_neg (by rw [hs47]; decide), if_neg (by rw [hs42]; decide)] at hF
            obtain ⟨⟨r0, r1, r2, r3, r4, r5, r6, r7, r8, r9, r10⟩, htok, hF⟩ := Option.bind_eq_some_iff.1 hF
            have HTK := Aside0.mk (maskref1_token.calls k (T.extract s.at_ T.size) r0 r1 r2 r3 r4 r5 r6 r7 r8 r9 r10 wr htok)
            have HF := Aside0.mk hF
            have it0 : (s.at_ : Int) ≤ (T.size : Int) := le_int (Nat.le_of_lt hlt)
            clear hF htok hs47 hs42
            rcases hways with h47 | ⟨h47, d1, d2⟩ | ⟨h47, h1T, j1, d1, d2, hx, hx2⟩
            all_goals
              go_upto_region 9 with (first | (go_at_call 31; (with_reducible refine HTK.out.mono ?_); rintro e w2 ⟨rfl, hB2⟩))
              have hrb3 := HRB.out.below (below_alloc hB2 (.cells #[.int .i64 r0, .int .i64 r1, .int .i64 r2, .string r3, .bool r4, .int .i64 r5, .int .u64 r6, .int .u64 r7, .bool r8] 51))
              have hbw3 := below_alloc (below_step HBW.out hB2) (.cells #[.int .i64 r0, .int .i64 r1, .int .i64 r2, .string r3, .bool r4, .int .i64 r5, .int .u64 r6, .int .u64 r7, .bool r8] 51)
              have hbr3 := below_alloc hB2 (.cells #[.int .i64 r0, .int .i64 r1, .int .i64 r2, .string r3, .bool r4, .int .i64 r5, .int .u64 r6, .int .u64 r7, .bool r8] 51)
              have hT3 : TBlk (w2.alloc (.cells #[.int .i64 r0, .int .i64 r1, .int .i64 r2, .string r3, .bool r4, .int .i64 r5, .int .u64 r6, .int .u64 r7, .bool r8] 51)) w2.heap.size ⟨r0, r1, r2, r3, r4, ⟨r5, r6, r7⟩, r8⟩ := heap_alloc_new w2 _
              have hgt0 : wr.heap.size ≤ w2.heap.size := hB2.size
              generalize (w2.alloc (.cells #[.int .i64 r0, .int .i64 r1, .int .i64 r2, .string r3, .bool r4, .int .i64 r5, .int .u64 r6, .int .u64 r7, .bool r8] 51)) = w3 at *
              generalize w2.heap.size = gt at *
              have HRB3 := Aside0.mk hrb3
              have HBW3 := Aside0.mk hbw3
              have HBR3 := Aside0.mk hbr3
              have HT3 := Aside0.mk hT3
              have HGT := Aside0.mk hgt0
              have hd2 : w3.cell? ⟨bl, 0, none⟩ = some (.int .i64 s.line) := (blk_cell hrb3.l 0).trans rfl
              have hd3 : w3.cell? ⟨bc, 0, none⟩ = some (.int .i64 s.col) := (blk_cell hrb3.c 0).trans rfl
              clear hrb3 hbw3 hbr3 hT3 hgt0 hB2 hc0 hc1 hc2 hc3
              have hF := HF.out
              by_cases her : r10 = 0
              · have b2 : (r10 != 0) = false := by rw [her]; rfl
                rw [if_neg (fun x => x her)] at hF
                split at hF
                · rename_i hnn
                  obtain ⟨hn0, hnle⟩ := hnn
                  obtain ⟨m, rfl⟩ := Int.eq_ofNat_of_zero_le hn0
                  rw [Int.toNat_natCast] at hF hnle
                  have HF2 := Aside0.mk hF
                  have HLE := Aside0.mk hnle
                  have HX := Aside0.mk (far_gt HRB.out HGT.out)
                  obtain ⟨x1, x2, x3, x4⟩ := HX.out
                  have x3' := x3.symm
                  have x4' := x4.symm
                  obtain ⟨hz0, hz1, hz2, hz3, hz4, hz5, hz6, hz7, hz8⟩ := sq_cells9 HT3.out
                  obtain ⟨hf0, hf1, hf2, hf3, hf4, hf5, hf6, hf7, hf8⟩ := sq_frozen9 HT3.out
                  clear hF her hn0 hnle HF
                  go_wp2_with fail
                  have hS0 : w3.cell? ⟨bl, 0, none⟩ = some (.int .i64 s.line) ∧ w3.cell? ⟨bc, 0, none⟩ = some (.int .i64 s.col) := ⟨hd2, hd3⟩
                  go_region_held3 (fun w' => w'.cell? ⟨bl, 0, none⟩ = some (.int .i64 s.line) ∧ w'.cell? ⟨bc, 0, none⟩ = some (.int .i64 s.col)) (go_keep) (fail)
                  rename_i hHeld
                  have hT4 : TBlk (((w3.setCell { block := gt, off := 1 } (.int .i64 s.line)).setCell { block := gt, off := 2 } (.int .i64 s.col)).drew) gt (⟨r0, (s.line : Int), (s.col : Int), r3, r4, ⟨r5, r6, r7⟩, r8⟩ : S51) := blk_put (blk_put HT3.out 1 _ rfl) 2 _ rfl
                  have hM4 : Mut gt w3 (((w3.setCell { block := gt, off := 1 } (.int .i64 s.line)).setCell { block := gt, off := 2 } (.int .i64 s.col)).drew) := (((Mut.refl gt w3).put 1 _).put 2 _).drew
                  clear hHeld hS0 hz0 hz1 hz2 hz3 hz4 hz5 hz6 hz7 hz8 hf0 hf1 hf2 hf3 hf4 hf5 hf6 hf7 hf8 hd2 hd3
                  generalize (((w3.setCell { block := gt, off := 1 } (.int .i64 s.line)).setCell { block := gt, off := 2 } (.int .i64 s.col)).drew) = w4 at *
                  obtain ⟨hz0, hz1, hz2, hz3, hz4, hz5, hz6, hz7, hz8⟩ := sq_cells9 hT4
                  have HM4 := Aside0.mk hM4
                  have HRB4 := Aside0.mk (rb_mut HRB3.out hM4 HX.out)
                  have HR4 := Aside0.mk (Kd.R_step (w1 := w4) HR.out (fun k hk hl => (HM4.out.keep k (Nat.lt_of_lt_of_le hl HBR3.out.size) (Nat.ne_of_lt (Nat.lt_of_lt_of_le hl HGT.out))).trans (HBR3.out.block k hl)))
                  have HB4 := Aside0.mk (Mut.to_below HBW3.out (Nat.le_trans HBW.out.size HGT.out) hM4)
                  clear hT4 hM4 x1 x2 x3 x4 x3' x4'
                  go_wp2_with (first
                    | ((with_reducible refine gate_builtin (b := .append) (xs := #[.tmp 40, .tmp 42]) rfl ?_); at_builtin; refine Kd.R_append k51 (w0 := w) (W := w4) w.heap.size rfl (.tmp 40) (.tmp 42) 46 51 (.agg #[.int .i64 0, .int .i64 0, .int .i64 0, .string ⟨#[]⟩, .bool false, .int .i64 0, .int .u64 0, .int .u64 0, .bool false]) 80 rfl Try.underlying46 infoTok rfl (by decide) (by decide) u6 acc (⟨r0, (s.line : Int), (s.col : Int), r3, r4, ⟨r5, r6, r7⟩, r8⟩ : S51) [.int .i64 r0, .int .i64 s.line, .int .i64 s.col, .string r3, .bool r4, .int .i64 r5, .int .u64 r6, .int .u64 r7, .bool r8] (fun k => k ≠ b1 ∧ k ≠ ba ∧ k ≠ bl ∧ k ≠ bc) (fun _ => False) rfl rfl ?aP (fun _ hk => hk.elim) ?aF ?aO ?aB ?aS ?aL ?_; (case aP => exact k51_mkM _ _ _ (⟨r0, (s.line : Int), (s.col : Int), r3, r4, ⟨r5, r6, r7⟩, r8⟩ : S51)); (case aF => exact (fun k hk => rb_fresh HRB4.out hk)); (case aO => exact HR4.out); (case aB => exact HB4.out); (case aS => exact HB4.out.size); (case aL => exact len80 HA.out); intro v6 w6 ho6 hb6 hg6 hat6; have HR6 := Aside0.mk ho6; have HB6 := Aside0.mk hb6; have HRB6 := Aside0.mk (rb_grown HRB4.out hg6 (fun k hk => HR4.out.1 k hk)); have HON6 := Aside0.mk (hON.out m HLE.out w6 HRB6.out); clear ho6 hb6 hg6 hat6)
                    | (go_at_call 30; (with_reducible refine HON6.out.mono ?_); rintro e w7 ⟨rfl, hM7, hRB7⟩; have HM7 := Aside0.mk hM7; have HRB7 := Aside0.mk hRB7; clear hM7 hRB7))
                  go_roundg n
                  case measure => exact Nat.lt_succ_self n
                  case rel => exact ⟨_, _, ⟨HS.out.skip m HLE.out⟩, HF2, HRB7, ⟨Mut3.to_below HB6.out HGE.out.2.1 HGE.out.2.2.1 HGE.out.2.2.2 HB6.out.size HM7.out⟩, ⟨Kd.R_step HR6.out (fun k hk hl => HM7.out.keep k hl hk.2.1 hk.2.2.1 hk.2.2.2)⟩⟩
                · cases hF
              · have b2 : (r10 != 0) = true := by unfold bne; rw [beq_eq_false_iff_ne.2 her]; rfl
                rw [if_pos her] at hF
                injection hF with hF
                have HRE := Aside0.mk hF
                clear hF
                go_wp2_with fail
                go_quiet (fail)
                go_wp2_with fail
                refine bodyPost_ret (results_tmp4 rfl _ _ _) rfl ?_
                rw [← HRE.out]
                exact ⟨_, rfl, Kd.R_nil _ _ _ _ _, pw_below_drewN HBW3.out _⟩
      · rename_i hlt
        have hend : s.at_ = T.size := Nat.le_antisymm HS.out.at_ (Nat.le_of_not_lt hlt)
        injection hF with hF
        have HRE := Aside0.mk hF
        rw [hend] at hc1
        have kd1 : decide ((T.size : Int) < (T.size : Int)) = false := decide_eq_false (by omega)
        have kd2 : decide (T.size < T.size) = false := decide_eq_false (by omega)
        clear hF hlt hend
        go_wp2_with (first
          | ((with_reducible refine gate_builtin (b := .append) (xs := #[.tmp 146, .tmp 150]) rfl ?_); at_builtin; refine Kd.R_append k51 (w0 := w) (W := wr) w.heap.size rfl (.tmp 146) (.tmp 150) 46 51 (.agg #[.int .i64 0, .int .i64 0, .int .i64 0, .string ⟨#[]⟩, .bool false, .int .i64 0, .int .u64 0, .int .u64 0, .bool false]) 80 rfl Try.underlying46 infoTok rfl (by decide) (by decide) u6 acc (tok0 s) [.int .i64 0, .int .i64 s.line, .int .i64 s.col, .string ⟨#[]⟩, .bool false, .int .i64 0, .int .u64 0, .int .u64 0, .bool false] (fun k => k ≠ b1 ∧ k ≠ ba ∧ k ≠ bl ∧ k ≠ bc) (fun _ => False) rfl rfl ?aP (fun _ hk => hk.elim) ?aF ?aO ?aB ?aS ?aL ?_; (case aP => exact k51_mkM _ _ _ (tok0 s)); (case aF => exact (fun k hk => rb_fresh HRB.out hk)); (case aO => exact HR.out); (case aB => exact HBW.out); (case aS => exact HBW.out.size); (case aL => exact len80 HA.out); intro v6 w6 ho6 hb6 hg6 hat6; have HR6 := Aside0.mk ho6; have HB6 := Aside0.mk hb6; clear ho6 hb6 hg6 hat6))
        refine bodyPost_ret (results_tmp4 rfl _ _ _) rfl ?_
        rw [← HRE.out]
        exact ⟨_, rfl, Kd.R_mono HR6.out (fun _ _ => trivial), HB6.out⟩
set_option maxRecDepth 100000 in
theorem rtokens_large (T : ByteArray) (w : World) (h : (16000 : Int) < (T.size : Int)) : Calls Try.prog 21 #[.string T] w fun e w' => e = .returned (.tuple #[.slice none 0 0, .int .i64 0, .int .i64 0, .int .i64 3]) ∧ Below w.heap.size w w' := by
  have hT2 : decide ((16000 : Int) < (T.size : Int)) = true := decide_eq_true h
  have hT3 : decide (16000 < T.size) = true := decide_eq_true (by omega)
  go_enter Try.func21, Try.ntmps21
  go_wp2
  refine bodyPost_ret (results_tmp4 rfl _ _ _) rfl ?_
  exact ⟨rfl, below_alloc (Below.refl _ _) _⟩
theorem maskref1_Tokens.calls (k : Nat) (a0 : ByteArray) (r1 : List S51) (r2 : Int) (r3 : Int) (r4 : Int) (w : World) (h : maskref1_Tokens.f k a0 = some (r1, r2, r3, r4)) :
    Calls Try.prog 21 #[.string a0] w fun e w' => ∃ v0_ : Value, e = .returned (.tuple #[v0_, .int .i64 r2, .int .i64 r3, .int .i64 r4]) ∧ Kd.R k51 51 w' w.heap.size (fun _ => True) v0_ r1 ∧ Below w.heap.size w w' := by
  unfold maskref1_Tokens.f at h
  split at h
  · rename_i hl
    injection h with h
    injection h with e1 h
    injection h with e2 h
    injection h with e3 e4
    subst e1 e2 e3 e4
    exact (rtokens_large a0 w hl).mono fun e w' ⟨h1, h2⟩ => ⟨_, h1, Kd.R_nil _ _ _ _ _, h2⟩
  · rename_i hl
    exact rtokens_walk k a0 (r1, r2, r3, r4) w (by omega) h
end Go.Proofs.Ytlamgdibnnmbmaa.PLex
end
