/- Part 32 of the proof of LexTokensSaid: The law LexTokens: for all arguments it returns true; each argument reads behind the call as it read before. Out of the plain theorem of YtlamgdibnnmbmaaLtA and the printed contract. -/
import Derived.Test.YtlamgdibnnmbmaaQLexTokens30
section
namespace Go.Proofs.Ytlamgdibnnmbmaa.PLex
open Go.RowKit Go.Proofs.YtlamgdibnnmbmaaW.PrintWords Go.Proofs.YtlamgdibnnmbmaaW.PrintLast Go.Proofs.YtlamgdibnnmbmaaW.PrintMore
set_option linter.unusedVariables false
set_option linter.unusedSimpArgs false
structure RB (b1 ba bl bc : Nat) (T : ByteArray) (s : Sc) (w : World) : Prop where
  t : w.heap[b1]? = some (.cells #[.string T] 9 (0, 0))
  a : w.heap[ba]? = some (.cells #[.int .i64 s.at_] 3 (0, 0))
  l : w.heap[bl]? = some (.cells #[.int .i64 s.line] 3 (0, 0))
  c : w.heap[bc]? = some (.cells #[.int .i64 s.col] 3 (0, 0))
structure Mut3 (ba bl bc : Nat) (w w' : World) : Prop where
  os : w'.os = w.os
  tape : w'.tape = w.tape
  output : w'.output = w.output
  size : w.heap.size ≤ w'.heap.size
  keep : ∀ k, k < w.heap.size → k ≠ ba → k ≠ bl → k ≠ bc → w'.heap[k]? = w.heap[k]?
theorem Mut3.refl (ba bl bc : Nat) (w : World) : Mut3 ba bl bc w w := ⟨rfl, rfl, rfl, Nat.le_refl _, fun _ _ _ _ _ => rfl⟩
theorem Mut3.put {ba bl bc : Nat} {a b : World} (h : Mut3 ba bl bc a b) (g : Nat) (hg : g = ba ∨ g = bl ∨ g = bc) (i : Nat) (v : Value) : Mut3 ba bl bc a (b.setCell ⟨g, i, none⟩ v) :=
  ⟨h.os, h.tape, h.output, by simpa [World.setCell] using h.size, fun k hk h1 h2 h3 => (Below.heap_setCell _ _ _ _ (by show k ≠ g; omega)).trans (h.keep k hk h1 h2 h3)⟩
theorem Mut3.to_below {ba bl bc B : Nat} {a b c : World} (hb : Below B a b) (ha : B ≤ ba) (hl : B ≤ bl) (hc : B ≤ bc) (hB : B ≤ b.heap.size) (h : Mut3 ba bl bc b c) : Below B a c :=
  ⟨h.os.trans hb.os, h.tape.trans hb.tape, h.output.trans hb.output, Nat.le_trans hb.size h.size, fun k hk => (h.keep k (Nat.lt_of_lt_of_le hk hB) (by omega) (by omega) (by omega)).trans (hb.block k hk)⟩
structure Far (b1 ba bl bc : Nat) : Prop where
  ta : b1 ≠ ba
  tl : b1 ≠ bl
  tc : b1 ≠ bc
  al : ba ≠ bl
  ac : ba ≠ bc
  lc : bl ≠ bc
theorem RB.putA {b1 ba bl bc : Nat} {T : ByteArray} {s : Sc} {w : World} (h : RB b1 ba bl bc T s w) (hf : Far b1 ba bl bc) (x : Nat) : RB b1 ba bl bc T { s with at_ := x } (w.setCell ⟨ba, 0, none⟩ (.int .i64 x)) :=
  ⟨(Below.heap_setCell _ _ _ _ hf.ta).trans h.t, blk_put h.a 0 _ rfl, (Below.heap_setCell _ _ _ _ hf.al.symm).trans h.l, (Below.heap_setCell _ _ _ _ hf.ac.symm).trans h.c⟩
theorem RB.putL {b1 ba bl bc : Nat} {T : ByteArray} {s : Sc} {w : World} (h : RB b1 ba bl bc T s w) (hf : Far b1 ba bl bc) (x : Nat) : RB b1 ba bl bc T { s with line := x } (w.setCell ⟨bl, 0, none⟩ (.int .i64 x)) :=
  ⟨(Below.heap_setCell _ _ _ _ hf.tl).trans h.t, (Below.heap_setCell _ _ _ _ hf.al).trans h.a, blk_put h.l 0 _ rfl, (Below.heap_setCell _ _ _ _ hf.lc.symm).trans h.c⟩
theorem RB.putC {b1 ba bl bc : Nat} {T : ByteArray} {s : Sc} {w : World} (h : RB b1 ba bl bc T s w) (hf : Far b1 ba bl bc) (x : Nat) : RB b1 ba bl bc T { s with col := x } (w.setCell ⟨bc, 0, none⟩ (.int .i64 x)) :=
  ⟨(Below.heap_setCell _ _ _ _ hf.tc).trans h.t, (Below.heap_setCell _ _ _ _ hf.ac).trans h.a, (Below.heap_setCell _ _ _ _ hf.lc).trans h.l, blk_put h.c 0 _ rfl⟩
theorem RB.below {b1 ba bl bc : Nat} {T : ByteArray} {s : Sc} {w w' : World} (h : RB b1 ba bl bc T s w) (hb : Below w.heap.size w w') : RB b1 ba bl bc T s w' :=
  ⟨(hb.block _ (blk_lt h.t)).trans h.t, (hb.block _ (blk_lt h.a)).trans h.a, (hb.block _ (blk_lt h.l)).trans h.l, (hb.block _ (blk_lt h.c)).trans h.c⟩
set_option maxHeartbeats 2000000 in
set_option maxRecDepth 100000 in
theorem on_walk (T : ByteArray) (b1 ba bl bc n : Nat) (s : Sc) (w : World) (hf : Far b1 ba bl bc) (hs : s.Ok T) (hn : s.at_ + n ≤ T.size) (hb : RB b1 ba bl bc T s w) :
    Calls Try.prog 30 #[.int .i64 n, .pointer (some ⟨bc, 0, none⟩), .pointer (some ⟨b1, 0, none⟩), .pointer (some ⟨ba, 0, none⟩), .pointer (some ⟨bl, 0, none⟩)] w fun e w' => e = .returned (.tuple #[]) ∧ Mut3 ba bl bc w w' ∧ RB b1 ba bl bc T (Sc.skip T n s) w' := by
  have mixed : Try.prog.follows .mixedOrders = true := by kernel_rfl
  have HB := Aside0.mk hb
  have HS := Aside0.mk hs
  have HN := Aside0.mk hn
  have HFR := Aside0.mk hf
  obtain ⟨f1, f2, f3, f4, f5, f6⟩ := hf
  have f1' := f1.symm
  have f2' := f2.symm
  have f3' := f3.symm
  have f4' := f4.symm
  have f5' := f5.symm
  have f6' := f6.symm
  clear hb hs hn
  go_enter Try.func30, Try.ntmps30
  go_wp2
  go_loopg [7] n (fun kq v7 w' => ∃ i : Nat, v7 = .int .i64 i ∧ Aside0 (i ≤ n) ∧ Aside0 (n - i ≤ kq) ∧ Aside0 (Mut3 ba bl bc w w') ∧ Aside0 (RB b1 ba bl bc T (Sc.skip T i s) w'))
  case atStart => exact ⟨0, rfl, ⟨Nat.zero_le _⟩, ⟨by omega⟩, ⟨Mut3.refl _ _ _ w⟩, HB⟩
  case round =>
    obtain ⟨i, rfl, HI, HQ, HM, HB2⟩ := hrel
    by_cases hi : i < n
    · have hok := Sc.Ok.skip HS.out i (by have := HN.out; omega)
      have hat := Sc.skip_at T s i
      have HE := Aside0.mk hat
      have hlt : (Sc.skip T i s).at_ < T.size := by have := HN.out; omega
      have hst : Sc.skip T (i + 1) s = (Sc.skip T i s).step T := rfl
      have HST := Aside0.mk hst
      clear hst hat
      generalize hz : Sc.skip T i s = z at *
      have HOK := Aside0.mk hok
      obtain ⟨k1, k2, k3, k4⟩ := hok
      have hc0 : wr.cell? ⟨b1, 0, none⟩ = some (.string T) := (blk_cell HB2.out.t 0).trans rfl
      have hc1 : wr.cell? ⟨ba, 0, none⟩ = some (.int .i64 z.at_) := (blk_cell HB2.out.a 0).trans rfl
      have hc2 : wr.cell? ⟨bl, 0, none⟩ = some (.int .i64 z.line) := (blk_cell HB2.out.l 0).trans rfl
      have hc3 : wr.cell? ⟨bc, 0, none⟩ = some (.int .i64 z.col) := (blk_cell HB2.out.c 0).trans rfl
      have hf1 := blk_frozen HB2.out.a 0
      have hf2 := blk_frozen HB2.out.l 0
      have hf3 := blk_frozen HB2.out.c 0
      have i1 : (z.at_ : Int) < (T.size : Int) := by omega
      have i0 : (0 : Int) ≤ (z.at_ : Int) := by omega
      have w1 : wrap64 ((z.at_ : Int) + 1) = (z.at_ : Int) + 1 := w64' (by omega) (by omega)
      have w2 : wrap64 ((z.line : Int) + 1) = (z.line : Int) + 1 := w64' (by omega) (by omega)
      have w3 : wrap64 ((z.col : Int) + 1) = (z.col : Int) + 1 := w64' (by omega) (by omega)
      have w4 : wrap64 ((i : Int) + 1) = ((i + 1 : Nat) : Int) := wrap_succ hi (by have := HN.out; omega)
      have W4 := Aside0.mk w4
      clear hz w4 k1 k2 k3 k4
      cases h10 : (((T[z.at_]'hlt).toNat : Int) == 10)
      · go_wp2_with fail
        go_roundg (n - (i + 1))
        case measure => have := HQ.out; omega
        case rel =>
          refine ⟨i + 1, by first | rfl | exact congrArg _ W4.out, ⟨hi⟩, ⟨Nat.le_refl _⟩, ⟨(HM.out.put bc (.inr (.inr rfl)) 0 _).put ba (.inl rfl) 0 _⟩, ⟨?_⟩⟩
          rw [HST.out, step_no hlt h10]
          exact (HB2.out.putC HFR.out (z.col + 1)).putA HFR.out (z.at_ + 1)
      · go_wp2_with fail
        go_roundg (n - (i + 1))
        case measure => have := HQ.out; omega
        case rel =>
          refine ⟨i + 1, by first | rfl | exact congrArg _ W4.out, ⟨hi⟩, ⟨Nat.le_refl _⟩, ⟨(((HM.out.put bc (.inr (.inr rfl)) 0 _).put bl (.inr (.inl rfl)) 0 _).put bc (.inr (.inr rfl)) 0 _).put ba (.inl rfl) 0 _⟩, ⟨?_⟩⟩
          rw [HST.out, step_yes hlt h10]
          exact (((HB2.out.putC HFR.out (z.col + 1)).putL HFR.out (z.line + 1)).putC HFR.out 1).putA HFR.out (z.at_ + 1)
    · obtain rfl : i = n := by have := HI.out; omega
      go_wp2
      go_end0
      exact ⟨rfl, HM.out, HB2.out⟩
end Go.Proofs.Ytlamgdibnnmbmaa.PLex
end
