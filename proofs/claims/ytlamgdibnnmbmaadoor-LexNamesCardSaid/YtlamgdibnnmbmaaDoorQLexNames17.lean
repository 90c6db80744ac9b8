/- Part 18 of the proof of LexNamesCardSaid: The law LexNames: for all arguments it returns true; each argument reads behind the call as it read before. Out of the plain theorem of YtlamgdibnnmbmaaDoorPureLexNames and the printed contract. -/
import Derived.Test.YtlamgdibnnmbmaaDoorQLexNames15
import Derived.Test.YtlamgdibnnmbmaaDoorQLexNames16
section
namespace Go.Proofs.YtlamgdibnnmbmaaDoor.PLex
open Go.RowKit Go.Proofs.YtlamgdibnnmbmaaDoorW.PrintWords Go.Proofs.YtlamgdibnnmbmaaDoorW.PrintLast Go.Proofs.YtlamgdibnnmbmaaDoorW.PrintMore
set_option linter.unusedVariables false
set_option linter.unusedSimpArgs false
def tail (T : ByteArray) (i : Nat) : ByteArray := T.extract i T.size
set_option maxHeartbeats 2000000 in
set_option maxRecDepth 100000 in
theorem has_walk (T p : ByteArray) (g : Nat) (s : Sc) (w : World) (hs : s.Ok T) (hb : Blk w g T s) :
    Calls Tryd.prog 103 #[.pointer (some ⟨g, 0, none⟩), .string p] w fun e w' => e = .returned (.bool (Lib.hasPrefix (tail T s.at_).data.toList p.data.toList)) ∧ ∃ k, w' = w.drewN k := by
  have mixed : Tryd.prog.follows .mixedOrders = true := by kernel_rfl
  obtain ⟨k1, k2, k3, k4⟩ := hs
  have hc0 : w.cell? ⟨g, 0, none⟩ = some (.string T) := (blk_cell hb 0).trans rfl
  have hc1 : w.cell? ⟨g, 1, none⟩ = some (.int .i64 s.at_) := (blk_cell hb 1).trans rfl
  have i1 : (s.at_ : Int) ≤ (T.size : Int) := by omega
  have i0 : (0 : Int) ≤ (s.at_ : Int) := by omega
  clear hb
  go_enter Tryd.func103, Tryd.ntmps103
  go_wp2_with fail
  go_quiet (first | (go_at_call 64; refine Calls.quiet_of_same (Tryd.strings_HasPrefix _ _ _)))
  go_wp2
  go_ret
  exact ⟨rfl, nq, rfl⟩
def runF (T : ByteArray) (p : UInt8 → Bool) : Nat → Nat → Nat
  | 0, i => i
  | n + 1, i => if h : i < T.size then if p T[i] then runF T p n (i + 1) else i else i
def runTo (T : ByteArray) (p : UInt8 → Bool) (i : Nat) : Nat := runF T p (T.size - i) i
theorem runTo_eq (T : ByteArray) (p : UInt8 → Bool) (i : Nat) : runTo T p i = if h : i < T.size then if p T[i] then runTo T p (i + 1) else i else i := by
  unfold runTo
  by_cases h : i < T.size
  · obtain ⟨k, hk⟩ : ∃ k, T.size - i = k + 1 := ⟨T.size - i - 1, by omega⟩
    rw [hk, runF, dif_pos h, dif_pos h, show T.size - (i + 1) = k by omega]
  · rw [show T.size - i = 0 by omega, dif_neg h]; rfl
theorem runTo_ge (T : ByteArray) (p : UInt8 → Bool) : ∀ n i, T.size - i ≤ n → i ≤ runTo T p i
  | 0, i, h => by rw [runTo_eq, dif_neg (by omega)]; exact Nat.le_refl _
  | n + 1, i, h => by
    rw [runTo_eq]; split
    · split
      · exact Nat.le_trans (Nat.le_succ i) (runTo_ge T p n (i + 1) (by omega))
      · exact Nat.le_refl _
    · exact Nat.le_refl _
theorem runTo_le (T : ByteArray) (p : UInt8 → Bool) : ∀ n i, T.size - i ≤ n → runTo T p i ≤ max i T.size
  | 0, i, h => by rw [runTo_eq, dif_neg (by omega)]; omega
  | n + 1, i, h => by
    rw [runTo_eq]; split
    · split
      · have := runTo_le T p n (i + 1) (by omega); omega
      · omega
    · omega
set_option maxHeartbeats 2000000 in
set_option maxRecDepth 100000 in
theorem run_walk (T : ByteArray) (p : UInt8 → Bool) (fv : Nat) (fn : Func) (hf : Tryd.prog.funcs[fv]? = some fn) (hname : (fn.name == "runtime.NumGoroutine") = false) (hbo : fn.body.isSome = true)
    (hcl : ∀ (c : UInt8) (W : World), Calls Tryd.prog fv #[.int .u8 (c.toNat : Int)] W fun e w' => e = .returned (.bool (p c)) ∧ w' = W)
    (g m : Nat) (s : Sc) (w : World) (hs : s.Ok T) (hm : s.at_ + m ≤ 2000000) (hb : Blk w g T s) :
    Calls Tryd.prog 104 #[.pointer (some ⟨g, 0, none⟩), .int .i64 m, .func (.func fv) #[] #[]] w fun e w' => e = .returned (.int .i64 ((runTo T p (s.at_ + m) - s.at_ : Nat) : Int)) ∧ ∃ k, w' = w.drewN k := by
  have mixed : Tryd.prog.follows .mixedOrders = true := by kernel_rfl
  have he := fun args w => enters_ hf hname hbo args w
  have hc0 : ∀ q, (w.drewN q).cell? ⟨g, 0, none⟩ = some (.string T) := fun q => (blk_cell hb 0).trans rfl
  have hc1 : ∀ q, (w.drewN q).cell? ⟨g, 1, none⟩ = some (.int .i64 s.at_) := fun q => (blk_cell hb 1).trans rfl
  obtain ⟨k1, k2, k3, k4⟩ := hs
  have MX := Aside0.mk mixed
  clear hb hname hbo mixed
  go_enter Tryd.func104, Tryd.ntmps104
  go_wp2
  go_loopg [7] (T.size - (s.at_ + m) + 1) (fun kq v7 w' => ∃ j q : Nat, v7 = .int .i64 j ∧ j ≤ 3000000 ∧ Aside0 (runTo T p (s.at_ + j) = runTo T p (s.at_ + m)) ∧ Aside0 (T.size - (s.at_ + j) + 1 ≤ kq) ∧ Aside0 (j ≤ 2000000 ∨ j + s.at_ ≤ T.size) ∧ w' = w.drewN q)
  case atStart => exact ⟨m, 0, rfl, by omega, ⟨rfl⟩, ⟨by omega⟩, ⟨.inl (by omega)⟩, rfl⟩
  case round =>
    obtain ⟨j, q, rfl, hj, HR, HQ, HJ, rfl⟩ := hrel
    have h0 := hc0 q
    have h1 := hc1 q
    have mixed := MX.out
    by_cases hlt : s.at_ + j < T.size
    · obtain ⟨k, hk⟩ : ∃ k : Nat, k = s.at_ + j := ⟨_, rfl⟩
      have HK := Aside0.mk hk
      have i1 : (k : Int) < (T.size : Int) := by omega
      have i0 : (0 : Int) ≤ (k : Int) := by omega
      have iw : IntKind.i64.wrap ((s.at_ : Int) + (j : Int)) = (k : Int) := by rw [wI (by omega) (by omega)]; omega
      have ib : decide ((k : Int) < (T.size : Int)) = true := decide_eq_true i1
      rw [← hk] at hlt
      have HLT := Aside0.mk hlt
      have hst : runTo T p k = if p (T[k]'hlt) then runTo T p (k + 1) else k := by
        rw [runTo_eq, dif_pos hlt]
      have HST := Aside0.mk hst
      clear hst hk
      cases hp : p (T[k]'hlt)
      · have hc := fun W => hp ▸ hcl (T[k]'hlt) W
        go_wp2_with fail
        go_quiet (first | (exact (hc _).mono fun e w' ⟨h1, h2⟩ => ⟨h1, _, h2⟩))
        go_wp2
        go_ret
        refine ⟨?_, q + nq, by rw [World.drewN_drewN]⟩
        show Ending.returned (Value.int IntKind.i64 (j : Int)) = Ending.returned (Value.int IntKind.i64 ((runTo T p (s.at_ + m) - s.at_ : Nat) : Int))
        have e : runTo T p (s.at_ + m) = k := by rw [← HR.out, ← HK.out, HST.out, hp]; rfl
        rw [e, HK.out, Nat.add_sub_cancel_left]
      · have hc := fun W => hp ▸ hcl (T[k]'hlt) W
        go_wp2_with fail
        go_quiet (first | (exact (hc _).mono fun e w' ⟨h1, h2⟩ => ⟨h1, _, h2⟩))
        go_wp2
        go_roundg (T.size - (s.at_ + (j + 1)) + 1)
        case measure => have := HQ.out; have := HK.out; have := HLT.out; omega
        case rel =>
          have h3 := HK.out
          have h4 := HLT.out
          refine ⟨j + 1, q + nq, by rw [show ((j : Int) + 1) = ((j + 1 : Nat) : Int) from rfl], by omega, ⟨?_⟩, ⟨Nat.le_refl _⟩, ⟨.inr (by omega)⟩, by first | rfl | rw [World.drewN_drewN]⟩
          rw [← HR.out, ← HK.out, HST.out, hp, HK.out]; rfl
    · have ib : decide ((s.at_ : Int) + (j : Int) < (T.size : Int)) = false := decide_eq_false (by omega)
      have iw : IntKind.i64.wrap ((s.at_ : Int) + (j : Int)) = (s.at_ : Int) + (j : Int) := wI (by omega) (by omega)
      have hst : runTo T p (s.at_ + j) = s.at_ + j := by rw [runTo_eq, dif_neg hlt]
      go_wp2_with fail
      go_quiet (fail)
      go_wp2
      go_ret
      refine ⟨?_, q + nq, by rw [World.drewN_drewN]⟩
      show Ending.returned (Value.int IntKind.i64 (j : Int)) = Ending.returned (Value.int IntKind.i64 ((runTo T p (s.at_ + m) - s.at_ : Nat) : Int))
      rw [← HR.out, hst, Nat.add_sub_cancel_left]
end Go.Proofs.YtlamgdibnnmbmaaDoor.PLex
end
