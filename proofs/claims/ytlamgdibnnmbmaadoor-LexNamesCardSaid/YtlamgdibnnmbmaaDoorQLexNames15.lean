/- Part 16 of the proof of LexNamesCardSaid: The law LexNames: for all arguments it returns true; each argument reads behind the call as it read before. Out of the plain theorem of YtlamgdibnnmbmaaDoorPureLexNames and the printed contract. -/
import Derived.Test.YtlamgdibnnmbmaaDoorQLexNames14
import Derived.BigRegion
import Derived.BigQuiet
section
namespace Go.Proofs.YtlamgdibnnmbmaaDoor.PLex
open Go.RowKit Go.Proofs.YtlamgdibnnmbmaaDoorW.PrintWords Go.Proofs.YtlamgdibnnmbmaaDoorW.PrintLast Go.Proofs.YtlamgdibnnmbmaaDoorW.PrintMore
set_option linter.unusedVariables false
set_option linter.unusedSimpArgs false
set_option maxHeartbeats 2000000 in
set_option maxRecDepth 100000 in
theorem skip_walk (T : ByteArray) (g n : Nat) (s : Sc) (w : World) (hs : s.Ok T) (hn : s.at_ + n ≤ T.size) (hb : Blk w g T s) :
    Calls Tryd.prog 81 #[.pointer (some ⟨g, 0, none⟩), .int .i64 n] w fun e w' => e = .returned (.tuple #[]) ∧ Mut g w w' ∧ Blk w' g T (Sc.skip T n s) := by
  have mixed : Tryd.prog.follows .mixedOrders = true := by kernel_rfl
  have HB := Aside0.mk hb
  have HS := Aside0.mk hs
  have HN := Aside0.mk hn
  clear hb hs hn
  go_enter Tryd.func81, Tryd.ntmps81
  go_wp2
  go_loopg [5] n (fun kq v5 w' => ∃ i : Nat, v5 = .int .i64 i ∧ i ≤ n ∧ Aside0 (n - i ≤ kq) ∧ Aside0 (Mut g w w') ∧ Aside0 (Blk w' g T (Sc.skip T i s)))
  case atStart => exact ⟨0, rfl, Nat.zero_le _, ⟨by omega⟩, ⟨Mut.refl g w⟩, HB⟩
  case round =>
    obtain ⟨i, rfl, hile, HQ, HM, HB2⟩ := hrel
    by_cases hi : i < n
    · have hok := Sc.Ok.skip HS.out i (by have := HN.out; omega)
      have hat := Sc.skip_at T s i
      have HE := Aside0.mk hat
      have hlt : (Sc.skip T i s).at_ < T.size := by have := HN.out; omega
      have hst : Sc.skip T (i + 1) s = (Sc.skip T i s).step T := rfl
      have HST := Aside0.mk hst
      clear hst hat
      generalize hz : Sc.skip T i s = z at *
      have HZ := Aside0.mk hz
      have HOK := Aside0.mk hok
      obtain ⟨k1, k2, k3, k4⟩ := hok
      have hb2 := HB2.out
      have hc0 : wr.cell? ⟨g, 0, none⟩ = some (.string T) := (blk_cell hb2 0).trans rfl
      have hc1 : wr.cell? ⟨g, 1, none⟩ = some (.int .i64 z.at_) := (blk_cell hb2 1).trans rfl
      have hc2 : wr.cell? ⟨g, 2, none⟩ = some (.int .i64 z.line) := (blk_cell hb2 2).trans rfl
      have hc3 : wr.cell? ⟨g, 3, none⟩ = some (.int .i64 z.col) := (blk_cell hb2 3).trans rfl
      have hf1 := blk_frozen hb2 1
      have hf2 := blk_frozen hb2 2
      have hf3 := blk_frozen hb2 3
      have i1 : (z.at_ : Int) < (T.size : Int) := by omega
      have i0 : (0 : Int) ≤ (z.at_ : Int) := by omega
      clear hb2 hz
      cases h10 : (((T[z.at_]'hlt).toNat : Int) == 10)
      · go_wp2_with fail
        go_quiet (fail)
        go_wp2_with fail
        go_region
        all_goals go_wp2_with fail
        go_roundg (n - (i + 1))
        case measure => have := HQ.out; omega
        case rel =>
          refine ⟨i + 1, by rw [show ((i : Int) + 1) = ((i + 1 : Nat) : Int) from rfl, w64 (by have := HN.out; omega)], hi, ⟨Nat.le_refl _⟩, ⟨((HM.out.drewN _).put 1 _).put 3 _⟩, ⟨?_⟩⟩
          rw [HST.out, step_no hlt h10]
          exact blk_put (blk_put (w := wr.drewN _) HB2.out 1 _ rfl) 3 _ rfl
      · go_wp2_with fail
        go_quiet (fail)
        go_wp2_with fail
        go_region
        all_goals go_wp2_with fail
        go_roundg (n - (i + 1))
        case measure => have := HQ.out; omega
        case rel =>
          refine ⟨i + 1, by rw [show ((i : Int) + 1) = ((i + 1 : Nat) : Int) from rfl, w64 (by have := HN.out; omega)], hi, ⟨Nat.le_refl _⟩, ⟨((((((HM.out.drewN _).put 2 _).put 3 _).put 1 _).put 3 _).drew)⟩, ⟨?_⟩⟩
          rw [HST.out, step_yes hlt h10]
          exact blk_put (blk_put (blk_put (blk_put (w := wr.drewN _) HB2.out 2 _ rfl) 3 _ rfl) 1 _ rfl) 3 _ rfl
    · obtain rfl : i = n := by omega
      go_wp2
      go_end0
      exact ⟨rfl, HM.out, HB2.out⟩
end Go.Proofs.YtlamgdibnnmbmaaDoor.PLex
end
