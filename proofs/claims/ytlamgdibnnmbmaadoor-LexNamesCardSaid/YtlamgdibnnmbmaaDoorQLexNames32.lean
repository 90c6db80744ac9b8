/- Part 33 of the proof of LexNamesCardSaid: The law LexNames: for all arguments it returns true; each argument reads behind the call as it read before. Out of the plain theorem of YtlamgdibnnmbmaaDoorPureLexNames and the printed contract. -/
import Derived.Test.YtlamgdibnnmbmaaDoorQLexNames30
import Derived.Test.YtlamgdibnnmbmaaDoorQLexNames31
section
namespace Go.Proofs.YtlamgdibnnmbmaaDoor.PLex
open Go.RowKit Go.Proofs.YtlamgdibnnmbmaaDoorW.PrintWords Go.Proofs.YtlamgdibnnmbmaaDoorW.PrintLast Go.Proofs.YtlamgdibnnmbmaaDoorW.PrintMore
set_option linter.unusedVariables false
set_option maxRecDepth 100000 in
theorem tokens_large (T : ByteArray) (w : World) (h : (16000 : Int) < (T.size : Int)) : Calls Tryd.prog 51 #[.string T] w fun e w' => e = .returned (.tuple #[.slice none 0 0, .int .i64 0, .int .i64 0, .int .i64 3]) ∧ w' = w := by
  have hT2 : decide ((16000 : Int) < (T.size : Int)) = true := decide_eq_true h
  have hT3 : decide (16000 < T.size) = true := decide_eq_true (by omega)
  go_enter Tryd.func51, Tryd.ntmps51
  go_wp2
  refine bodyPost_ret (results_tmp4 rfl _ _ _) rfl ?_
  exact ⟨rfl, rfl⟩
theorem lex_Tokens.calls (k : Nat) (a0 : ByteArray) (r1 : List S63) (r2 : Int) (r3 : Int) (r4 : Int) (w : World) (h : lex_Tokens.f k a0 = some (r1, r2, r3, r4)) (hG : Glob w) :
    Calls Tryd.prog 51 #[.string a0] w fun e w' => ∃ v0_ : Value, e = .returned (.tuple #[v0_, .int .i64 r2, .int .i64 r3, .int .i64 r4]) ∧ Kd.R k63 63 w' w.heap.size (fun _ => True) v0_ r1 ∧ Below w.heap.size w w' := by
  unfold lex_Tokens.f at h
  split at h
  · rename_i hl
    injection h with h
    injection h with e1 h
    injection h with e2 h
    injection h with e3 e4
    subst e1 e2 e3 e4
    exact (tokens_large a0 w hl).mono fun e w' ⟨h1, h2⟩ => ⟨_, h1, Kd.R_nil _ _ _ _ _, by rw [h2]; exact Below.refl _ _⟩
  · rename_i hl
    obtain ⟨m, hm⟩ := hG.len
    exact tokens_walk k a0 (r1, r2, r3, r4) w m (World.block_lt_of_cell? w _ hm) hm (by omega) h
end Go.Proofs.YtlamgdibnnmbmaaDoor.PLex
end
