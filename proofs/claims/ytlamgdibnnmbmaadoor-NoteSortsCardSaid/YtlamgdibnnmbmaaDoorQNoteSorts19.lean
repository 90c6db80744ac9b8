/- Part 20 of the proof of NoteSortsCardSaid: The law NoteSorts: for all arguments it returns true; each argument reads behind the call as it read before. Out of the plain theorem of YtlamgdibnnmbmaaDoorPureNoteSorts and the printed contract. -/
import Derived.Test.YtlamgdibnnmbmaaDoorQNoteSorts8
import Derived.Test.YtlamgdibnnmbmaaDoorQNoteSorts9
import Derived.Test.YtlamgdibnnmbmaaDoorQNoteSorts10
import Derived.Test.YtlamgdibnnmbmaaDoorQNoteSorts18
section
namespace Go.Proofs.YtlamgdibnnmbmaaDoor.PSort
open Go.RowKit Go.Proofs.YtlamgdibnnmbmaaDoorW.PrintWords Go.Proofs.YtlamgdibnnmbmaaDoorW.PrintLast Go.Proofs.YtlamgdibnnmbmaaDoorW.PrintMore
set_option linter.unusedVariables false
set_option linter.unusedSectionVars false
theorem less_eq (x y : List UInt8) (h : Op.bytesLess x y = false) (h' : Op.bytesLess y x = false) : x = y := by
  have := less_total x y
  rw [h, h', Bool.false_or] at this
  simpa using this
theorem less_asym (x y : List UInt8) (h : Op.bytesLess x y = true) : Op.bytesLess y x = false := by
  have := less_total x y
  rw [h, Bool.true_or] at this
  exact this.symm
def cs (a b : ByteArray) : Int := if Op.bytesLess a.toList b.toList = true then -1 else if Op.bytesLess b.toList a.toList = true then 1 else 0
def ci (a b : Int) : Int := if a < b then -1 else if a > b then 1 else 0
theorem cs_is (a b : ByteArray) : cmp_Compare_string.f a b = some (cs a b) := by
  unfold cmp_Compare_string.f cmp_isNaN_string.f cs
  simp only [bne_self_eq_false, Option.bind_some, Bool.false_eq_true, if_false]
  split
  · rfl
  · split <;> rfl
theorem ci_is (a b : Int) : cmp_Compare_int.f a b = some (ci a b) := by
  unfold cmp_Compare_int.f cmp_isNaN_int.f ci
  simp only [bne_self_eq_false, Option.bind_some, Bool.false_eq_true, if_false]
  split
  · rfl
  · split <;> rfl
theorem cs_zero (a b : ByteArray) : cs a b = 0 ↔ a.toList = b.toList := by
  unfold cs
  constructor
  · intro h
    split at h
    · cases h
    · split at h
      · cases h
      · rename_i h1 h2
        exact less_eq _ _ (by simpa using h1) (by simpa using h2)
  · intro h
    rw [h, less_irrefl]; simp
theorem ci_zero (a b : Int) : ci a b = 0 ↔ a = b := by
  unfold ci
  by_cases h1 : a < b
  · rw [if_pos h1]; omega
  · rw [if_neg h1]
    by_cases h2 : a > b
    · rw [if_pos h2]; omega
    · rw [if_neg h2]; omega
theorem ci_less (a b : Int) : ci a b = -1 ↔ a < b := by
  unfold ci
  by_cases h1 : a < b
  · rw [if_pos h1]; omega
  · rw [if_neg h1]
    by_cases h2 : a > b
    · rw [if_pos h2]; omega
    · rw [if_neg h2]; omega
theorem cs_less (a b : ByteArray) : cs a b = -1 ↔ Op.bytesLess a.toList b.toList = true := by
  unfold cs
  by_cases h1 : Op.bytesLess a.toList b.toList = true
  · rw [if_pos h1]; exact ⟨fun _ => h1, fun _ => rfl⟩
  · rw [if_neg h1]
    refine ⟨fun h => ?_, fun h => absurd h h1⟩
    split at h <;> cases h
theorem ci_swap (a b : Int) : ci b a = -(ci a b) := by
  unfold ci
  by_cases h1 : a < b
  · rw [if_pos h1, if_neg (by omega), if_pos h1]; rfl
  · by_cases h2 : a > b
    · rw [if_pos (show b < a from h2), if_neg h1, if_pos h2]
    · rw [if_neg h1, if_neg h2, if_neg (show ¬ b < a from h2), if_neg (show ¬ b > a from h1)]; rfl
theorem cs_swap (a b : ByteArray) : cs b a = -(cs a b) := by
  unfold cs
  by_cases h1 : Op.bytesLess a.toList b.toList = true
  · rw [if_pos h1, if_pos h1, less_asym _ _ h1]; rfl
  · by_cases h2 : Op.bytesLess b.toList a.toList = true
    · simp [h1, h2]
    · simp [h1, h2]
def or5 : List Int → Int
  | [] => 0
  | x :: r => if x = 0 then or5 r else x
theorem or_l0 (L : List Int) (hL : L.length ≤ 100) : ∀ d i, i + d = L.length → Ev (fun k => cmp_Or_int.l0 k 0 L (L.length : Int) (i : Int)) (or5 (L.drop i)) := by
  intro d
  induction d with
  | zero =>
    intro i hi
    refine Ev.step (fun k => by rw [cmp_Or_int.l0]) (Ev.neg (by omega) ((Ev.now _).eq ?_))
    rw [List.drop_eq_nil_of_le (by omega)]; rfl
  | succ d ih =>
    intro i hi
    have hrd : rd L (i : Int) = L[i]'(by omega) := by
      unfold rd
      rw [Int.toNat_natCast, List.getD_eq_getElem?_getD, List.getElem?_eq_getElem (by omega)]; rfl
    rw [List.drop_eq_getElem_cons (by omega)]
    refine Ev.step (fun k => by rw [cmp_Or_int.l0]) (Ev.pos (by omega) (Ev.pos (by omega) (Ev.pos (by omega) ?_)))
    rw [hrd, w64 (n := (i : Int) + 1) (by omega)]
    show Ev _ (if L[i] = 0 then or5 (L.drop (i + 1)) else L[i])
    by_cases h : L[i]'(by omega) = 0
    · exact Ev.pos h ((ih (i + 1) (by omega)).eq (by rw [if_pos h]))
    · exact Ev.neg h ((Ev.now _).eq (by rw [if_neg h]))
def cmpN (a b : S24) : Int := or5 [cs a.f0 b.f0, ci a.f1 b.f1, ci a.f2 b.f2, ci a.f3 b.f3, cs a.f4 b.f4]
theorem Cmp_ev (a b : S24) : Ev (fun k => note_Cmp.f k a.f0 a.f1 a.f2 a.f3 a.f4 b.f0 b.f1 b.f2 b.f3 b.f4) (cmpN a b) := by
  have he : api_Errno_47.f a.f3 b.f3 = some (ci a.f3 b.f3) := by
    unfold api_Errno_47.f api_Errno_76.f ci
    simp only [bne_self_eq_false, Option.bind_some, Bool.false_eq_true, if_false]
    split
    · rfl
    · split <;> rfl
  unfold note_Cmp.f
  refine Ev.bnd (cs_is _ _) (Ev.bnd (ci_is _ _) (Ev.bnd (ci_is _ _) (Ev.bnd he (Ev.bnd (cs_is _ _) ?_))))
  refine Ev.bind (r := cmpN a b) ?_ (Ev.now _)
  unfold cmp_Or_int.f
  exact or_l0 _ (by simp) 5 0 rfl
def bef (a b : S24) : Bool := decide (cmpN a b = -1)
theorem Before_is (a b : S24) : maskref1_NoteBefore.f a.f0 a.f1 a.f2 a.f3 a.f4 b.f0 b.f1 b.f2 b.f3 b.f4 = some (bef a b) := by
  unfold maskref1_NoteBefore.f bef cmpN or5 or5 or5 or5 or5 or5
  by_cases h0 : a.f0.toList = b.f0.toList
  · rw [if_pos h0, if_pos ((cs_zero _ _).2 h0)]
    by_cases h1 : a.f1 = b.f1
    · rw [if_pos h1, if_pos ((ci_zero _ _).2 h1)]
      by_cases h2 : a.f2 = b.f2
      · rw [if_pos h2, if_pos ((ci_zero _ _).2 h2)]
        by_cases h3 : a.f3 = b.f3
        · rw [if_pos h3, if_pos ((ci_zero _ _).2 h3)]
          congr 1
          rw [Bool.eq_iff_iff, decide_eq_true_iff]
          by_cases h4 : cs a.f4 b.f4 = 0
          · rw [if_pos h4]
            have := (cs_zero _ _).1 h4
            rw [this, less_irrefl]; simp
          · rw [if_neg h4]; exact (cs_less _ _).symm
        · rw [if_neg h3, if_neg (fun h => h3 ((ci_zero _ _).1 h))]
          congr 1
          rw [Bool.eq_iff_iff, decide_eq_true_iff, decide_eq_true_iff]; exact (ci_less _ _).symm
      · rw [if_neg h2, if_neg (fun h => h2 ((ci_zero _ _).1 h))]
        congr 1
        rw [Bool.eq_iff_iff, decide_eq_true_iff, decide_eq_true_iff]; exact (ci_less _ _).symm
    · rw [if_neg h1, if_neg (fun h => h1 ((ci_zero _ _).1 h))]
      congr 1
      rw [Bool.eq_iff_iff, decide_eq_true_iff, decide_eq_true_iff]; exact (ci_less _ _).symm
  · rw [if_neg h0, if_neg (fun h => h0 ((cs_zero _ _).1 h))]
    congr 1
    rw [Bool.eq_iff_iff, decide_eq_true_iff]; exact (cs_less _ _).symm
theorem or5_neg : ∀ L : List Int, or5 (L.map fun x => -x) = -(or5 L)
  | [] => rfl
  | x :: L => by
    show (if -x = 0 then or5 (L.map fun x => -x) else -x) = -(if x = 0 then or5 L else x)
    by_cases h : x = 0
    · rw [if_pos h, if_pos (by omega), or5_neg L]
    · rw [if_neg h, if_neg (by omega)]
theorem cmp_swap (a b : S24) : cmpN b a = -(cmpN a b) := by
  unfold cmpN
  rw [← or5_neg, cs_swap a.f0, ci_swap a.f1, ci_swap a.f2, ci_swap a.f3, cs_swap a.f4]; rfl
end Go.Proofs.YtlamgdibnnmbmaaDoor.PSort
end
