/- Part 20 of the proof of NotePlacesCardSaid: The law NotePlaces: for all arguments it returns true; each argument reads behind the call as it read before. Out of the plain theorem of YtlamgdibnnmbmaaDoorPureNotePlaces and the printed contract. -/
import Derived.Test.YtlamgdibnnmbmaaDoorQNotePlaces8
import Derived.Test.YtlamgdibnnmbmaaDoorQNotePlaces18
import Derived.KernelRfl
section
namespace Go.Proofs.YtlamgdibnnmbmaaDoor.PNote
open Go.RowKit Go.Proofs.YtlamgdibnnmbmaaDoorW.PrintWords Go.Proofs.YtlamgdibnnmbmaaDoorW.PrintLast Go.Proofs.YtlamgdibnnmbmaaDoorW.PrintMore
set_option linter.unusedVariables false
set_option linter.unusedSimpArgs false
theorem lastIdx_ge (s : ByteArray) (c : Int) : ∀ k : Nat, -1 ≤ Lib.lastIdx s c k ∧ Lib.lastIdx s c k < k
  | 0 => by unfold Lib.lastIdx; omega
  | k + 1 => by
    have := lastIdx_ge s c k
    unfold Lib.lastIdx
    split <;> omega
theorem lastIdx_prefix (s : ByteArray) (c : Int) (n : Nat) (hn : n ≤ s.size) : ∀ k : Nat, k ≤ n → Lib.lastIdx (s.extract 0 n) c k = Lib.lastIdx s c k
  | 0, _ => rfl
  | k + 1, h => by
    have ih := lastIdx_prefix s c n hn k (by omega)
    have e : (s.extract 0 n).data[k]! = s.data[k]! := by
      have hs : k < s.data.size := by show k < s.size; omega
      rw [ByteArray.data_extract, getElem!_pos (s.data.extract 0 n) k (by rw [Array.size_extract]; show k < min n s.size - 0; omega), getElem!_pos s.data k hs]
      simp
    simp only [Lib.lastIdx, e, ih]
def cnt (s : ByteArray) (i : Nat) : Nat := (s.data.toList.take i).count 10
theorem cnt_le (s : ByteArray) (i : Nat) : cnt s i ≤ i := by
  have h1 := List.count_le_length (a := (10 : UInt8)) (l := s.data.toList.take i)
  rw [List.length_take] at h1
  unfold cnt; omega
theorem letter (s : ByteArray) (i : Nat) (h : i < s.size) : bt s (i : Int) = ((s.data[i]!).toNat : Int) := by
  have hs : i < s.data.size := h
  rw [bt_nat s i h, getElem!_pos s.data i hs]; rfl
theorem cnt_succ (s : ByteArray) (i : Nat) (h : i < s.size) : cnt s (i + 1) = if bt s (i : Int) = 10 then cnt s i + 1 else cnt s i := by
  have hl : i < s.data.toList.length := by rw [← size_list]; exact h
  unfold cnt
  rw [List.take_succ_eq_append_getElem hl, List.count_append, List.count_singleton, bt_nat s i h]
  have e : (s.data.toList[i] == 10) = decide ((s.data.toList[i].toNat : Int) = 10) := by
    rw [Bool.eq_iff_iff, beq_iff_eq, decide_eq_true_iff]
    constructor
    · intro h; rw [h]; rfl
    · intro h
      have h2 : s.data.toList[i].toNat = (10 : UInt8).toNat := by
        have : (10 : UInt8).toNat = 10 := rfl
        omega
      exact UInt8.toNat_inj.1 h2
  rw [e]
  by_cases h1 : (s.data.toList[i].toNat : Int) = 10
  · rw [if_pos h1, decide_eq_true h1, if_pos rfl]
  · rw [if_neg h1, decide_eq_false h1, if_neg (by decide)]; rfl
theorem lastIdx_succ (s : ByteArray) (i : Nat) (h : i < s.size) : Lib.lastIdx s 10 (i + 1) = if bt s (i : Int) = 10 then (i : Int) else Lib.lastIdx s 10 i := by
  rw [letter s i h]; rfl
theorem place_l0 (s : ByteArray) (hs : s.size ≤ 5000) (n : Nat) (hn : n ≤ s.size) : ∀ (d i : Nat), i + d = n → Ev (fun k => maskref1_PlaceOf.l0 k s (1 + cnt s i) (i - Lib.lastIdx s 10 i) (n : Int) (i : Int)) ((1 + cnt s n : Int), (n : Int) - Lib.lastIdx s 10 n) := by
  intro d
  induction d with
  | zero =>
    intro i h
    obtain rfl : i = n := by omega
    refine Ev.step (fun k => by rw [maskref1_PlaceOf.l0]) ?_
    exact Ev.neg (by omega) (Ev.now _)
  | succ d ih =>
    intro i h
    have hi : i < s.size := by omega
    have hc := cnt_le s i
    have hl := lastIdx_ge s 10 i
    have e1 : wrap64 ((i : Int) + 1) = ((i + 1 : Nat) : Int) := by rw [w64 (by omega)]; omega
    have ih := ih (i + 1) (by omega)
    rw [cnt_succ s i hi, lastIdx_succ s i hi] at ih
    refine Ev.step (fun k => by rw [maskref1_PlaceOf.l0]) ?_
    refine Ev.pos (by omega) (Ev.pos (by omega) (Ev.pos (by omega) ?_))
    by_cases hb : bt s (i : Int) = 10
    · refine Ev.pos hb ?_
      rw [if_pos hb, if_pos hb] at ih
      have e2 : wrap64 (1 + (cnt s i : Int) + 1) = 1 + ((cnt s i + 1 : Nat) : Int) := by rw [w64 (by omega)]; omega
      have e3 : (1 : Int) = ((i + 1 : Nat) : Int) - (i : Int) := by omega
      rw [e1, e2]
      rw [← e3] at ih
      exact ih
    · refine Ev.neg hb ?_
      rw [if_neg hb, if_neg hb] at ih
      have e2 : wrap64 ((i : Int) - Lib.lastIdx s 10 i + 1) = ((i + 1 : Nat) : Int) - Lib.lastIdx s 10 i := by rw [w64 (by omega)]; omega
      rw [e1, e2]
      exact ih
theorem both (s : ByteArray) (hs : s.size ≤ 5000) (a : Int) : ∃ r, Ev (fun k => note_Place.f k s a) r ∧ Ev (fun k => maskref1_PlaceOf.f k s a) r := by
  unfold note_Place.f maskref1_PlaceOf.f
  have out : Ev (fun k => note_Place.j0 k s a true) (0, 0) ∧ Ev (fun k => maskref1_PlaceOf.j0 k s a true) (0, 0) :=
    ⟨Ev.step (fun k => by rw [note_Place.j0]) (Ev.pos rfl (Ev.now _)), Ev.step (fun k => by rw [maskref1_PlaceOf.j0]) (Ev.pos rfl (Ev.now _))⟩
  by_cases h0 : a < 0
  · exact ⟨(0, 0), Ev.pos h0 out.1, Ev.pos h0 out.2⟩
  by_cases h1 : a > (s.size : Int)
  · rw [decide_eq_true h1]
    exact ⟨(0, 0), Ev.neg h0 out.1, Ev.neg h0 out.2⟩
  obtain ⟨n, rfl⟩ := Int.eq_ofNat_of_zero_le (Int.not_lt.1 h0)
  have hn : n ≤ s.size := by omega
  have hc := cnt_le s n
  have hl := lastIdx_ge s 10 n
  rw [decide_eq_false h1]
  refine ⟨((1 + cnt s n : Int), (n : Int) - Lib.lastIdx s 10 n), Ev.neg h0 ?_, Ev.neg h0 ?_⟩
  · refine Ev.step (fun k => by rw [note_Place.j0]) (Ev.neg (by decide) (Ev.pos (by omega) (Ev.pos (by omega) ?_)))
    have hz : (s.extract 0 n).size = n := by rw [ByteArray.size_extract]; omega
    have b10 : bt (⟨#[10]⟩ : ByteArray) 0 = 10 := rfl
    have e1 : strings_Count.f (s.extract 0 ((n : Int)).toNat) (⟨#[10]⟩ : ByteArray) = some (cnt s n : Int) := by
      unfold strings_Count.f
      rw [if_pos (show (⟨#[10]⟩ : ByteArray).size = 1 from rfl), b10, Int.toNat_natCast]
      unfold Lib.countByte cnt
      rw [ByteArray.data_extract, Array.toList_extract]
      simp
    have e2 : strings_LastIndex.f (s.extract 0 ((n : Int)).toNat) (⟨#[10]⟩ : ByteArray) = some (Lib.lastIdx s 10 n) := by
      unfold strings_LastIndex.f
      rw [Int.toNat_natCast, if_pos ⟨rfl, by omega⟩, b10]
      unfold Lib.lastIndexByte
      rw [hz, lastIdx_prefix s 10 n hn n (Nat.le_refl _)]
    refine Ev.bnd e1 (Ev.bnd e2 ((Ev.now _).eq ?_))
    rw [w64 (by omega), w64 (by omega), Int.add_comm]
  · refine Ev.step (fun k => by rw [maskref1_PlaceOf.j0]) (Ev.neg (by decide) ?_)
    have := place_l0 s hs n hn n 0 (by omega)
    have e0 : Lib.lastIdx s 10 0 = -1 := rfl
    rw [show cnt s 0 = 0 from by unfold cnt; rw [List.take_zero]; rfl, e0] at this
    exact this
theorem told_at : masklaw1_told.f 60 = some true := by kernel_rfl
theorem told_ev : Ev (fun k => masklaw1_told.f k) true := Ev.of masklaw1_told.mono told_at
theorem NotePlaces_pure (a0 : ByteArray) (a1 : Int) (h0 : a0.size ≤ 140737488351232) (h1 : (Lit.int .i64 a1).wf = true) : ∃ k, masklaw1_NotePlaces.f k a0 a1 = some true := by
  refine Ev.rounds (g := fun k => masklaw1_NotePlaces.f k a0 a1) ?_
  unfold masklaw1_NotePlaces.f
  have hm : mn (a0.size : Int) 5000 = ((min a0.size 5000 : Nat) : Int) := by unfold mn; split <;> omega
  rw [hm, Int.toNat_natCast]
  obtain ⟨r, p1, p2⟩ := both (a0.extract 0 (min a0.size 5000)) (by rw [ByteArray.size_extract]; omega) a1
  refine Ev.pos (by omega) (Ev.pos (by omega) (Ev.bind p1 (Ev.bind p2 (Ev.bind told_ev (Ev.pos rfl (Ev.pos rfl ((Ev.now _).eq ?_)))))))
  exact beq_self_eq_true _
end Go.Proofs.YtlamgdibnnmbmaaDoor.PNote
end
