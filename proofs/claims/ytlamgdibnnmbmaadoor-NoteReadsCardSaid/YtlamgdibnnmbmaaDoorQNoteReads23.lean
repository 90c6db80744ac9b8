/- Part 24 of the proof of NoteReadsCardSaid: The law NoteReads: for all arguments it returns true; each argument reads behind the call as it read before. Out of the plain theorem of YtlamgdibnnmbmaaDoorPureNoteReads and the printed contract. -/
import Derived.Test.YtlamgdibnnmbmaaDoorQNoteReads22
section
namespace Go.Proofs.YtlamgdibnnmbmaaDoor.PRead
open Go.RowKit Go.Proofs.YtlamgdibnnmbmaaDoorW.PrintWords Go.Proofs.YtlamgdibnnmbmaaDoorW.PrintLast Go.Proofs.YtlamgdibnnmbmaaDoorW.PrintMore
set_option linter.unusedVariables false
set_option linter.unusedSimpArgs false
set_option linter.unusedSectionVars false
def ofL (l : List UInt8) : ByteArray := ⟨l.toArray⟩
theorem ba_ext {s : ByteArray} {l : List UInt8} (h : s.data.toList = l) : s = ofL l := by
  cases s with | mk d => unfold ofL; congr 1; apply Array.ext'; simpa using h
theorem extract_list (s : ByteArray) (a b : Nat) : (s.extract a b).data.toList = (s.data.toList.take b).drop a := by
  simp [ByteArray.data_extract, Array.toList_extract, List.extract_eq_take_drop, List.drop_take]
set_option maxRecDepth 10000 in
def wordsT : ByteArray := ⟨#[32, 97, 114, 103, 117, 109, 101, 110, 116, 32, 114, 97, 110, 103, 101, 32, 108, 97, 114, 103, 101, 32, 102, 111, 114, 109, 32, 111, 114, 100, 101, 114, 32, 116, 119, 105, 99, 101, 32, 117, 110, 107, 110, 111, 119, 110, 32, 116, 121, 112, 101, 32, 110, 97, 109, 101, 32, 115, 121, 110, 116, 97, 120, 32, 115, 104, 111, 114, 116, 32, 115, 117, 109, 32, 115, 116, 97, 116, 101, 32, 102, 117, 108, 108, 32, 99, 108, 97, 115, 104, 32, 108, 111, 115, 116, 32, 108, 111, 111, 112, 32, 111, 112, 101, 110, 32, 99, 111, 110, 115, 116, 97, 110, 116, 32, 119, 105, 100, 116, 104, 32, 116, 105, 109, 101, 32, 114, 117, 108, 101]⟩
theorem wordsT_size : wordsT.size = 130 := by kernel_rfl
theorem wordsT_len : wordsT.data.toList.length = 130 := by kernel_rfl
def splits (cur : List UInt8) : List UInt8 → List (List UInt8)
  | [] => [cur]
  | c :: r => if c = 32 then cur :: splits [] r else splits (cur ++ [c]) r
def pick (e n : Int) (cur : List UInt8) : List UInt8 → List UInt8
  | [] => if n = e then cur else []
  | c :: r => if c = 32 then if n = e then cur else pick e (n + 1) [] r else pick e n (cur ++ [c]) r
theorem pick_is (e : Int) : ∀ (r cur : List UInt8) (n : Int), pick e n cur r = if e < n then [] else (splits cur r).getD (e - n).toNat []
  | [], cur, n => by
    unfold pick splits
    by_cases h : n = e
    · subst h; rw [if_pos rfl, if_neg (by omega)]; simp
    · rw [if_neg h]
      by_cases h1 : e < n
      · rw [if_pos h1]
      · rw [if_neg h1, show (e - n).toNat = ((e - n).toNat - 1) + 1 by omega]; rfl
  | c :: r, cur, n => by
    unfold pick splits
    by_cases hc : c = 32
    · rw [if_pos hc, if_pos hc]
      by_cases h : n = e
      · subst h; rw [if_pos rfl, if_neg (by omega)]; simp
      · rw [if_neg h, pick_is e r [] (n + 1)]
        by_cases h1 : e < n
        · rw [if_pos h1, if_pos (by omega)]
        · rw [if_neg h1, if_neg (by omega), show (e - n).toNat = (e - (n + 1)).toNat + 1 by omega]; rfl
    · rw [if_neg hc, if_neg hc, pick_is e r _ n]
theorem NoteWord_l0 (e : Int) : ∀ (r cur : List UInt8) (i j : Nat) (n : Int), wordsT.data.toList.drop i = r → i ≤ 130 → j ≤ i → (wordsT.data.toList.take i).drop j = cur → 0 ≤ n ∧ n ≤ i →
    Ev (fun k => maskref1_NoteWord.l0 k e n (j : Int) (i : Int)) (ofL (pick e n cur r)) := by
  intro r
  induction r with
  | nil =>
    intro cur i j n hr hi hj hc hn
    obtain rfl : i = 130 := by
      have := bt_none wordsT i hr
      rw [wordsT_size] at this; omega
    refine Ev.step (fun k => by rw [maskref1_NoteWord.l0]) (Ev.pos (by decide) (Ev.neg (by decide) ?_))
    refine Ev.step (fun k => by rw [maskref1_NoteWord.j1]) (Ev.neg (by decide) ?_)
    unfold pick
    by_cases h : n = e
    · rw [if_pos h]
      refine Ev.pos h (Ev.pos (by omega) (Ev.pos (by omega) (Ev.pos (by decide) ((Ev.now _).eq ?_))))
      refine ba_ext ?_
      have := extract_list wordsT j 130
      rw [hc] at this
      exact this
    · rw [if_neg h]
      refine Ev.neg h ?_
      rw [w64 (n := n + 1) (by omega), w64 (n := ((130 : Nat) : Int) + 1) (by omega)]
      refine Ev.step (fun k => by rw [maskref1_NoteWord.l0]) ?_
      exact Ev.neg (by omega) ((Ev.now _).eq rfl)
  | cons c r ih =>
    intro cur i j n hr hi hj hc hn
    obtain ⟨hlt, hb, hr'⟩ := bt_drop wordsT i hr
    rw [wordsT_size] at hlt
    have hll : i < wordsT.data.toList.length := by rw [wordsT_len]; exact hlt
    have hcc : wordsT.data.toList[i]'hll = c := by
      rw [List.drop_eq_getElem_cons hll] at hr
      exact (List.cons.inj hr).1
    refine Ev.step (fun k => by rw [maskref1_NoteWord.l0]) (Ev.pos (by omega) (Ev.pos (by omega) (Ev.pos (by omega) ?_)))
    have hb' : bt (⟨#[32, 97, 114, 103, 117, 109, 101, 110, 116, 32, 114, 97, 110, 103, 101, 32, 108, 97, 114, 103, 101, 32, 102, 111, 114, 109, 32, 111, 114, 100, 101, 114, 32, 116, 119, 105, 99, 101, 32, 117, 110, 107, 110, 111, 119, 110, 32, 116, 121, 112, 101, 32, 110, 97, 109, 101, 32, 115, 121, 110, 116, 97, 120, 32, 115, 104, 111, 114, 116, 32, 115, 117, 109, 32, 115, 116, 97, 116, 101, 32, 102, 117, 108, 108, 32, 99, 108, 97, 115, 104, 32, 108, 111, 115, 116, 32, 108, 111, 111, 112, 32, 111, 112, 101, 110, 32, 99, 111, 110, 115, 116, 97, 110, 116, 32, 119, 105, 100, 116, 104, 32, 116, 105, 109, 101, 32, 114, 117, 108, 101]⟩ : ByteArray) (i : Int) = (c.toNat : Int) := hb
    rw [hb']
    unfold pick
    by_cases h32 : c = 32
    · subst h32
      rw [show (((32 : UInt8).toNat : Int) != 32) = false from rfl, if_pos rfl]
      refine Ev.step (fun k => by rw [maskref1_NoteWord.j1]) (Ev.neg (by decide) ?_)
      by_cases h : n = e
      · rw [if_pos h]
        refine Ev.pos h (Ev.pos (by omega) (Ev.pos (by omega) (Ev.pos (by omega) ((Ev.now _).eq ?_))))
        refine ba_ext ?_
        have := extract_list wordsT j i
        rw [hc] at this
        exact this
      · rw [if_neg h]
        refine Ev.neg h ?_
        rw [w64 (n := n + 1) (by omega), w64 (n := (i : Int) + 1) (by omega)]
        exact ih [] (i + 1) (i + 1) (n + 1) hr' (by omega) (Nat.le_refl _) (List.drop_eq_nil_of_le (by rw [List.length_take]; clear hb hb'; omega)) (by omega)
    · have hne : ((c.toNat : Int) != 32) = true := bne_iff_ne.2 fun h => h32 ((u8_lit c 32).1 h)
      rw [hne, if_neg h32]
      refine Ev.step (fun k => by rw [maskref1_NoteWord.j1]) (Ev.pos rfl ?_)
      rw [w64 (n := (i : Int) + 1) (by omega)]
      refine ih (cur ++ [c]) (i + 1) j n hr' (by omega) (by omega) ?_ (by omega)
      rw [List.take_succ_eq_append_getElem hll, List.drop_append_of_le_length (by rw [List.length_take, wordsT_len]; clear hb hb'; omega), hc, hcc]
theorem splits_words : (splits [] wordsT.data.toList).map ofL = nameWords := by decide +kernel
theorem NoteWord_ev (e : Int) : ∃ r, Ev (fun k => maskref1_NoteWord.f k e) r ∧ note_Name.f e = some r := by
  have h := NoteWord_l0 e wordsT.data.toList [] 0 0 0 rfl (by decide) (Nat.le_refl _) (by rw [List.take_zero]; rfl) (by omega)
  refine ⟨_, h, ?_⟩
  unfold note_Name.f
  congr 1
  rw [pick_is, Int.sub_zero]
  by_cases h0 : e < 0
  · rw [if_pos h0, if_pos h0]; rfl
  · rw [if_neg h0, if_neg h0, ← splits_words, List.getD_eq_getElem?_getD, List.getD_eq_getElem?_getD, List.getElem?_map]
    cases (splits [] wordsT.data.toList)[e.toNat]? <;> rfl
end Go.Proofs.YtlamgdibnnmbmaaDoor.PRead
end
