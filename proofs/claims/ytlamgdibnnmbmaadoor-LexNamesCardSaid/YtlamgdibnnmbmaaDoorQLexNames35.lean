/- Part 36 of the proof of LexNamesCardSaid: The law LexNames: for all arguments it returns true; each argument reads behind the call as it read before. Out of the plain theorem of YtlamgdibnnmbmaaDoorPureLexNames and the printed contract. -/
import Derived.Test.YtlamgdibnnmbmaaDoorQLexNames33
import Derived.Test.YtlamgdibnnmbmaaDoorQLexNames24
import Derived.Test.YtlamgdibnnmbmaaDoorQLexNames34
import Derived.Lib.ReplaceLaws
import Derived.Lib.SplitLaws
import Derived.Lib.IndexBytes
section
namespace Go.Proofs.YtlamgdibnnmbmaaDoorW.PrintWords
set_option linter.unusedVariables false
section
variable {α β : Type} {f g : Nat → Option α} {r : α} {c : Prop} [Decidable c]
theorem Ev.pos (h : c) (k : Ev f r) : Ev (fun n => if c then f n else g n) r := Ev.congr (fun n => if_pos h) k
theorem Ev.neg (h : ¬ c) (k : Ev g r) : Ev (fun n => if c then f n else g n) r := Ev.congr (fun n => if_neg h) k
theorem Ev.val {o : Option α} (h : o = some r) : Ev (fun _ => o) r := Ev.congr (fun _ => h) (Ev.now r)
theorem Ev.bnd {o : Option α} {F : Nat → α → Option β} {b : β} (h : o = some r) (k : Ev (fun n => F n r) b) : Ev (fun n => o.bind (F n)) b := Ev.congr (fun n => by rw [h]; rfl) k
theorem Ev.eq {s : α} (k : Ev f s) (h : s = r) : Ev f r := h ▸ k
end
end Go.Proofs.YtlamgdibnnmbmaaDoorW.PrintWords
namespace Go.Proofs.YtlamgdibnnmbmaaDoor.PLex
open Go.RowKit Go.Proofs.YtlamgdibnnmbmaaDoorW.PrintWords Go.Proofs.YtlamgdibnnmbmaaDoorW.PrintLast Go.Proofs.YtlamgdibnnmbmaaDoorW.PrintMore
set_option linter.unusedVariables false
set_option linter.unusedSimpArgs false
set_option linter.unusedSectionVars false
theorem bt_get (s : ByteArray) (i : Nat) (h : i < s.size) : bt s (i : Int) = ((s[i]'h).toNat : Int) := by
  unfold bt
  simp only [Int.toNat_natCast]
  rw [dif_pos h]
theorem bt_cut (s : ByteArray) (a b i : Nat) (hb : b ≤ s.size) (h : a + i < b) : bt (s.extract a b) (i : Int) = bt s ((a + i : Nat) : Int) := by
  have hz : (s.extract a b).size = b - a := by rw [ByteArray.size_extract]; omega
  rw [bt_get _ _ (by omega), bt_get _ _ (by omega)]
  congr 2
  simp [ByteArray.getElem_extract]
section
theorem tail_size (T : ByteArray) (a : Nat) : (tail T a).size = T.size - a := by unfold tail; rw [ByteArray.size_extract]; omega
theorem bt_tail {T : ByteArray} {a i : Nat} (h : a + i < T.size) : bt (tail T a) (i : Int) = ((T[a + i]'h).toNat : Int) := by
  unfold tail; rw [bt_cut T a T.size i (Nat.le_refl _) h, bt_get]
theorem u8_of (c : UInt8) : UInt8.ofNat c.toNat = c := UInt8.ofNat_toNat
theorem isWord_is (c : UInt8) : maskref1_isWord.f (c.toNat : Int) = some (wordP c) := by
  have key : ∀ n : Fin 256, maskref1_isWord.f (n.1 : Int) = some (wordP (UInt8.ofNat n.1)) := by decide +kernel
  have := key ⟨c.toNat, UInt8.toNat_lt c⟩
  rwa [u8_of] at this
theorem isLetter_is (c : UInt8) : maskref1_isLetter.f (c.toNat : Int) = some (letterP c) := by
  have key : ∀ n : Fin 256, maskref1_isLetter.f (n.1 : Int) = some (letterP (UInt8.ofNat n.1)) := by decide +kernel
  have := key ⟨c.toNat, UInt8.toNat_lt c⟩
  rwa [u8_of] at this
theorem inQuoted_is (c : UInt8) : Ev (fun k => maskref1_inQuoted.f k (c.toNat : Int)) (quoteP c) := by
  have key : ∀ n : Fin 256, maskref1_inQuoted.f 20 (n.1 : Int) = some (quoteP (UInt8.ofNat n.1)) := by decide +kernel
  have := key ⟨c.toNat, UInt8.toNat_lt c⟩
  rw [u8_of] at this
  exact Ev.of (fun k => maskref1_inQuoted.mono _ k) this
theorem run_gen (L : Nat → ByteArray → Int → Int → Option Int) (F : Nat → Int → Option Bool) (p : UInt8 → Bool)
    (hL : ∀ k x0 x7 x8, L (k + 1) x0 x7 x8 = if x8 < x7 then (if 0 ≤ x8 then (if x8 < (x0.size : Int) then ((F k (bt x0 x8)).bind fun t => (if t = true then L k x0 x7 (wrap64 (x8 + 1)) else some x8)) else none) else none) else some (x0.size : Int))
    (hF : ∀ c : UInt8, Ev (fun k => F k (c.toNat : Int)) (p c)) (T : ByteArray) (a : Nat) (hS : T.size ≤ 16000) :
    ∀ d i, a + i + d = T.size → Ev (fun k => L k (tail T a) ((tail T a).size : Int) (i : Int)) ((runTo T p (a + i) - a : Nat) : Int)
  | 0, i, h => by
    have hz := tail_size T a
    refine Ev.step (fun k => hL k _ _ _) (Ev.neg (by omega) ((Ev.now _).eq ?_))
    rw [runTo_eq, dif_neg (by omega), hz]; congr 1; omega
  | d + 1, i, h => by
    have hz := tail_size T a
    have hlt : a + i < T.size := by omega
    have ih := run_gen L F p hL hF T a hS d (i + 1) (by omega)
    refine Ev.step (fun k => hL k _ _ _) (Ev.pos (by omega) (Ev.pos (by omega) (Ev.pos (by omega) ?_)))
    rw [bt_tail hlt]
    refine Ev.bind (hF _) ?_
    rw [runTo_eq, dif_pos hlt]
    cases hp : p (T[a + i]'hlt)
    · exact Ev.neg (by decide) ((Ev.now _).eq (by rw [if_neg (by decide), Nat.add_sub_cancel_left]))
    · refine Ev.pos rfl ?_
      rw [w64' (by omega) (by omega), if_pos rfl]
      exact ih
variable (T : ByteArray) (hS : T.size ≤ 16000)
include hS
theorem runWord (a : Nat) (ha : a ≤ T.size) : Ev (fun k => maskref1_run__isWord.f k (tail T a)) ((runTo T wordP a - a : Nat) : Int) :=
  run_gen maskref1_run__isWord.l0 (fun _ c => maskref1_isWord.f c) wordP (fun k x0 x7 x8 => by rw [maskref1_run__isWord.l0]) (fun c => Ev.val (isWord_is c)) T a hS (T.size - a) 0 (by omega)
theorem runQuoted (a : Nat) (ha : a ≤ T.size) : Ev (fun k => maskref1_run__inQuoted.f k (tail T a)) ((runTo T quoteP a - a : Nat) : Int) :=
  run_gen maskref1_run__inQuoted.l0 (fun k c => maskref1_inQuoted.f k c) quoteP (fun k x0 x7 x8 => by rw [maskref1_run__inQuoted.l0]) inQuoted_is T a hS (T.size - a) 0 (by omega)
end
theorem less_irrefl : ∀ x : List UInt8, Op.bytesLess x x = false
  | [] => rfl
  | a :: l => by simp [Op.bytesLess, less_irrefl l]
theorem less_trans : ∀ x y z : List UInt8, Op.bytesLess x y = true → Op.bytesLess y z = true → Op.bytesLess x z = true
  | x, y, [], _, h => by cases y <;> simp [Op.bytesLess] at h
  | [], y, c :: z, _, _ => by simp [Op.bytesLess]
  | a :: x, [], c :: z, h, _ => by simp [Op.bytesLess] at h
  | a :: x, b :: y, c :: z, h1, h2 => by
    simp only [Op.bytesLess] at h1 h2 ⊢
    simp only [Bool.or_eq_true, Bool.and_eq_true, decide_eq_true_eq, beq_iff_eq] at h1 h2 ⊢
    rcases h1 with h1 | ⟨rfl, h1⟩ <;> rcases h2 with h2 | ⟨rfl, h2⟩
    · exact .inl (UInt8.lt_trans h1 h2)
    · exact .inl h1
    · exact .inl h2
    · exact .inr ⟨rfl, less_trans x y z h1 h2⟩
theorem less_is (a b : ByteArray) : cmp_Less_string.f a b = some (Op.bytesLess a.toList b.toList) := by
  unfold cmp_Less_string.f cmp_isNaN_string.f
  simp
theorem mid_is {i j n h : Nat} (hn : n ≤ 1000) (hij : i < j) (hj : j ≤ n) (hh : h = (i + j) / 2) : wrap64 (IntKind.u64.wrap (wrap64 ((i : Int) + (j : Int))) / 2) = (h : Int) := by
  rw [w64' (x := (i : Int) + (j : Int)) (by omega) (by omega), IntWalk.u64_in _ ⟨by omega, by omega⟩, w64' (by omega) (by omega)]; omega
def up (l : List ByteArray) : Prop := ∀ i j, i < j → j < l.length → Op.bytesLess (l.getD i ByteArray.empty).toList (l.getD j ByteArray.empty).toList = true
theorem toList_inj {a b : ByteArray} (h : a.toList = b.toList) : a = b := by
  rw [Lib.toList_data, Lib.toList_data] at h
  obtain ⟨a⟩ := a
  obtain ⟨b⟩ := b
  exact congrArg ByteArray.mk (Array.toList_inj.1 h)
open Classical in
theorem search_l0 (l : List ByteArray) (u : ByteArray) (hl : l.length ≤ 1000) (hu : up l) : ∀ d i j, j - i ≤ d → i ≤ j → j ≤ l.length →
    (∀ p, p < i → Op.bytesLess (l.getD p ByteArray.empty).toList u.toList = true) → (∀ p, j ≤ p → p < l.length → Op.bytesLess (l.getD p ByteArray.empty).toList u.toList = false) →
    ∃ r, Ev (fun k => slices_BinarySearch_string_string.l0 k l u (l.length : Int) (i : Int) (j : Int)) (r, decide (u ∈ l)) := by
  intro d
  induction d with
  | zero =>
    intro i j h1 h2 h3 hlo hhi
    obtain rfl : i = j := by omega
    refine ⟨i, ?_⟩
    refine Ev.step (fun k => by rw [slices_BinarySearch_string_string.l0]) ?_
    refine Ev.neg (by omega) ?_
    have mem : u ∈ l → i < l.length ∧ l.getD i ByteArray.empty = u := by
      intro hm
      obtain ⟨p, hp, rfl⟩ := List.mem_iff_getElem.1 hm
      have e : l.getD p ByteArray.empty = l[p] := by rw [List.getD_eq_getElem?_getD, List.getElem?_eq_getElem hp]; rfl
      rcases Nat.lt_trichotomy p i with h | h | h
      · have := hlo p h
        rw [e, less_irrefl] at this
        cases this
      · subst h; exact ⟨hp, e⟩
      · have := hhi i (Nat.le_refl _) (by omega)
        have h2 := hu i p h hp
        rw [e] at h2
        rw [h2] at this
        cases this
    have rde : rdOf ByteArray.empty l (i : Int) = l.getD i ByteArray.empty := by unfold rdOf; rw [Int.toNat_natCast]
    by_cases hi : i < l.length
    · refine Ev.pos (by omega) (Ev.pos (by omega) (Ev.pos (by omega) ?_))
      rw [rde]
      by_cases he : (l.getD i ByteArray.empty).toList = u.toList
      · refine Ev.pos he ((Ev.now _).eq ?_)
        have : u ∈ l := by
          rw [← toList_inj he, List.getD_eq_getElem?_getD, List.getElem?_eq_getElem hi]
          exact List.getElem_mem hi
        rw [decide_eq_true this]
      · refine Ev.neg he ?_
        refine Ev.bnd (r := false) (by unfold slices_isNaN_string.f; simp) (Ev.neg (by decide) ((Ev.now _).eq ?_))
        rw [decide_eq_false (fun hm => he (by rw [(mem hm).2]))]
    · refine Ev.neg (by omega) ((Ev.now _).eq ?_)
      rw [decide_eq_false (fun hm => hi (mem hm).1)]
  | succ d ih =>
    intro i j h1 h2 h3 hlo hhi
    by_cases hij : i < j
    · obtain ⟨h, hh⟩ : ∃ h : Nat, h = (i + j) / 2 := ⟨_, rfl⟩
      have hm := Aside0.mk (mid_is hl hij h3 hh)
      have hb : i ≤ h ∧ h < j := by omega
      have rde : rdOf ByteArray.empty l (h : Int) = l.getD h ByteArray.empty := by unfold rdOf; rw [Int.toNat_natCast]
      cases hc : Op.bytesLess (l.getD h ByteArray.empty).toList u.toList
      · obtain ⟨r, hr⟩ := ih i h (by omega) (by omega) (by omega) hlo (fun p hp hpl => by
          rcases Nat.eq_or_lt_of_le hp with e | e
          · rw [← e]; exact hc
          · cases hx : Op.bytesLess (l.getD p ByteArray.empty).toList u.toList
            · rfl
            · have := less_trans _ _ _ (hu h p e hpl) hx
              rw [this] at hc; cases hc)
        refine ⟨r, ?_⟩
        refine Ev.step (fun k => by rw [slices_BinarySearch_string_string.l0]) ?_
        rw [hm.out, rde]
        refine Ev.pos (by omega) (Ev.pos (by omega) (Ev.pos (by omega) ?_))
        exact Ev.bnd ((less_is _ _).trans (by rw [hc])) (Ev.neg (by decide) hr)
      · obtain ⟨r, hr⟩ := ih (h + 1) j (by omega) (by omega) h3 (fun p hp => by
          rcases Nat.lt_or_ge p h with e | e
          · exact less_trans _ _ _ (hu p h e (by omega)) hc
          · obtain rfl : p = h := by omega
            exact hc) hhi
        refine ⟨r, ?_⟩
        refine Ev.step (fun k => by rw [slices_BinarySearch_string_string.l0]) ?_
        rw [hm.out, rde]
        refine Ev.pos (by omega) (Ev.pos (by omega) (Ev.pos (by omega) ?_))
        refine Ev.bnd ((less_is _ _).trans (by rw [hc])) (Ev.pos rfl ?_)
        rw [wrap_succ (n := 1000) (by omega) (by decide)]
        exact hr
    · exact ih i j (by omega) h2 h3 hlo hhi
theorem words_up : up WORDS := by
  have h : ∀ j : Fin 54, ∀ i : Fin 54, i.1 < j.1 → Op.bytesLess (WORDS.getD i.1 ByteArray.empty).data.toList (WORDS.getD j.1 ByteArray.empty).data.toList = true := by decide +kernel
  have hl : WORDS.length = 54 := by decide +kernel
  intro i j hij hj
  rw [Lib.toList_data, Lib.toList_data]
  exact h ⟨j, by omega⟩ ⟨i, by omega⟩ hij
open Classical in
theorem search_is (u : ByteArray) : ∃ r, Ev (fun k => slices_BinarySearch_string_string.f k WORDS u) (r, decide (u ∈ WORDS)) := by
  have hl : WORDS.length = 54 := by decide +kernel
  exact search_l0 WORDS u (by omega) words_up WORDS.length 0 WORDS.length (by omega) (by omega) (by omega) (fun p hp => absurd hp (Nat.not_lt_zero _)) (fun p h1 h2 => absurd h2 (by omega))
def LEXW : ByteArray := (⟨#[32, 97, 102, 116, 101, 114, 32, 97, 108, 119, 97, 121, 115, 32, 97, 110, 100, 32, 97, 115, 115, 105, 103, 110, 32, 99, 97, 115, 101, 32, 99, 97, 115, 101, 120, 32, 99, 97, 115, 101, 122, 32, 99, 97, 116, 32, 99, 104, 101, 99, 107, 32, 99, 111, 109, 98, 32, 99, 111, 110, 115, 116, 32, 100, 101, 102, 97, 117, 108, 116, 32, 100, 101, 108, 97, 121, 32, 100, 111, 119, 110, 116, 111, 32, 101, 108, 115, 101, 32, 101, 110, 117, 109, 32, 102, 97, 108, 108, 32, 102, 111, 114, 32, 102, 117, 110, 99, 116, 105, 111, 110, 32, 105, 102, 32, 105, 110, 32, 105, 110, 105, 116, 105, 97, 108, 32, 105, 110, 115, 116, 32, 105, 110, 116, 101, 114, 102, 97, 99, 101, 32, 108, 105, 110, 107, 32, 108, 111, 103, 32, 109, 111, 100, 117, 108, 101, 32, 109, 111, 110, 105, 116, 111, 114, 32, 110, 111, 119, 32, 111, 110, 32, 111, 114, 32, 111, 117, 116, 32, 112, 114, 111, 112, 101, 114, 116, 121, 32, 114, 101, 112, 32, 114, 101, 112, 101, 97, 116, 32, 114, 105, 115, 101, 32, 115, 101, 113, 32, 115, 104, 111, 119, 32, 115, 105, 103, 110, 101, 100, 32, 115, 105, 122, 101, 32, 115, 116, 111, 112, 32, 115, 116, 114, 111, 98, 101, 32, 115, 116, 114, 117, 99, 116, 32, 116, 104, 101, 110, 32, 116, 105, 109, 101, 115, 32, 116, 111, 32, 117, 110, 115, 105, 103, 110, 101, 100, 32, 118, 97, 114, 32, 118, 105, 101, 119, 32, 119, 97, 105, 116, 32, 119, 104, 105, 108, 101, 32, 119, 105, 100, 116, 104, 32, 119, 105, 114, 101, 32, 119, 114, 105, 116, 101, 32]⟩ : ByteArray)
open Classical in
theorem contains_l0 (L p : ByteArray) (hL : L.size ≤ 100000) (hp : p.size ≤ 100000) : ∀ d i, i + d = L.size + 1 →
    Ev (fun k => maskref1_contains.l0 k L p (i : Int)) (decide (∃ j, i ≤ j ∧ j + p.size ≤ L.size ∧ (L.extract j (j + p.size)).toList = p.toList)) := by
  have neg : ∀ i : Nat, i ≤ L.size + 1 → ¬ i + p.size ≤ L.size → Ev (fun k => maskref1_contains.l0 k L p (i : Int)) (decide (∃ j, i ≤ j ∧ j + p.size ≤ L.size ∧ (L.extract j (j + p.size)).toList = p.toList)) := by
    intro i hi0 hi
    have hno : ¬ ∃ j, i ≤ j ∧ j + p.size ≤ L.size ∧ (L.extract j (j + p.size)).toList = p.toList := fun ⟨j, h1, h2, _⟩ => by omega
    rw [decide_eq_false hno]
    have w1 := Aside0.mk (show wrap64 ((i : Int) + (p.size : Int)) = ((i + p.size : Nat) : Int) from by rw [w64' (by omega) (by omega)]; rfl)
    refine Ev.step (fun k => by rw [maskref1_contains.l0]) ?_
    rw [w1.out]
    exact Ev.neg (by omega) (Ev.now _)
  intro d
  induction d with
  | zero => intro i hd; exact neg i (by omega) (by omega)
  | succ d ih =>
    intro i hd
    by_cases hi : i + p.size ≤ L.size
    · have w1 := Aside0.mk (show wrap64 ((i : Int) + (p.size : Int)) = ((i + p.size : Nat) : Int) from by rw [w64' (by omega) (by omega)]; rfl)
      have w2 := Aside0.mk (show wrap64 ((i : Int) + 1) = ((i + 1 : Nat) : Int) from by rw [w64' (by omega) (by omega)]; rfl)
      refine Ev.step (fun k => by rw [maskref1_contains.l0]) ?_
      rw [w1.out, w2.out, Int.toNat_natCast, Int.toNat_natCast]
      refine Ev.pos (by omega) (Ev.pos (by omega) (Ev.pos (by omega) ?_))
      by_cases he : (L.extract i (i + p.size)).toList = p.toList
      · refine Ev.pos he ((Ev.now _).eq ?_)
        rw [decide_eq_true (show ∃ j, i ≤ j ∧ j + p.size ≤ L.size ∧ (L.extract j (j + p.size)).toList = p.toList from ⟨i, Nat.le_refl _, hi, he⟩)]
      · refine Ev.neg he ((ih (i + 1) (by omega)).eq ?_)
        refine decide_eq_decide.2 ⟨fun ⟨j, h1, h2⟩ => ⟨j, by omega, h2⟩, fun ⟨j, h1, h2, h3⟩ => ?_⟩
        rcases Nat.eq_or_lt_of_le h1 with e | e
        · subst e; exact absurd h3 he
        · exact ⟨j, e, h2, h3⟩
    · exact neg i (by omega) hi
def LEXL : List UInt8 := LEXW.data.toList
def WORDSL : List (List UInt8) := WORDS.map (fun w => w.data.toList)
theorem lex_size : LEXW.size = 304 := by decide +kernel
theorem blanks_words : ∀ i : Fin 303, LEXL.getD i.1 0 = 32 → (LEXL.drop (i.1 + 1)).takeWhile (fun c => c != 32) ∈ WORDSL := by decide +kernel
theorem words_stand : ∀ w ∈ WORDSL, ∃ i : Fin 304, i.1 + (w.length + 2) ≤ 304 ∧ (LEXL.drop i.1).take (w.length + 2) = 32 :: (w ++ [32]) := by decide +kernel
theorem takeWhile_to (l r : List UInt8) (h : ∀ c ∈ l, c ≠ 32) : (l ++ 32 :: r).takeWhile (fun c => c != 32) = l := by
  induction l with
  | nil => simp
  | cons a l ih =>
    have ha : (a != 32) = true := bne_iff_ne.2 (h a List.mem_cons_self)
    rw [List.cons_append, List.takeWhile_cons, ha, if_pos rfl, ih (fun c hc => h c (List.mem_cons_of_mem _ hc))]
theorem cut_list (L : ByteArray) (j n : Nat) : (L.extract j (j + n)).toList = (L.data.toList.drop j).take n := by
  rw [Lib.toList_data, ByteArray.data_extract, Array.toList_extract, List.extract_eq_take_drop, Nat.add_sub_cancel_left]
theorem in_words (u : ByteArray) : u ∈ WORDS ↔ u.data.toList ∈ WORDSL := by
  unfold WORDSL
  rw [List.mem_map]
  constructor
  · intro h; exact ⟨u, h, rfl⟩
  · rintro ⟨w, hw, e⟩
    have : w = u := toList_inj (by rw [Lib.toList_data, Lib.toList_data]; exact e)
    rw [← this]; exact hw
open Classical in
theorem contains_word (u : ByteArray) (hu : u.size ≤ 3000) (hns : ∀ c ∈ u.data.toList, c ≠ 32) :
    Ev (fun k => maskref1_contains.f k LEXW (((⟨#[32]⟩ : ByteArray) ++ u) ++ (⟨#[32]⟩ : ByteArray))) (decide (u ∈ WORDS)) := by
  have hp : (((⟨#[32]⟩ : ByteArray) ++ u) ++ (⟨#[32]⟩ : ByteArray)).data.toList = 32 :: (u.data.toList ++ [32]) := by simp
  have hsz : (((⟨#[32]⟩ : ByteArray) ++ u) ++ (⟨#[32]⟩ : ByteArray)).size = u.data.toList.length + 2 := by
    rw [show (((⟨#[32]⟩ : ByteArray) ++ u) ++ (⟨#[32]⟩ : ByteArray)).size = (((⟨#[32]⟩ : ByteArray) ++ u) ++ (⟨#[32]⟩ : ByteArray)).data.toList.length from rfl, hp]; simp
  have hul : u.size = u.data.toList.length := rfl
  unfold maskref1_contains.f
  refine (contains_l0 LEXW _ (by rw [lex_size]; decide) (by rw [hsz]; omega) (LEXW.size + 1) 0 (by omega)).eq (decide_eq_decide.2 ?_)
  rw [hsz, lex_size, in_words]
  constructor
  · rintro ⟨j, _, h1, h2⟩
    rw [cut_list, Lib.toList_data, hp] at h2
    obtain ⟨R, hd⟩ : ∃ R, LEXL.drop j = 32 :: (u.data.toList ++ 32 :: R) := by
      have h3 := List.take_append_drop (u.data.toList.length + 2) (LEXL.drop j)
      rw [show (LEXL.drop j).take (u.data.toList.length + 2) = 32 :: (u.data.toList ++ [32]) from h2] at h3
      generalize List.drop (u.data.toList.length + 2) (LEXL.drop j) = R at h3
      exact ⟨R, by rw [← h3]; simp⟩
    have hlen : LEXL.length = 304 := lex_size
    have hg : LEXL.getD j 0 = 32 := by
      rw [List.drop_eq_getElem_cons (show j < LEXL.length by omega)] at hd
      rw [List.getD_eq_getElem?_getD, List.getElem?_eq_getElem (show j < LEXL.length by omega)]
      exact (List.cons.inj hd).1
    have hd1 : LEXL.drop (j + 1) = u.data.toList ++ 32 :: R := by
      rw [List.drop_eq_getElem_cons (show j < LEXL.length by omega)] at hd
      exact (List.cons.inj hd).2
    have := blanks_words ⟨j, by omega⟩ hg
    rw [hd1, takeWhile_to _ _ hns] at this
    exact this
  · intro h
    obtain ⟨i, h1, h2⟩ := words_stand _ h
    refine ⟨i.1, Nat.zero_le _, h1, ?_⟩
    rw [cut_list, Lib.toList_data, hp]
    exact h2
end Go.Proofs.YtlamgdibnnmbmaaDoor.PLex
end
