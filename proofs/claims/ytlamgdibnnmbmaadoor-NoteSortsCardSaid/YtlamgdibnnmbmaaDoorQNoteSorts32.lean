/- Part 33 of the proof of NoteSortsCardSaid: The law NoteSorts: for all arguments it returns true; each argument reads behind the call as it read before. Out of the plain theorem of YtlamgdibnnmbmaaDoorPureNoteSorts and the printed contract. -/
import Derived.Test.YtlamgdibnnmbmaaDoorQNoteSorts29
import Derived.Test.YtlamgdibnnmbmaaDoorQNoteSorts30
import Derived.Test.YtlamgdibnnmbmaaDoorQNoteSorts31
import Derived.Shelf.SlSortCmp.WholeK
section
namespace Go.Proofs.YtlamgdibnnmbmaaDoor.PSort
open Go.RowKit Go.Lib Go.Sort
open Go.Proofs.YtlamgdibnnmbmaaDoorW.PrintWords Go.Proofs.YtlamgdibnnmbmaaDoorW.PrintLast Go.Proofs.YtlamgdibnnmbmaaDoorW.PrintMore
set_option linter.unusedVariables false
set_option linter.unusedSimpArgs false
theorem ci_cases (a b : Int) : ci a b = -1 ∨ ci a b = 0 ∨ ci a b = 1 := by
  unfold ci; split
  · exact .inl rfl
  · split
    · exact .inr (.inr rfl)
    · exact .inr (.inl rfl)
theorem cs_cases (a b : ByteArray) : cs a b = -1 ∨ cs a b = 0 ∨ cs a b = 1 := by
  unfold cs; split
  · exact .inl rfl
  · split
    · exact .inr (.inr rfl)
    · exact .inr (.inl rfl)
theorem or5_cases : ∀ L : List Int, (∀ x ∈ L, x = -1 ∨ x = 0 ∨ x = 1) → or5 L = -1 ∨ or5 L = 0 ∨ or5 L = 1
  | [], _ => .inr (.inl rfl)
  | x :: r, h => by
    show (if x = 0 then or5 r else x) = -1 ∨ (if x = 0 then or5 r else x) = 0 ∨ (if x = 0 then or5 r else x) = 1
    by_cases e : x = 0
    · rw [if_pos e]; exact or5_cases r (fun y hy => h y (List.mem_cons_of_mem _ hy))
    · rw [if_neg e]; exact h x List.mem_cons_self
theorem cmpN_cases (a b : S24) : cmpN a b = -1 ∨ cmpN a b = 0 ∨ cmpN a b = 1 := by
  refine or5_cases _ (fun x hx => ?_)
  simp only [List.mem_cons, List.not_mem_nil, or_false] at hx
  rcases hx with rfl | rfl | rfl | rfl | rfl
  · exact cs_cases _ _
  · exact ci_cases _ _
  · exact ci_cases _ _
  · exact ci_cases _ _
  · exact cs_cases _ _
theorem lt_bef (x y : S24) : ltOf cmpN x y = bef x y := by
  unfold ltOf bef
  have := cmpN_cases x y
  apply Bool.eq_iff_iff.2
  rw [decide_eq_true_iff, decide_eq_true_iff]; omega
theorem swoN : SWO (ltOf cmpN) where
  irrefl x := by rw [lt_bef]; exact bef_total.irrefl x
  trans x y z h h' := by rw [lt_bef] at *; exact bef_total.trans x y z h h'
  ntrans x y z h h' := by
    rw [lt_bef] at *
    cases hb : bef x z with
    | false => rfl
    | true =>
      rcases bef_total.total x y with q | q | q
      · rw [q] at h; cases h
      · rw [q, h'] at hb; cases hb
      · have := bef_total.trans _ _ _ q hb
        rw [this] at h'; cases h'
theorem antiN (x y : S24) (h : ltOf cmpN x y = false) (h' : ltOf cmpN y x = false) : x = y := by
  rw [lt_bef] at *
  rcases bef_total.total x y with q | q | q
  · rw [q] at h; cases h
  · exact q
  · rw [q] at h'; cases h'
def srt (l : List S24) : List S24 := l.mergeSort fun x y => !(ltOf cmpN) y x
theorem srt_len (l : List S24) : (srt l).length = l.length := List.length_mergeSort l
theorem mem_srt (a : S24) (l : List S24) : a ∈ srt l ↔ a ∈ l := (List.mergeSort_perm l _).mem_iff
theorem srt_pair (l : List S24) : (srt l).Pairwise fun x y => bef y x = false := by
  have h := List.pairwise_mergeSort (le := fun x y => !(ltOf cmpN) y x) (fun a b c h1 h2 => by
    simp only [Bool.not_eq_true'] at *
    exact swoN.ntrans c b a h2 h1) (fun a b => by
    rw [lt_bef, lt_bef]
    rcases bef_total.total a b with q | q | q
    · cases hb : bef b a with
      | false => rfl
      | true => have := bef_total.trans _ _ _ q hb; rw [bef_total.irrefl] at this; cases this
    · rw [q, bef_total.irrefl]; rfl
    · cases hb : bef a b with
      | false => simp
      | true => have := bef_total.trans _ _ _ q hb; rw [bef_total.irrefl] at this; cases this) l
  refine h.imp (fun {x y} hxy => ?_)
  rw [← lt_bef]
  simpa using hxy
def kept (l : List S24) : List S24 := compactUpTo (srt l).toArray (srt l).toArray.size
theorem kept_len (l : List S24) : (kept l).length ≤ l.length := by
  unfold kept compactUpTo
  rw [List.length_map]
  refine Nat.le_trans (List.length_filter_le _ _) ?_
  simp [srt_len]
theorem get_arr (l : List S24) (i : Nat) (h : i < l.length) : l.toArray[i]! = l[i] := by
  rw [getElem!_pos l.toArray i (by simpa using h)]; simp
theorem keeps_iff (l : List S24) (j : Nat) : keeps l.toArray j = true ↔ j = 0 ∨ l.toArray[j]! ≠ l.toArray[j - 1]! := by unfold keeps; rw [decide_eq_true_iff]
theorem kept_rises (l : List S24) : (kept l).Pairwise fun x y => bef x y = true := by
  unfold kept compactUpTo
  rw [List.pairwise_map]
  have hS := srt_pair l
  generalize srt l = s at hS
  have hr : ((List.range s.toArray.size).filter (keeps s.toArray)).Pairwise fun i j => i < j ∧ j < s.length ∧ keeps s.toArray j = true := by
    have h1 : ((List.range s.toArray.size).filter (keeps s.toArray)).Pairwise (· < ·) := List.Pairwise.filter _ (List.pairwise_lt_range)
    refine List.Pairwise.imp_of_mem (fun {a b} ha hb hab => ⟨hab, ?_, ?_⟩) h1
    · have := (List.mem_filter.1 hb).1; simpa using this
    · exact (List.mem_filter.1 hb).2
  refine hr.imp (fun {i j} h => ?_)
  obtain ⟨hij, hj, hk⟩ := h
  have hge : ∀ a b (ha : a < s.length) (hb : b < s.length), a < b → bef s[b] s[a] = false := fun a b ha hb hab => List.pairwise_iff_getElem.1 hS a b ha hb hab
  rcases (keeps_iff s j).1 hk with h0 | h0
  · omega
  · rw [get_arr s j hj, get_arr s (j - 1) (by omega)] at h0
    rw [get_arr s i (by omega), get_arr s j hj]
    have h1 : bef s[j - 1] s[j] = true := by
      rcases bef_total.total s[j - 1] s[j] with q | q | q
      · exact q
      · exact absurd q.symm h0
      · rw [hge (j - 1) j (by omega) hj (by omega)] at q; cases q
    rcases Nat.lt_or_ge i (j - 1) with q | q
    · rcases bef_total.total s[i] s[j - 1] with p | p | p
      · exact bef_total.trans _ _ _ p h1
      · rw [p]; exact h1
      · rw [hge i (j - 1) (by omega) (by omega) q] at p; cases p
    · have e : i = j - 1 := by omega
      subst e; exact h1
theorem mem_kept (a : S24) (l : List S24) : a ∈ kept l ↔ a ∈ l := by
  rw [← mem_srt a l]
  unfold kept compactUpTo
  generalize srt l = s
  rw [List.mem_map]
  constructor
  · rintro ⟨i, hi, rfl⟩
    have hi' : i < s.length := by have := (List.mem_filter.1 hi).1; simpa using this
    rw [get_arr s i hi']; exact List.getElem_mem hi'
  · intro ha
    obtain ⟨i, hi, rfl⟩ := List.getElem_of_mem ha
    have key : ∀ i (hi : i < s.length), ∃ j, j ∈ (List.range s.toArray.size).filter (keeps s.toArray) ∧ s.toArray[j]! = s[i] := by
      intro i
      induction i with
      | zero => exact fun hi => ⟨0, List.mem_filter.2 ⟨by simpa using hi, (keeps_iff s 0).2 (.inl rfl)⟩, get_arr s 0 hi⟩
      | succ i ih =>
        intro hi
        by_cases e : s[i + 1] = s[i]
        · obtain ⟨j, h1, h2⟩ := ih (by omega)
          exact ⟨j, h1, h2.trans e.symm⟩
        · refine ⟨i + 1, List.mem_filter.2 ⟨by simpa using hi, (keeps_iff s _).2 (.inr ?_)⟩, get_arr s _ hi⟩
          rw [get_arr s _ hi, show i + 1 - 1 = i from rfl, get_arr s i (by omega)]
          exact e
    exact key i hi
theorem flat_list : ∀ l : List S24, (flatK enc24 5 l.toArray).toList = l.flatMap enc24
  | [] => by simp [flatK]
  | x :: r => by
    have ih := flat_list r
    unfold flatK at ih ⊢
    rw [Array.toList_map, Array.toList_range] at ih ⊢
    rw [List.flatMap_cons, ← ih, List.size_toArray, List.length_cons, show (r.length + 1) * 5 = 5 + r.length * 5 by omega, List.range_add, List.map_append, List.map_map]
    congr 1
    apply List.map_congr_left
    intro t ht
    have ht' : t < r.length * 5 := List.mem_range.1 ht
    have h1 : (5 + t) / 5 = t / 5 + 1 := by omega
    have h2 : (5 + t) % 5 = t % 5 := by omega
    have h3 : t / 5 < r.length := by omega
    show (enc24 (x :: r).toArray[(5 + t) / 5]!)[(5 + t) % 5]! = _
    rw [h1, h2, get_arr (x :: r) _ (by simp; omega), get_arr r _ h3, List.getElem_cons_succ]
theorem reps_flat {w : World} {base : Nat} {ok : Nat → Prop} : ∀ (l : List S24) (cs : List Value), Reps (k24.M w base ok) 5 l cs → cs = l.flatMap enc24
  | [], cs, h => by
    have := h.1
    simp at this
    rw [this]; rfl
  | x :: r, cs, h => by
    have hl : cs.length = (r.length + 1) * 5 := h.1
    have h0 := k24_openM (h.2 0 x rfl)
    rw [Nat.zero_mul, List.drop_zero] at h0
    have ht : Reps (k24.M w base ok) 5 r (cs.drop 5) := ⟨by rw [List.length_drop, hl]; omega, fun j p hj => by
      have := h.2 (j + 1) p (by simpa using hj)
      rw [List.drop_drop]
      rwa [show 5 + j * 5 = (j + 1) * 5 by omega]⟩
    have := reps_flat r _ ht
    rw [List.flatMap_cons, ← this]
    show cs = enc24 x ++ _
    rw [show enc24 x = cs.take 5 from h0.symm, List.take_append_drop]
theorem flat_reps (w : World) (base : Nat) (ok : Nat → Prop) : ∀ l : List S24, Reps (k24.M w base ok) 5 l (l.flatMap enc24)
  | [] => Reps.none _ _
  | x :: r => by
    rw [List.flatMap_cons, show x :: r = [x] ++ r from rfl]
    refine Kd.reps_append ⟨rfl, fun j p hj => ?_⟩ (flat_reps w base ok r)
    cases j with
    | zero =>
      obtain rfl : x = p := by simpa using hj
      exact k24_mkM _ _ _ _
    | succ j => simp at hj
theorem holds_own {w : World} {g cap : Nat} {cur : Array Value} {l : List S24} (hh : w.heap[g]? = some (.cells cur 24 (0, 0))) (ht : cur.toList.take (l.length * 5) = l.flatMap enc24) : HoldsK enc24 5 w g 0 l.toArray := by
  intro t htt
  have hF := flat_list l
  have hlen : (flatK enc24 5 l.toArray).size = l.length * 5 := by simp
  rw [hlen] at htt
  rw [Nat.zero_add, blk_cell hh, blk_frozen hh]
  refine ⟨?_, rfl⟩
  have h1 : (flatK enc24 5 l.toArray)[t]! = (flatK enc24 5 l.toArray)[t]'(by omega) := getElem!_pos _ t (by omega)
  show cur[t]? = some ((flatK enc24 5 l.toArray)[t]!)
  rw [h1]
  have h2 : (cur.toList.take (l.length * 5))[t]? = (flatK enc24 5 l.toArray).toList[t]? := by rw [ht, hF]
  rw [List.getElem?_take, if_pos htt] at h2
  rw [Array.getElem?_toList] at h2
  rw [h2, Array.getElem?_toList, Array.getElem?_eq_getElem]
theorem own_holds {w : World} {B g cap m : Nat} {cur : Array Value} {d : Array S24} (hh : w.heap[g]? = some (.cells cur 24 (0, 0))) (hB : B ≤ g) (hs : cur.size = cap * 5) (hc : cap ≤ maxLen) (hd : d.size ≤ cap) (hH : HoldsK enc24 5 w g 0 d) (hm : m ≤ d.size) :
    Kd.R k24 24 w B (fun _ => True) (.slice (some ⟨g, 0, none⟩) m cap) (d.toList.take m) := by
  refine ⟨fun _ _ => trivial, (d.toList.take m).flatMap enc24, ⟨?_, .inr ⟨g, cap, cur, ?_, hB, hh, ?_, hc, hs, ?_⟩⟩, flat_reps _ _ _ _⟩
  · rw [flat_len]; rfl
  · rw [List.length_take, Array.length_toList, Nat.min_eq_left hm]
  · rw [List.length_take, Array.length_toList]; omega
  · have e : k24.sz = 5 := rfl
    rw [e]
    have hl : (d.toList.take m).length = m := by rw [List.length_take, Array.length_toList, Nat.min_eq_left hm]
    rw [hl]
    have hF := flat_list d.toList
    have hF2 : (d.toList.take m).flatMap enc24 = (d.toList.flatMap enc24).take (m * 5) := by
      have h3 : d.toList.flatMap enc24 = (d.toList.take m).flatMap enc24 ++ (d.toList.drop m).flatMap enc24 := by rw [← List.flatMap_append, List.take_append_drop]
      rw [h3, List.take_left' (by rw [flat_len, hl])]
    rw [hF2, ← hF]
    apply List.ext_getElem?
    intro t
    rw [List.getElem?_take, List.getElem?_take]
    by_cases ht : t < m * 5
    · rw [if_pos ht, if_pos ht, Array.getElem?_toList, Array.getElem?_toList]
      have h1 := (hH t (by rw [size_flatK]; omega)).1
      rw [Nat.zero_add, blk_cell hh] at h1
      rw [h1, Array.toArray_toList, getElem!_pos _ t (by rw [size_flatK]; omega), Array.getElem?_eq_getElem (by rw [size_flatK]; omega)]; rfl
    · rw [if_neg ht, if_neg ht]
theorem heap_putRowK (w : World) (g n : Nat) (d : Array S24) (os : Array Obj) (hg : g < w.heap.size) {cur : Array Value} (hh : w.heap[g]? = some (.cells cur 24 (0, 0))) :
    ∃ cur', (grow (putRowK enc24 5 (Sort.ahead w n) g 0 d) os).heap[g]? = some (.cells cur' 24 (0, 0)) ∧ cur'.size = cur.size := by
  refine ⟨putCells id 0 (flatK enc24 5 d) cur, ?_, by unfold putCells; simp⟩
  rw [heap_grow_old _ _ (by rw [size_putRowK]; exact hg)]
  unfold putRowK putRow mapBlock
  show ((Sort.ahead w n).heap.modify g _)[g]? = _
  rw [Array.getElem?_modify, if_pos rfl]
  show (w.heap[g]?).map _ = _
  rw [hh]; rfl
theorem below_putRowK (w0 w : World) (B g n : Nat) (d : Array S24) (os : Array Obj) (hB : B ≤ g) (hg : g < w.heap.size) (h : Below B w0 w) : Below B w0 (grow (putRowK enc24 5 (Sort.ahead w n) g 0 d) os) := by
  refine h.trans ⟨rfl, rfl, rfl, ?_, fun k hk => ?_⟩
  · rw [size_grow, size_putRowK]; exact Nat.le_add_right _ _
  · rw [heap_grow_old _ _ (by rw [size_putRowK]; show k < w.heap.size; omega)]
    unfold putRowK putRow mapBlock
    show ((Sort.ahead w n).heap.modify g _)[k]? = _
    rw [Array.getElem?_modify, if_neg (by omega)]; rfl
end Go.Proofs.YtlamgdibnnmbmaaDoor.PSort
end
