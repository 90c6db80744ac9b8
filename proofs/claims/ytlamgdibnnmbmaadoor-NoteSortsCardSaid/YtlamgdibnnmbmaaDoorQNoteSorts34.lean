/- Part 35 of the proof of NoteSortsCardSaid: The law NoteSorts: for all arguments it returns true; each argument reads behind the call as it read before. Out of the plain theorem of YtlamgdibnnmbmaaDoorPureNoteSorts and the printed contract. -/
import Derived.Test.YtlamgdibnnmbmaaDoorQNoteSorts32
import Derived.Test.YtlamgdibnnmbmaaDoorQNoteSorts33
import Derived.Test.YtlamgdibnnmbmaaDoorQNoteSorts17
import Derived.Shelf.SlSortCmp.NoneTotal
section
namespace Go.Proofs.YtlamgdibnnmbmaaDoor.PSort
open Go.RowKit Go.Lib Go.Sort Go.Shelf
open Go.Proofs.YtlamgdibnnmbmaaDoorW.PrintWords Go.Proofs.YtlamgdibnnmbmaaDoorW.PrintLast Go.Proofs.YtlamgdibnnmbmaaDoorW.PrintMore
set_option linter.unusedVariables false
set_option linter.unusedSimpArgs false
theorem grow_of_below {W w' : World} (h : Go.RowKit.Below W.heap.size W w') (hd : W.drawn ≤ w'.drawn) : ∃ q os', w' = grow (W.drewN q) os' := by
  refine ⟨w'.drawn - W.drawn, w'.heap.extract W.heap.size w'.heap.size, ?_⟩
  obtain ⟨h1, h2, h3, h4, h5⟩ := h
  obtain ⟨heap, tape, drawn, os, output⟩ := w'
  simp only at h1 h2 h3 h4 h5 hd
  subst h1 h2 h3
  have heq : heap = W.heap ++ heap.extract W.heap.size heap.size := by
    apply Array.ext_getElem?
    intro i
    rw [Array.getElem?_append]
    by_cases hi : i < W.heap.size
    · rw [if_pos hi]; exact h5 i hi
    · rw [if_neg hi, Array.getElem?_extract]
      by_cases hj : i < heap.size
      · rw [if_pos (by omega)]; congr 1; omega
      · rw [if_neg (by omega), Array.getElem?_eq_none (by omega)]
  have hdr : drawn = W.drawn + (drawn - W.drawn) := by omega
  unfold grow World.drewN
  simp only
  rw [← heq, ← hdr]
theorem cmpLays20 (blk off size : Nat) (w : World) : CmpLays Tryd.prog 20 #[] enc24 5 cmpN blk off size w := by
  intro m os dk _ x y
  obtain ⟨k, hk⟩ := Cmp_ev x y
  exact (note_Cmp.callsD k x.f0 x.f1 x.f2 x.f3 x.f4 y.f0 y.f1 y.f2 y.f3 y.f4 (cmpN x y) _ (hk k (Nat.le_refl _))).mono fun e w' ⟨he, hb, hd⟩ => ⟨he, grow_of_below hb hd⟩
theorem SortFunc_own {w0 w1 : World} {B : Nat} {v : Value} {l : List S24} (hR : Kd.R k24 24 w1 B (fun _ => True) v l) (hB : Go.RowKit.Below B w0 w1) (hl : l.length ≤ 1000) :
    Calls Tryd.prog 49 #[v, .func (.func 20) #[] #[]] w1 fun e w2 => e = .returned (.tuple #[]) ∧ Kd.R k24 24 w2 B (fun _ => True) v (srt l) ∧ Go.RowKit.Below B w0 w2 := by
  obtain ⟨_, inner, ⟨hlen, ho⟩, hr⟩ := hR
  rcases ho with ⟨rfl, hn⟩ | ⟨g, cap, cur, rfl, hg, hh, hc1, hc2, hs, ht⟩
  · obtain rfl : l = [] := List.length_eq_zero_iff.1 hn
    have h := AnyF.slices_SortFunc_none (P := Tryd.prog) Tryd.sortNotes none 0 (.func (.func 20) #[] #[]) w1
    change Calls Tryd.prog 49 _ _ _ at h
    refine h.mono fun e w2 ⟨he, hw⟩ => ⟨he, ?_, by rw [hw]; exact hB⟩
    rw [hw, show srt [] = [] from by unfold srt; exact List.mergeSort_nil]
    exact Kd.R_nil _ _ _ _ _
  · have hin := reps_flat l inner hr
    rw [hin] at ht
    have hsz : k24.sz = 5 := rfl
    rw [hsz] at ht hs
    have hH := holds_own (cap := cap) hh ht
    have hblk : g < w1.heap.size := blk_lt hh
    have eg : ∀ args w, (callFunc 20 args).run Tryd.prog w = .ok (.enter 20 args) w := enters_of Tryd.func20 (by kernel_rfl) rfl
    have h := AnyQ.slices_SortFunc_total (P := Tryd.prog) Tryd.sortNotes 5 Tryd.isAgg24 Tryd.sizeOf24 enc24 len24 one24 cmpN swoN 20 #[] g 0 cap l.toArray w1 eg (cmpLays20 g 0 _ w1) hH hblk (by simp; omega) antiN
    change Calls Tryd.prog 49 _ _ _ at h
    rw [List.size_toArray] at h
    refine h.mono fun e w2 ⟨he, n, os, hw⟩ => ?_
    have hw' : w2 = grow (putRowK enc24 5 (Sort.ahead w1 n) g 0 (srt l).toArray) os := hw
    obtain ⟨cur', hc', hsz'⟩ := heap_putRowK w1 g n (srt l).toArray os hblk hh
    have hH2 : HoldsK enc24 5 (grow (putRowK enc24 5 (Sort.ahead w1 n) g 0 (srt l).toArray) os) g 0 (srt l).toArray :=
      holdsK_grow enc24 5 _ os g 0 _ (by rw [size_putRowK]; exact hblk) (holdsK_putRowK enc24 5 _ g 0 l.toArray _ (holdsK_ahead enc24 5 w1 n g 0 _ hH) (by simp [srt_len]))
    refine ⟨he, ?_, by rw [hw']; exact below_putRowK w0 w1 B g n _ os hg hblk hB⟩
    rw [hw']
    have := own_holds (m := l.length) hc' hg (hsz'.trans hs) hc2 (by simp [srt_len]; omega) hH2 (by simp [srt_len])
    rwa [show (srt l).toArray.toList.take l.length = srt l from by rw [← srt_len l]; simp] at this
theorem Compact_own {w0 w1 : World} {B : Nat} {v : Value} {l : List S24} (hR : Kd.R k24 24 w1 B (fun _ => True) v l) (hB : Go.RowKit.Below B w0 w1) (hl : l.length ≤ 1000) :
    Calls Tryd.prog 50 #[v] w1 fun e w2 => ∃ v', e = .returned v' ∧ Kd.R k24 24 w2 B (fun _ => True) v' (compactUpTo l.toArray l.toArray.size) ∧ Go.RowKit.Below B w0 w2 := by
  obtain ⟨_, inner, ⟨hlen, ho⟩, hr⟩ := hR
  rcases ho with ⟨rfl, hn⟩ | ⟨g, cap, cur, rfl, hg, hh, hc1, hc2, hs, ht⟩
  · obtain rfl : l = [] := List.length_eq_zero_iff.1 hn
    have HB : Aside (Go.RowKit.Below B w0 w1) := hB
    clear hB hr hlen hn
    go_enter Tryd.func50, Tryd.ntmps50
    go_wp2
    go_ret
    exact ⟨_, rfl, Kd.R_nil _ _ _ _ _, HB.out⟩
  · have hin := reps_flat l inner hr
    rw [hin] at ht
    have hsz : k24.sz = 5 := rfl
    rw [hsz] at ht hs
    have hH := holds_own (cap := cap) hh ht
    have hblk : g < w1.heap.size := blk_lt hh
    have h := Compact_arr g 0 cap l.toArray w1 hH (by simp; omega) (by simpa using hc1)
    rw [List.size_toArray] at h ⊢
    have hkl : (compactUpTo l.toArray l.length).length ≤ l.length := by
      unfold compactUpTo
      rw [List.length_map]
      exact Nat.le_trans (List.length_filter_le _ _) (by simp)
    generalize compactUpTo l.toArray l.length = K at h hkl ⊢
    refine h.mono fun e w2 ⟨he, q, hw⟩ => ?_
    have hw' : w2 = grow (putRowK enc24 5 (Sort.ahead w1 q) g 0 (K ++ List.replicate (l.length - K.length) z24).toArray) #[] := by rw [grow_empty]; exact hw
    obtain ⟨cur', hc', hsz'⟩ := heap_putRowK w1 g q (K ++ List.replicate (l.length - K.length) z24).toArray #[] hblk hh
    have hH2 : HoldsK enc24 5 (grow (putRowK enc24 5 (Sort.ahead w1 q) g 0 (K ++ List.replicate (l.length - K.length) z24).toArray) #[]) g 0 (K ++ List.replicate (l.length - K.length) z24).toArray :=
      holdsK_grow enc24 5 _ #[] g 0 _ (by rw [size_putRowK]; exact hblk) (holdsK_putRowK enc24 5 _ g 0 l.toArray _ (holdsK_ahead enc24 5 w1 q g 0 _ hH) (by simp; omega))
    refine ⟨_, he, ?_, by rw [hw']; exact below_putRowK w0 w1 B g q _ _ hg hblk hB⟩
    rw [hw']
    have := own_holds (m := K.length) hc' hg (hsz'.trans hs) hc2 (by simp; omega) hH2 (by simp)
    rwa [show (K ++ List.replicate (l.length - K.length) z24).toArray.toList.take K.length = K from by simp] at this
theorem R_cut {w : World} {B : Nat} {A : Option Addr} {n c m : Nat} {xs : List S24} (h : Kd.R k24 24 w B (fun _ => True) (.slice A n c) xs) (hm : m ≤ xs.length) : Kd.R k24 24 w B (fun _ => True) (.slice A m c) (xs.take m) := by
  obtain ⟨h0, inner, ⟨hlen, ho⟩, hr⟩ := h
  have hl : (xs.take m).length = m := by rw [List.length_take, Nat.min_eq_left hm]
  refine ⟨fun _ _ => trivial, inner.take (m * k24.sz), ⟨by rw [List.length_take, hlen, hl, Nat.min_eq_left (Nat.mul_le_mul_right _ hm)], ?_⟩, ?_⟩
  · rw [hl]
    rcases ho with ⟨e, hn⟩ | ⟨g, cap, cur, e, hg, hh, hc1, hc2, hs, ht⟩
    · injection e with e1 e2 e3
      refine .inl ⟨?_, by omega⟩
      rw [e1, e3, show m = 0 by omega]
    · injection e with e1 e2 e3
      refine .inr ⟨g, cap, cur, by rw [e1, e3], hg, hh, by omega, hc2, hs, ?_⟩
      rw [← ht, List.take_take, Nat.min_eq_left (Nat.mul_le_mul_right _ hm)]
  · refine Kd.reps_take (hr.imp_ (fun p c hp => ?_)) hm
    have := k24_openM hp
    rw [this]; exact k24_mkM _ _ _ _
def note_Sort.f (l0 : List S24) : Option (List S24) := if l0.length ≤ 1000 then some ((kept l0).take 20) else none
attribute [local go_sem] max2_int min2_int max_two min_two max_three min_three max_four min_four
set_option maxHeartbeats 4000000 in
set_option maxRecDepth 100000 in
theorem note_Sort.calls (A0 : Option Addr) (c0 : Nat) (l0 : List S24) (r : List S24) (w : World) (hr0 : Kd.C k24 w A0 l0.length l0) (hc0 : l0.length ≤ c0) (h : note_Sort.f l0 = some r) :
    Calls Tryd.prog 22 #[.slice A0 l0.length c0] w fun e w' => ∃ v0_ : Value, e = .returned v0_ ∧ Kd.R k24 24 w' w.heap.size (fun _ => True) v0_ r ∧ Go.RowKit.Below w.heap.size w w' := by
  unfold note_Sort.f at h
  by_cases hl : l0.length ≤ 1000
  · rw [if_pos hl] at h
    obtain rfl := Option.some.inj h
    have hcl : slices_CloneN.f l0 = some l0 := by
      unfold slices_CloneN.f
      by_cases h0 : (l0.length : Int) = 0
      · rw [if_pos h0, List.length_eq_zero_iff.1 (by omega : l0.length = 0)]
      · rw [if_neg h0, Option.bind_some, if_pos (by simp; omega)]; rfl
    have h1 := slices_CloneN.calls A0 c0 l0 l0 w hr0 hc0 hcl
    have h2 : ∀ v w1, Kd.R k24 24 w1 w.heap.size (fun _ => True) v l0 → Go.RowKit.Below w.heap.size w w1 → Calls Tryd.prog 49 #[v, .func (.func 20) #[] #[]] w1 fun e w2 => e = .returned (.tuple #[]) ∧ Kd.R k24 24 w2 w.heap.size (fun _ => True) v (srt l0) ∧ Go.RowKit.Below w.heap.size w w2 := fun v w1 hR hB => SortFunc_own hR hB hl
    have h3 : ∀ v w1, Kd.R k24 24 w1 w.heap.size (fun _ => True) v (srt l0) → Go.RowKit.Below w.heap.size w w1 → Calls Tryd.prog 50 #[v] w1 fun e w2 => ∃ (A : Option Addr) (c : Nat), e = .returned (.slice A (kept l0).length c) ∧ (kept l0).length ≤ c ∧ Kd.R k24 24 w2 w.heap.size (fun _ => True) (.slice A (kept l0).length c) (kept l0) ∧ Go.RowKit.Below w.heap.size w w2 := fun v w1 hR hB =>
      (Compact_own hR hB (by rw [srt_len]; exact hl)).mono fun e w2 ⟨v', he, hR', hB'⟩ => by
        obtain ⟨A, c, rfl, hle, _⟩ := Kd.R_reads hR'
        exact ⟨A, c, he, hle, hR', hB'⟩
    have hkl := kept_len l0
    have H1 := Aside0.mk h1
    have H2 := Aside0.mk h2
    have H3 := Aside0.mk h3
    clear h1 h2 h3 hr0 hcl
    go_enter Tryd.func22, Tryd.ntmps22
    go_wp2_with (first | (refine callA (some 5) Tryd.func48 #[.slice A0 l0.length c0] ?_; refine H1.out.mono ?_; rintro e w1 ⟨v, rfl, hR, hB⟩; refine ⟨_, rfl, ?_⟩; have HR := Aside0.mk hR; have HB := Aside0.mk hB; clear hR hB) | (refine callA (some 7) Tryd.func49 #[_, .func (.func 20) #[] #[]] ?_; refine (H2.out _ _ HR.out HB.out).mono ?_; rintro e w2 ⟨rfl, hR, hB⟩; refine ⟨_, rfl, ?_⟩; clear HR HB; have HR := Aside0.mk hR; have HB := Aside0.mk hB; clear hR hB) | (refine callA (some 9) Tryd.func50 #[_] ?_; refine (H3.out _ _ HR.out HB.out).mono ?_; rintro e w3 ⟨A, c, rfl, hle, hR, hB⟩; refine ⟨_, rfl, ?_⟩; clear HR HB; have HR := Aside0.mk hR; have HB := Aside0.mk hB; clear hR hB))
    · go_ret
      exact ⟨_, rfl, R_cut HR.out (by omega), HB.out⟩
    · go_ret
      rename_i hle20
      refine ⟨_, rfl, ?_, HB.out⟩
      rw [List.take_of_length_le (by omega)]
      exact HR.out
  · rw [if_neg hl] at h; cases h
end Go.Proofs.YtlamgdibnnmbmaaDoor.PSort
end
