/- Part 23 of the proof of BitsPartsCardSaid: The law BitsParts: for all arguments it returns true; each argument reads behind the call as it read before. Out of the plain theorem of YtfigblfjogpojaaDoorPureBitsParts and the printed contract. -/
import Derived.Test.YtfigblfjogpojaaDoorQBitsParts21
section
namespace Go.Proofs.YtfigblfjogpojaaDoor.PBits
open Go.RowKit Go.Proofs.YtfigblfjogpojaaDoorW.PrintWords Go.Proofs.YtfigblfjogpojaaDoorW.PrintLast Go.Proofs.YtfigblfjogpojaaDoorW.PrintMore Go.Proofs.YtfigblfjogpojaaDoor.Bz
set_option linter.unusedVariables false
set_option linter.unusedSimpArgs false
def sx (w v : Nat) : Nat := if v.testBit (w - 1) then 2 ^ w * (2 ^ (64 - w) - 1) + v else v
theorem sx_bit {w v i : Nat} (h1 : 1 ≤ w) (hw : w ≤ 64) (hv : v < 2 ^ w) (hi : i < 64) : (sx w v).testBit i = if i < w then v.testBit i else v.testBit (w - 1) := by
  unfold sx
  by_cases ht : v.testBit (w - 1) = true
  · rw [if_pos ht, Nat.testBit_two_pow_mul_add _ hv, Nat.testBit_two_pow_sub_one, ht]
    split
    · rfl
    · rw [decide_eq_true_iff]; omega
  · rw [if_neg ht]
    split
    · rfl
    · rw [Bool.not_eq_true] at ht
      rw [ht, bit_out hv (by omega)]
theorem sx_lt {w v : Nat} (hw : w ≤ 64) (hv : v < 2 ^ w) : sx w v < 2 ^ 64 := by
  unfold sx
  split
  · have hp : 2 ^ w * 2 ^ (64 - w) = 2 ^ 64 := by rw [← Nat.pow_add]; congr 1; omega
    have h0 : 0 < 2 ^ (64 - w) := Nat.pos_of_ne_zero (by simp)
    have : 2 ^ w * (2 ^ (64 - w) - 1) = 2 ^ 64 - 2 ^ w := by rw [Nat.mul_sub, hp, Nat.mul_one]
    have : 2 ^ w ≤ 2 ^ 64 := Nat.pow_le_pow_right (by decide) hw
    omega
  · exact lt64 hv hw
theorem wrap_sgn {w v : Nat} (hw : w ≤ 64) (hv : v < 2 ^ w) : IntKind.u64.wrap (sgn w v) = ((sx w v : Nat) : Int) := by
  have h6 := lt64 hv hw
  unfold sgn sx
  split
  · have hp : 2 ^ w * 2 ^ (64 - w) = 2 ^ 64 := by rw [← Nat.pow_add]; congr 1; omega
    have e : 2 ^ w * (2 ^ (64 - w) - 1) = 2 ^ 64 - 2 ^ w := by rw [Nat.mul_sub, hp, Nat.mul_one]
    have h2 : 2 ^ w ≤ 2 ^ 64 := Nat.pow_le_pow_right (by decide) hw
    have hc : ((2 : Int) ^ w) = ((2 ^ w : Nat) : Int) := by push_cast; rfl
    rw [IntKind.wrap_u64, hc, e]
    generalize 2 ^ w = q at *
    omega
  · exact wrap_u64_nat v h6
def reS (wb v x : Nat) (signed : Bool) (i : Nat) : Int := if i < wb then st v x i else if signed then st v x (wb - 1) else 48
theorem Resize_gives {wb v x w : Nat} (b1 : 1 ≤ wb) (b2 : wb ≤ 64) (hv : v < 2 ^ wb) (hx : x < 2 ^ wb) (h1 : 1 ≤ w) (h2 : w ≤ 64) (signed : Bool) :
    ∃ V X, Gives (fun k => bits_Resize.f k (wb : Int) (v : Int) (x : Int) (w : Int) signed) w (reS wb v x signed) V X := by
  have v6 := lt64 hv b2
  have x6 := lt64 hx b2
  have m := msk_lt' h2
  have enter : ∀ r : Int × Int × Int, Ev (fun k => bits_Resize.j0 k (w : Int) signed false (wb : Int) (v : Int) (x : Int)) r → Ev (fun k => bits_Resize.f k (wb : Int) (v : Int) (x : Int) (w : Int) signed) r := by
    intro r hr
    unfold bits_Resize.f
    refine Ev.bind (valid1 v6 x6) ?_
    rw [okB_of b1 b2 hv hx]
    refine Ev.pos rfl (Ev.neg (by omega) ?_)
    rw [decide_eq_false (by omega)]
    exact hr
  have j1 : ∀ p q : Nat, p < 2 ^ 64 → q < 2 ^ 64 → Ev (fun k => bits_Resize.j1 k (w : Int) (p : Int) (q : Int)) ((w : Int), ((p &&& msk w : Nat) : Int), ((q &&& msk w : Nat) : Int)) := by
    intro p q hp hq
    refine Ev.step (fun k => by rw [bits_Resize.j1]) ?_
    refine Ev.bnd (mask_is w) (Ev.bnd (mask_is w) ((Ev.now _).eq ?_))
    rw [and_n _ _ hp (msk_lt w), and_n _ _ hq (msk_lt w)]
  cases signed with
  | true =>
    refine ⟨sx wb v &&& msk w, sx wb x &&& msk w, enter _ ?_, and_lt' m, and_lt' m, ?_⟩
    · refine Ev.step (fun k => by rw [bits_Resize.j0]) (Ev.neg (by decide) (Ev.pos rfl ?_))
      rw [w64 (n := 64 - (wb : Int)) (by omega)]
      refine Ev.pos (by omega) ?_
      rw [sgn_shift b1 b2 hv, sgn_shift b1 b2 hx, wrap_sgn b2 hv, wrap_sgn b2 hx]
      exact j1 _ _ (sx_lt b2 hv) (sx_lt b2 hx)
    · intro i hi
      unfold reS st
      rw [Nat.testBit_and, Nat.testBit_and, bit_msk hi h2, Bool.and_true, Bool.and_true, sx_bit b1 b2 hv (by omega), sx_bit b1 b2 hx (by omega)]
      by_cases h : i < wb
      · simp [h]
      · simp [h]
  | false =>
    refine ⟨v &&& msk w, x &&& msk w, enter _ ?_, and_lt' m, and_lt' m, ?_⟩
    · exact Ev.step (fun k => by rw [bits_Resize.j0]) (Ev.neg (by decide) (Ev.neg (by decide) (j1 v x v6 x6)))
    · intro i hi
      unfold reS st
      rw [Nat.testBit_and, Nat.testBit_and, bit_msk hi h2, Bool.and_true, Bool.and_true]
      by_cases h : i < wb
      · simp [h]
      · simp only [h, if_false]
        rw [bit_out hv (by omega), bit_out hx (by omega)]; rfl
theorem Resize_no {W : Int} {v x : Nat} (hv : v < 2 ^ 64) (hx : x < 2 ^ 64) {w : Int} {signed : Bool} (h : ¬ (okB W v x = true ∧ 1 ≤ w ∧ w ≤ 64)) : Ev (fun k => bits_Resize.f k W (v : Int) (x : Int) w signed) (0, 0, 0) := by
  have key : Ev (fun k => bits_Resize.j0 k w signed true W (v : Int) (x : Int)) (0, 0, 0) := Ev.step (fun k => by rw [bits_Resize.j0]) (Ev.pos rfl (Ev.now _))
  unfold bits_Resize.f
  refine Ev.bind (valid1 hv hx) ?_
  by_cases hb : okB W v x = true
  · rw [hb]
    refine Ev.pos rfl ?_
    by_cases h1 : w < 1
    · exact Ev.pos h1 key
    · refine Ev.neg h1 ?_
      rw [decide_eq_true (show w > 64 by
        rcases Int.lt_or_le 64 w with h4 | h4
        · exact h4
        · exact absurd ⟨hb, by omega, h4⟩ h)]
      exact key
  · rw [Bool.not_eq_true] at hb
    rw [hb]
    exact Ev.neg (by decide) key
def lst (f : Nat → Int) (n : Nat) : List Int := (List.range n).map f
theorem lst_length (f : Nat → Int) (n : Nat) : (lst f n).length = n := by simp [lst]
theorem lst_getD (f : Nat → Int) (n i : Nat) (h : i < n) : (lst f n).getD i 0 = f i := by simp [lst, List.getD_eq_getElem?_getD, h]
theorem lst_succ (f : Nat → Int) (n : Nat) : lst f (n + 1) = lst f n ++ [f n] := by simp [lst, List.range_succ]
theorem lst_congr {f g : Nat → Int} {n : Nat} (h : ∀ i, i < n → f i = g i) : lst f n = lst g n := List.map_congr_left fun i hi => h i (List.mem_range.1 hi)
theorem vs_lst (w v x : Nat) : vs w v x = lst (st v x) w := rfl
theorem Stretched_l0 (wb v x w : Nat) (signed : Bool) (b1 : 1 ≤ wb) (b2 : wb ≤ 65) (h2 : w ≤ 64) (d : Nat) : ∀ i : Nat, i + d = w →
    Ev (fun k => maskref1_Stretched.l0 k (vs wb v x) signed (lst (reS wb v x signed) i) (w : Int) (i : Int)) (lst (reS wb v x signed) w) := by
  induction d with
  | zero =>
    intro i hi
    obtain rfl : i = w := by omega
    exact Ev.step (fun k => by rw [maskref1_Stretched.l0]) (Ev.neg (by omega) (Ev.now _))
  | succ d ih =>
    intro i hi
    have ih := ih (i + 1) (by omega)
    rw [lst_succ] at ih
    have hlen : (lst (reS wb v x signed) i).length < 140737488355328 := by rw [lst_length]; omega
    refine Ev.step (fun k => by rw [maskref1_Stretched.l0]) (Ev.pos (by omega) ?_)
    rw [vs_length, w64 (n := (i : Int) + 1) (by omega), w64 (n := (wb : Int) - 1) (by omega)]
    by_cases h : i < wb
    · refine Ev.pos (by omega) (Ev.pos (by omega) (Ev.pos hlen ?_))
      rw [rd_vs _ _ _ _ h]
      rw [show reS wb v x signed i = st v x i by unfold reS; rw [if_pos h]] at ih
      exact ih
    · refine Ev.neg (by omega) ?_
      cases signed with
      | true =>
        rw [show reS wb v x true i = st v x (wb - 1) by unfold reS; rw [if_neg h]; rfl] at ih
        refine Ev.pos rfl (Ev.pos (by omega) (Ev.pos (by omega) (Ev.pos hlen ?_)))
        rw [show (wb : Int) - 1 = ((wb - 1 : Nat) : Int) by omega, rd_vs _ _ _ _ (by omega)]
        exact ih
      | false =>
        rw [show reS wb v x false i = 48 by unfold reS; rw [if_neg h]; rfl] at ih
        exact Ev.neg (by decide) (Ev.pos hlen ih)
theorem Stretched_ev {wb v x w : Nat} {signed : Bool} (b1 : 1 ≤ wb) (b2 : wb ≤ 65) (h2 : w ≤ 64) : Ev (fun k => maskref1_Stretched.f k (vs wb v x) (w : Int) signed) (lst (reS wb v x signed) w) := by
  unfold maskref1_Stretched.f
  exact Stretched_l0 wb v x w signed b1 b2 h2 w 0 (by omega)
theorem set_lst (f : Nat → Int) (n k : Nat) (c : Int) : (lst f n).set k c = lst (fun i => if i = k then c else f i) n := by
  apply List.ext_getElem
  · simp [lst]
  · intro i h1 h2
    rw [List.getElem_set]
    simp only [lst, List.getElem_map, List.getElem_range]
    by_cases h : k = i
    · subst h; simp
    · rw [if_neg h, if_neg (fun e => h e.symm)]
theorem Placed_l0 (wb v x wp vp xp : Nat) (at_ : Int) (ha : -100 ≤ at_ ∧ at_ ≤ 100) (b2 : wb ≤ 64) (p2 : wp ≤ 64) (d : Nat) : ∀ i : Nat, i + d = wp →
    Ev (fun k => maskref1_Placed.l0 k at_ (lst (putS v x vp xp i at_) wb) (vs wp vp xp) (wp : Int) (i : Int)) (lst (putS v x vp xp wp at_) wb) := by
  induction d with
  | zero =>
    intro i hi
    obtain rfl : i = wp := by omega
    exact Ev.step (fun k => by rw [maskref1_Placed.l0]) (Ev.neg (by omega) (Ev.now _))
  | succ d ih =>
    intro i hi
    have ih := ih (i + 1) (by omega)
    refine Ev.step (fun k => by rw [maskref1_Placed.l0]) (Ev.pos (by omega) (Ev.pos (by omega) (Ev.pos (by rw [vs_length]; omega) ?_)))
    rw [lst_length, rd_vs _ _ _ _ (by omega), w64 (n := at_ + (i : Int)) (by omega), w64 (n := (i : Int) + 1) (by omega)]
    by_cases h1 : at_ + (i : Int) ≥ 0
    · refine Ev.pos h1 ?_
      by_cases h2 : at_ + (i : Int) < (wb : Int)
      · refine Ev.pos h2 (Ev.pos h1 ?_)
        rw [set_lst]
        have e : lst (fun j => if j = (at_ + (i : Int)).toNat then st vp xp i else putS v x vp xp i at_ j) wb = lst (putS v x vp xp (i + 1) at_) wb := by
          refine lst_congr fun j hj => ?_
          unfold putS
          by_cases hj2 : j = (at_ + (i : Int)).toNat
          · rw [if_pos hj2, if_pos (by omega), show ((j : Int) - at_).toNat = i by omega]
          · rw [if_neg hj2]
            by_cases hj3 : at_ ≤ (j : Int) ∧ (j : Int) < at_ + (i : Int)
            · rw [if_pos hj3, if_pos (by omega)]
            · rw [if_neg hj3, if_neg (by omega)]
        rw [e]; exact ih
      · refine Ev.neg h2 ?_
        have e : lst (putS v x vp xp i at_) wb = lst (putS v x vp xp (i + 1) at_) wb := by
          refine lst_congr fun j hj => ?_
          unfold putS
          by_cases hj3 : at_ ≤ (j : Int) ∧ (j : Int) < at_ + (i : Int)
          · rw [if_pos hj3, if_pos (by omega)]
          · rw [if_neg hj3, if_neg (by omega)]
        rw [e]; exact ih
    · refine Ev.neg h1 ?_
      have e : lst (putS v x vp xp i at_) wb = lst (putS v x vp xp (i + 1) at_) wb := by
        refine lst_congr fun j hj => ?_
        unfold putS
        by_cases hj3 : at_ ≤ (j : Int) ∧ (j : Int) < at_ + (i : Int)
        · rw [if_pos hj3, if_pos (by omega)]
        · rw [if_neg hj3, if_neg (by omega)]
      rw [e]; exact ih
theorem Placed_ev {wb v x wp vp xp : Nat} {at_ : Int} (ha : -100 ≤ at_ ∧ at_ ≤ 100) (b2 : wb ≤ 64) (p2 : wp ≤ 64) : Ev (fun k => maskref1_Placed.f k (vs wb v x) at_ (vs wp vp xp)) (lst (putS v x vp xp wp at_) wb) := by
  unfold maskref1_Placed.f
  refine Ev.bnd rfl (Ev.pos (by rw [vs_length, List.length_nil]; omega) ?_)
  have h := Placed_l0 wb v x wp vp xp at_ ha b2 p2 wp 0 (by omega)
  have e : lst (putS v x vp xp 0 at_) wb = [] ++ vs wb v x := by
    rw [List.nil_append, vs_lst]
    refine lst_congr fun j hj => ?_
    unfold putS
    rw [if_neg (by omega)]
  rw [e] at h
  rw [vs_length wp]
  exact h
theorem All_x {w : Nat} (h1 : 1 ≤ w) (h2 : w ≤ 64) : Gives (fun k => bits_All.f k (w : Int) 120) w (fun _ => 120) (msk w) (msk w) := by
  refine ⟨?_, msk_lt' h2, msk_lt' h2, ?_⟩
  · unfold bits_All.f
    refine Ev.neg (by omega) ?_
    rw [decide_eq_false (by omega)]
    refine Ev.step (fun k => by rw [bits_All.j0]) (Ev.neg (by decide) ?_)
    exact Ev.bnd (mask_is w) (Ev.neg (by decide) (Ev.neg (by decide) (Ev.pos rfl (Ev.now _))))
  · intro i hi
    unfold st
    rw [bit_msk hi h2]; rfl
def winS (wb v x : Nat) (at_ : Int) (i : Nat) : Int := if 0 ≤ at_ + (i : Int) ∧ at_ + (i : Int) < wb then st v x (at_ + (i : Int)).toNat else 120
theorem window_l0 {wb v x w : Nat} (b1 : 1 ≤ wb) (b2 : wb ≤ 64) (hv : v < 2 ^ wb) (hx : x < 2 ^ wb) (h1 : 1 ≤ w) (h2 : w ≤ 64) (at_ : Int) (ha : -64 ≤ at_ ∧ at_ ≤ 9223372036854775807) (d : Nat) : ∀ (i V X : Nat), i + d = w → V < 2 ^ w → X < 2 ^ w →
    (∀ j, j < w → st V X j = if j < i then winS wb v x at_ j else 120) →
    ∃ V' X', Gives (fun k => bits_window.l0 k at_ (w : Int) (i : Int) (wb : Int) (v : Int) (x : Int) (w : Int) (V : Int) (X : Int)) w (winS wb v x at_) V' X' := by
  induction d with
  | zero =>
    intro i V X hi hV hX hS
    obtain rfl : i = w := by omega
    exact ⟨V, X, Ev.step (fun k => by rw [bits_window.l0]) (Ev.neg (by omega) (Ev.now _)), hV, hX, fun j hj => by rw [hS j hj, if_pos hj]⟩
  | succ d ih =>
    intro i V X hi hV hX hS
    have skip : winS wb v x at_ i = 120 → ∃ V' X', Gives (fun k => bits_window.l0 k at_ (w : Int) (wrap64 ((i : Int) + 1)) (wb : Int) (v : Int) (x : Int) (w : Int) (V : Int) (X : Int)) w (winS wb v x at_) V' X' := by
      intro h120
      rw [w64 (n := (i : Int) + 1) (by omega)]
      refine ih (i + 1) V X (by omega) hV hX fun j hj => ?_
      rw [hS j hj]
      by_cases h : j < i
      · rw [if_pos h, if_pos (by omega)]
      · rw [if_neg h]
        by_cases h3 : j = i
        · subst h3; rw [if_pos (by omega), h120]
        · rw [if_neg (by omega)]
    by_cases hin : 0 ≤ at_ + (i : Int) ∧ at_ + (i : Int) < wb
    · have hw : wrap64 (at_ + (i : Int)) = at_ + (i : Int) := w64 (by omega)
      obtain ⟨s, hs⟩ := Int.eq_ofNat_of_zero_le hin.1
      have g1 := Slice_gives (at_ := s) (w := 1) b2 hv hx (Nat.le_refl 1) (by omega)
      obtain ⟨V2, X2, g2⟩ := Put_gives h1 h2 hV hX (Nat.le_refl 1) (by omega) g1.v g1.x (i : Int)
      obtain ⟨V', X', g3⟩ := ih (i + 1) V2 X2 (by omega) g2.v g2.x (by
        intro j hj
        rw [g2.st j hj]
        unfold putS
        by_cases h : j = i
        · subst h
          rw [if_pos (by omega), if_pos (by omega), show ((j : Int) - (j : Int)).toNat = 0 by omega, g1.st 0 (by omega)]
          unfold winS
          rw [if_pos hin, hs]; rfl
        · rw [if_neg (by omega), hS j hj]
          by_cases h3 : j < i
          · rw [if_pos h3, if_pos (by omega)]
          · rw [if_neg h3, if_neg (by omega)])
      refine ⟨V', X', ?_, g3.v, g3.x, g3.st⟩
      refine Ev.step (fun k => by rw [bits_window.l0]) (Ev.pos (by omega) ?_)
      rw [hw]
      refine Ev.pos hin.1 ?_
      rw [decide_eq_true hin.2, hs]
      have e1 : Ev (fun k => bits_Slice.f k (wb : Int) (v : Int) (x : Int) (s : Int) 1) (1, ((v >>> s &&& msk 1 : Nat) : Int), ((x >>> s &&& msk 1 : Nat) : Int)) := g1.ev
      have e2 : Ev (fun k => bits_Put.f k (w : Int) (V : Int) (X : Int) (i : Int) 1 ((v >>> s &&& msk 1 : Nat) : Int) ((x >>> s &&& msk 1 : Nat) : Int)) ((w : Int), (V2 : Int), (X2 : Int)) := g2.ev
      refine Ev.step (fun k => by rw [bits_window.j1]) ?_
      refine Ev.pos rfl ?_
      refine Ev.bind e1 ?_
      refine Ev.bind e2 ?_
      rw [w64 (n := (i : Int) + 1) (by omega)]
      exact g3.ev
    · obtain ⟨V', X', g⟩ := skip (by unfold winS; rw [if_neg hin])
      refine ⟨V', X', ?_, g.v, g.x, g.st⟩
      refine Ev.step (fun k => by rw [bits_window.l0]) (Ev.pos (by omega) ?_)
      have j1 : Ev (fun k => bits_window.j1 k at_ (i : Int) (wrap64 (at_ + (i : Int))) (w : Int) (i : Int) false (wb : Int) (v : Int) (x : Int) (w : Int) (V : Int) (X : Int)) ((w : Int), (V' : Int), (X' : Int)) :=
        Ev.step (fun k => by rw [bits_window.j1]) (Ev.neg (by decide) g.ev)
      by_cases h3 : wrap64 (at_ + (i : Int)) ≥ 0
      · refine Ev.pos h3 ?_
        have e : wrap64 (at_ + (i : Int)) = at_ + (i : Int) := by unfold wrap64 at h3 ⊢; omega
        rw [decide_eq_false (show ¬ wrap64 (at_ + (i : Int)) < (wb : Int) by rw [e] at h3 ⊢; omega)]
        exact j1
      · exact Ev.neg h3 j1
theorem window_gives {wb v x w : Nat} (b1 : 1 ≤ wb) (b2 : wb ≤ 64) (hv : v < 2 ^ wb) (hx : x < 2 ^ wb) (h1 : 1 ≤ w) (h2 : w ≤ 64) (at_ : Int) (ha : -64 ≤ at_ ∧ at_ ≤ 9223372036854775807) :
    ∃ V X, Gives (fun k => bits_window.f k (wb : Int) (v : Int) (x : Int) at_ (w : Int)) w (winS wb v x at_) V X := by
  have g := All_x h1 h2
  obtain ⟨V, X, g2⟩ := window_l0 b1 b2 hv hx h1 h2 at_ ha w 0 (msk w) (msk w) (by omega) g.v g.x (fun j hj => by rw [g.st j hj, if_neg (by omega)])
  refine ⟨V, X, ?_, g2.v, g2.x, g2.st⟩
  unfold bits_window.f
  exact Ev.bind g.ev g2.ev
theorem Window_l0 (wb v x w : Nat) (b2 : wb ≤ 64) (h2 : w ≤ 64) (at_ : Int) (ha : -100 ≤ at_ ∧ at_ ≤ 100) (d : Nat) : ∀ i : Nat, i + d = w →
    Ev (fun k => maskref1_Window.l0 k (vs wb v x) at_ (w : Int) (lst (winS wb v x at_) i) (at_ + (i : Int))) (lst (winS wb v x at_) w) := by
  induction d with
  | zero =>
    intro i hi
    obtain rfl : i = w := by omega
    refine Ev.step (fun k => by rw [maskref1_Window.l0]) (Ev.neg ?_ (Ev.now _))
    rw [w64 (by omega)]; omega
  | succ d ih =>
    intro i hi
    have ih := ih (i + 1) (by omega)
    rw [lst_succ, show at_ + ((i + 1 : Nat) : Int) = at_ + (i : Int) + 1 by omega] at ih
    have hlen : (lst (winS wb v x at_) i).length < 140737488355328 := by rw [lst_length]; omega
    refine Ev.step (fun k => by rw [maskref1_Window.l0]) ?_
    rw [w64 (n := at_ + (w : Int)) (by omega), w64 (n := at_ + (i : Int) + 1) (by omega), vs_length]
    refine Ev.pos (by omega) ?_
    by_cases h3 : at_ + (i : Int) ≥ 0
    · refine Ev.pos h3 ?_
      by_cases h4 : at_ + (i : Int) < (wb : Int)
      · refine Ev.pos h4 (Ev.pos h3 (Ev.pos hlen ?_))
        obtain ⟨s, hs⟩ := Int.eq_ofNat_of_zero_le h3
        rw [show winS wb v x at_ i = st v x s by unfold winS; rw [if_pos ⟨h3, h4⟩, hs]; rfl] at ih
        rw [show rd (vs wb v x) (at_ + (i : Int)) = st v x s by rw [hs]; exact rd_vs _ _ _ _ (by omega)]
        exact ih
      · refine Ev.neg h4 (Ev.pos hlen ?_)
        rw [show winS wb v x at_ i = 120 by unfold winS; rw [if_neg (by omega)]] at ih
        exact ih
    · refine Ev.neg h3 (Ev.pos hlen ?_)
      rw [show winS wb v x at_ i = 120 by unfold winS; rw [if_neg (by omega)]] at ih
      exact ih
theorem Window_ev {wb v x w : Nat} {at_ : Int} (b2 : wb ≤ 64) (h2 : w ≤ 64) (ha : -100 ≤ at_ ∧ at_ ≤ 100) : Ev (fun k => maskref1_Window.f k (vs wb v x) at_ (w : Int)) (lst (winS wb v x at_) w) := by
  unfold maskref1_Window.f
  have h := Window_l0 wb v x w b2 h2 at_ ha w 0 (by omega)
  rw [show at_ + ((0 : Nat) : Int) = at_ by omega] at h
  exact h
theorem Offset_ev {w v : Nat} (h1 : 1 ≤ w) (h2 : w ≤ 64) (hv : v < 2 ^ w) (signed : Bool) :
    Ev (fun k => maskref1_Offset.f k (vs w v 0) signed) (if (signed && v.testBit (w - 1)) = true then -((min (2 ^ w - v) 100 : Nat) : Int) else ((min v 100 : Nat) : Int)) := by
  have no : Ev (fun k => maskref1_Offset.j0 k (vs w v 0) false) ((min v 100 : Nat) : Int) :=
    by
      have hc : Ev (fun k => maskref1_Count.f k (vs w v 0) 100) ((min v 100 : Nat) : Int) := Count_ev (lim := 100) hv h2 (by omega)
      refine Ev.step (fun k => by rw [maskref1_Offset.j0]) ?_
      refine Ev.neg (by decide) ?_
      exact Ev.bind hc (Ev.now _)
  unfold maskref1_Offset.f
  cases signed with
  | false => exact Ev.neg (by decide) (no.eq (by simp))
  | true =>
    refine Ev.pos rfl ?_
    rw [vs_length, w64 (n := (w : Int) - 1) (by omega)]
    refine Ev.pos (by omega) (Ev.pos (by omega) ?_)
    rw [show (w : Int) - 1 = ((w - 1 : Nat) : Int) by omega, rd_vs _ _ _ _ (by omega), st_kb]
    cases hb : v.testBit (w - 1) with
    | false => exact (no : Ev (fun k => maskref1_Offset.j0 k (vs w v 0) (kb false == 49)) _).eq (by simp)
    | true =>
      have hpos : 0 < v := Nat.pos_of_ne_zero (by rintro rfl; rw [Nat.zero_testBit] at hb; cases hb)
      have hf := Fill_ev 48 w (show w ≤ 1000 by omega)
      rw [zeros] at hf
      have hm := minus_ev (a := 0) hv (show w ≤ 65 by omega)
      rw [Nat.zero_add] at hm
      have hc : Ev (fun k => maskref1_Count.f k (vs w (2 ^ w - v) 0) 100) ((min (2 ^ w - v) 100 : Nat) : Int) := Count_ev (lim := 100) (show 2 ^ w - v < 2 ^ w by omega) h2 (by omega)
      refine Ev.step (fun k => by rw [maskref1_Offset.j0]) ?_
      refine Ev.pos (by rfl) ?_
      rw [vs_length]
      refine Ev.bind hf (Ev.bind hm (Ev.bind hc ((Ev.now _).eq ?_)))
      rw [w64 (by omega)]; simp
end Go.Proofs.YtfigblfjogpojaaDoor.PBits
end
