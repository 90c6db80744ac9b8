/- Part 28 of the proof of BitsShiftedCardSaid: The law BitsShifted: for all arguments it returns true; each argument reads behind the call as it read before. Out of the plain theorem of YtfigblfjogpojaaDoorPureBitsShifted and the printed contract. -/
import Derived.Test.YtfigblfjogpojaaDoorQBitsShifted25
import Derived.Test.YtfigblfjogpojaaDoorQBitsShifted26
section
namespace Go.Proofs.YtfigblfjogpojaaDoor.PBits
open Go.RowKit Go.Proofs.YtfigblfjogpojaaDoorW.PrintWords Go.Proofs.YtfigblfjogpojaaDoorW.PrintLast Go.Proofs.YtfigblfjogpojaaDoorW.PrintMore Go.Proofs.YtfigblfjogpojaaDoor.Bz
set_option linter.unusedVariables false
set_option linter.unusedSimpArgs false
def movS (w v x k : Nat) (up : Bool) (fill : Int) (i : Nat) : Int := if up then (if k ≤ i then st v x (i - k) else fill) else (if i + k < w then st v x (i + k) else fill)
theorem moved_l0 (w v x k : Nat) (up : Bool) (fill : Int) (hw : w ≤ 64) (hk : k ≤ 64) (d : Nat) : ∀ i : Nat, i + d = w →
    Ev (fun n => maskref1_moved.l0 n (vs w v x) up fill (k : Int) (lst (movS w v x k up fill) i) (w : Int) (i : Int)) (lst (movS w v x k up fill) w) := by
  induction d with
  | zero =>
    intro i hi
    obtain rfl : i = w := by omega
    exact Ev.step (fun k => by rw [maskref1_moved.l0]) (Ev.neg (by omega) (Ev.now _))
  | succ d ih =>
    intro i hi
    have ih := ih (i + 1) (by omega)
    rw [lst_succ] at ih
    have hlen : (lst (movS w v x k up fill) i).length < 140737488355328 := by rw [lst_length]; omega
    have j1 : ∀ f : Int, (if 0 ≤ f ∧ f < w then st v x f.toNat else fill) = movS w v x k up fill i → Ev (fun n => maskref1_moved.j1 n (vs w v x) up fill (k : Int) (lst (movS w v x k up fill) i) f (w : Int) (i : Int)) (lst (movS w v x k up fill) w) := by
      intro f hf
      refine Ev.step (fun k => by rw [maskref1_moved.j1]) ?_
      rw [w64 (n := (i : Int) + 1) (by omega), vs_length]
      by_cases h1 : f ≥ 0
      · refine Ev.pos h1 ?_
        by_cases h2 : f < (w : Int)
        · refine Ev.pos h2 (Ev.pos h1 (Ev.pos hlen ?_))
          obtain ⟨m, rfl⟩ := Int.eq_ofNat_of_zero_le h1
          rw [rd_vs _ _ _ _ (by omega)]
          rw [if_pos ⟨h1, h2⟩, Int.toNat_natCast] at hf
          rw [hf]; exact ih
        · refine Ev.neg h2 (Ev.pos hlen ?_)
          rw [if_neg (by omega)] at hf
          rw [← hf] at ih; exact ih
      · refine Ev.neg h1 (Ev.pos hlen ?_)
        rw [if_neg (by omega)] at hf
        rw [← hf] at ih; exact ih
    refine Ev.step (fun k => by rw [maskref1_moved.l0]) (Ev.pos (by omega) ?_)
    cases up with
    | true =>
      refine Ev.pos rfl ?_
      rw [w64 (n := (i : Int) - (k : Int)) (by omega)]
      refine j1 _ ?_
      unfold movS
      by_cases h : k ≤ i
      · rw [if_pos (by omega), if_pos rfl, if_pos h, show ((i : Int) - (k : Int)).toNat = i - k by omega]
      · rw [if_neg (by omega), if_pos rfl, if_neg h]
    | false =>
      refine Ev.neg (by decide) ?_
      rw [w64 (n := (i : Int) + (k : Int)) (by omega)]
      refine j1 _ ?_
      unfold movS
      by_cases h : i + k < w
      · rw [if_pos (by omega), if_neg (by decide), if_pos h, show ((i : Int) + (k : Int)).toNat = i + k by omega]
      · rw [if_neg (by omega), if_neg (by decide), if_neg h]
theorem moved_ev {w v x wn vn xn : Nat} (up : Bool) (fill : Int) (hw : w ≤ 64) (n2 : wn ≤ 64) (hvn : vn < 2 ^ wn) (hxn : xn < 2 ^ wn) :
    Ev (fun k => maskref1_moved.f k (vs w v x) (vs wn vn xn) up fill) (if xn = 0 then lst (movS w v x (min vn 64) up fill) w else List.replicate w 120) := by
  unfold maskref1_moved.f
  refine Ev.bind (Known_ev hxn n2) ?_
  by_cases h : xn = 0
  · subst h
    rw [if_pos rfl]
    refine Ev.pos (by simp) ?_
    have hc : Ev (fun k => maskref1_Count.f k (vs wn vn 0) 64) ((min vn 64 : Nat) : Int) := Count_ev (lim := 64) hvn n2 (by omega)
    refine Ev.bind hc ?_
    rw [vs_length]
    exact moved_l0 w v x (min vn 64) up fill hw (Nat.min_le_right _ _) w 0 (by omega)
  · rw [if_neg h]
    refine Ev.neg (by simpa using h) ?_
    rw [vs_length]
    exact Ev.bind (Fill_ev 120 w (by omega)) (Ev.now _)
theorem shift_ev {wn vn xn : Nat} (n1 : 1 ≤ wn) (n2 : wn ≤ 64) (hvn : vn < 2 ^ wn) (hxn : xn < 2 ^ wn) : Ev (fun k => bits_shift.f k (wn : Int) (vn : Int) (xn : Int)) (if xn = 0 then ((min vn 64 : Nat) : Int) else 0, decide (xn = 0)) := by
  unfold bits_shift.f
  have hU := Uint_ev (W := (wn : Int)) (lt64 hvn n2) (lt64 hxn n2)
  rw [okB_of n1 n2 hvn hxn, Bool.true_and] at hU
  refine Ev.bind hU ((Ev.now _).eq ?_)
  by_cases h : xn = 0
  · have e : wrap64 (mn (vn : Int) 64) = ((min vn 64 : Nat) : Int) := by
      have := mn_nat vn 64
      rw [show ((64 : Nat) : Int) = 64 from rfl] at this
      rw [this]; exact w64 (by omega)
    simp [h, e]
  · simp [h]; unfold mn; rw [if_neg (by decide)]; exact w64 (by omega)
structure Any2 (w v x wn vn xn : Nat) : Prop where
  b1 : 1 ≤ w
  b2 : w ≤ 64
  v : v < 2 ^ w
  x : x < 2 ^ w
  n1 : 1 ≤ wn
  n2 : wn ≤ 64
  vn : vn < 2 ^ wn
  xn : xn < 2 ^ wn
theorem Any2.valid {w v x wn vn xn : Nat} (h : Any2 w v x wn vn xn) : Ev (fun k => bits_valid.f k ([(⟨(w : Int), (v : Int), (x : Int)⟩ : S24), (⟨(wn : Int), (vn : Int), (xn : Int)⟩ : S24)] : List S24)) true :=
  (valid2 (lt64 h.v h.b2) (lt64 h.x h.b2) (lt64 h.vn h.n2) (lt64 h.xn h.n2)).eq (by rw [okB_of h.b1 h.b2 h.v h.x, okB_of h.n1 h.n2 h.vn h.xn]; rfl)
theorem Shl_gives {w v x wn vn xn : Nat} (h : Any2 w v x wn vn xn) : ∃ V X, Gives (fun k => bits_Shl.f k (w : Int) (v : Int) (x : Int) (wn : Int) (vn : Int) (xn : Int)) w (fun i => if xn = 0 then movS w v x (min vn 64) true 48 i else 120) V X := by
  have v6 := lt64 h.v h.b2
  have x6 := lt64 h.x h.b2
  have hs := shift_ev h.n1 h.n2 h.vn h.xn
  have m := msk_lt' h.b2
  by_cases h0 : xn = 0
  · rw [if_pos h0, decide_eq_true h0] at hs
    generalize hk : min vn 64 = k at hs
    refine ⟨v <<< k % 2 ^ 64 &&& msk w, x <<< k % 2 ^ 64 &&& msk w, ?_, and_lt' m, and_lt' m, ?_⟩
    · unfold bits_Shl.f
      refine Ev.bind h.valid ?_
      refine Ev.pos rfl ?_
      refine Ev.bind hs ?_
      refine Ev.pos rfl ?_
      refine Ev.pos (by simp) ?_
      refine Ev.bnd (mask_is w) (Ev.bnd (mask_is w) ((Ev.now _).eq ?_))
      rw [shl_n, shl_n, and_n _ _ (Nat.mod_lt _ (by decide)) (msk_lt w), and_n _ _ (Nat.mod_lt _ (by decide)) (msk_lt w)]
    · intro i hi
      have h64 : i < 64 := by have := h.b2; omega
      simp only [h0, if_true]
      unfold movS st
      rw [if_pos rfl, Nat.testBit_and, Nat.testBit_and, bit_msk hi h.b2, Bool.and_true, Bool.and_true, testBit_shl, testBit_shl]
      by_cases h1 : k ≤ i
      · simp [h1, h64]
      · simp [h1, stb]
  · rw [if_neg h0, decide_eq_false h0] at hs
    have g := All_x h.b1 h.b2
    refine ⟨msk w, msk w, ?_, g.v, g.x, fun i hi => by rw [g.st i hi, if_neg h0]⟩
    unfold bits_Shl.f
    refine Ev.bind h.valid ?_
    refine Ev.pos rfl ?_
    refine Ev.bind hs ?_
    exact Ev.neg (by decide) (Ev.bind g.ev (Ev.now _))
theorem Shr_gives {w v x wn vn xn : Nat} (h : Any2 w v x wn vn xn) : ∃ V X, Gives (fun k => bits_Shr.f k (w : Int) (v : Int) (x : Int) (wn : Int) (vn : Int) (xn : Int)) w (fun i => if xn = 0 then movS w v x (min vn 64) false 48 i else 120) V X := by
  have v6 := lt64 h.v h.b2
  have x6 := lt64 h.x h.b2
  have hs := shift_ev h.n1 h.n2 h.vn h.xn
  by_cases h0 : xn = 0
  · rw [if_pos h0, decide_eq_true h0] at hs
    generalize hk : min vn 64 = k at hs
    refine ⟨v >>> k, x >>> k, ?_, Nat.lt_of_le_of_lt (Nat.shiftRight_le _ _) h.v, Nat.lt_of_le_of_lt (Nat.shiftRight_le _ _) h.x, ?_⟩
    · unfold bits_Shr.f
      refine Ev.bind h.valid ?_
      refine Ev.pos rfl ?_
      refine Ev.bind hs ?_
      refine Ev.pos rfl ?_
      refine Ev.pos (by simp) ((Ev.now _).eq ?_)
      rw [shr_n _ _ v6, shr_n _ _ x6]
    · intro i hi
      simp only [h0, if_true]
      unfold movS st
      rw [if_neg (by decide), Nat.testBit_shiftRight, Nat.testBit_shiftRight, Nat.add_comm k i]
      by_cases h1 : i + k < w
      · rw [if_pos h1]
      · rw [if_neg h1, bit_out h.v (by omega), bit_out h.x (by omega)]; rfl
  · rw [if_neg h0, decide_eq_false h0] at hs
    have g := All_x h.b1 h.b2
    refine ⟨msk w, msk w, ?_, g.v, g.x, fun i hi => by rw [g.st i hi, if_neg h0]⟩
    unfold bits_Shr.f
    refine Ev.bind h.valid ?_
    refine Ev.pos rfl ?_
    refine Ev.bind hs ?_
    exact Ev.neg (by decide) (Ev.bind g.ev (Ev.now _))
theorem sar_bits (V k : Nat) (hV : V < 2 ^ 64) (hk : k ≤ 64) : ∃ s : Nat, IntKind.u64.wrap (shr .i64 (wrap64 (V : Int)) (k : Int)) = (s : Int) ∧ s < 2 ^ 64 ∧ ∀ i, i < 64 → s.testBit i = V.testBit (if k + i < 64 then k + i else 63) := by
  refine ⟨((BitVec.ofNat 64 V).sshiftRight k).toNat, ?_, BitVec.isLt _, ?_⟩
  · have e1 : wrap64 (V : Int) = (BitVec.ofNat 64 V).toInt := by
      rw [BitVec.toInt_eq_toNat_bmod, BitVec.toNat_ofNat, Nat.mod_eq_of_lt hV]
      unfold wrap64
      rw [Int.bmod_def]
      split <;> omega
    have e2 : shr .i64 (wrap64 (V : Int)) (k : Int) = ((BitVec.ofNat 64 V).sshiftRight k).toInt := by
      rw [BitVec.toInt_sshiftRight, e1, Int.shiftRight_eq_div_pow]
      unfold shr
      rw [Int.toNat_natCast, show IntKind.i64.bits = 64 from rfl, Nat.min_eq_left hk]
      push_cast; rfl
    rw [e2, IntKind.wrap_u64, BitVec.toInt_eq_toNat_bmod]
    have h := BitVec.isLt ((BitVec.ofNat 64 V).sshiftRight k)
    rw [Int.bmod_def]
    split <;> omega
  · intro i hi
    have h := BitVec.getLsbD_sshiftRight (BitVec.ofNat 64 V) k i
    rw [BitVec.getLsbD, BitVec.getLsbD_ofNat, BitVec.msb_eq_getLsbD_last, BitVec.getLsbD_ofNat] at h
    rw [h]
    have : ¬ 64 ≤ i := by omega
    by_cases h1 : k + i < 64
    · simp [h1, this]
    · simp [h1, this]
theorem Sar_gives {w v x wn vn xn : Nat} (h : Any2 w v x wn vn xn) : ∃ V X, Gives (fun k => bits_Sar.f k (w : Int) (v : Int) (x : Int) (wn : Int) (vn : Int) (xn : Int)) w (fun i => if xn = 0 then movS w v x (min vn 64) false (st v x (w - 1)) i else 120) V X := by
  have v6 := lt64 h.v h.b2
  have x6 := lt64 h.x h.b2
  have hs := shift_ev h.n1 h.n2 h.vn h.xn
  have m := msk_lt' h.b2
  by_cases h0 : xn = 0
  · rw [if_pos h0, decide_eq_true h0] at hs
    have hkle : min vn 64 ≤ 64 := Nat.min_le_right _ _
    generalize min vn 64 = k at hs hkle
    obtain ⟨V, X, g⟩ := Resize_gives h.b1 h.b2 h.v h.x (w := 64) (by decide) (Nat.le_refl _) true
    obtain ⟨s, e1, s6, hs1⟩ := sar_bits V k g.v hkle
    obtain ⟨t, e2, t6, ht1⟩ := sar_bits X k g.x hkle
    refine ⟨s &&& msk w, t &&& msk w, ?_, and_lt' m, and_lt' m, ?_⟩
    · have hR : Ev (fun k => bits_Resize.f k (w : Int) (v : Int) (x : Int) 64 true) (64, (V : Int), (X : Int)) := g.ev
      unfold bits_Sar.f
      refine Ev.bind h.valid ?_
      refine Ev.pos rfl ?_
      refine Ev.bind hs ?_
      refine Ev.pos rfl ?_
      refine Ev.bind hR ?_
      refine Ev.pos (by simp) ?_
      refine Ev.bnd (mask_is w) (Ev.bnd (mask_is w) ((Ev.now _).eq ?_))
      rw [e1, e2, and_n _ _ s6 (msk_lt w), and_n _ _ t6 (msk_lt w)]
    · intro i hi
      have hw := h.b2
      have h64 : i < 64 := by omega
      simp only [h0, if_true]
      have e : st (s &&& msk w) (t &&& msk w) i = st V X (if k + i < 64 then k + i else 63) := by
        unfold st
        rw [Nat.testBit_and, Nat.testBit_and, bit_msk hi h.b2, Bool.and_true, Bool.and_true, hs1 i h64, ht1 i h64]
      rw [e, g.st _ (by split <;> omega)]
      unfold movS reS
      simp only [Bool.false_eq_true, if_false, if_true]
      by_cases h1 : i + k < w
      · rw [if_pos (show k + i < 64 by omega), if_pos (by omega), if_pos h1, Nat.add_comm]
      · rw [if_neg h1]
        by_cases h2 : k + i < 64
        · rw [if_pos h2, if_neg (by omega)]
        · rw [if_neg h2]
          by_cases h3 : 63 < w
          · rw [if_pos h3, show w - 1 = 63 by omega]
          · rw [if_neg h3]
  · rw [if_neg h0, decide_eq_false h0] at hs
    have g := All_x h.b1 h.b2
    refine ⟨msk w, msk w, ?_, g.v, g.x, fun i hi => by rw [g.st i hi, if_neg h0]⟩
    unfold bits_Sar.f
    refine Ev.bind h.valid ?_
    refine Ev.pos rfl ?_
    refine Ev.bind hs ?_
    exact Ev.neg (by decide) (Ev.bind g.ev (Ev.now _))
end Go.Proofs.YtfigblfjogpojaaDoor.PBits
end
