/- Part 30 of the proof of BitsPartsCardSaid: The law BitsParts: for all arguments it returns true; each argument reads behind the call as it read before. Out of the plain theorem of YtfigblfjogpojaaDoorPureBitsParts and the printed contract. -/
import Derived.Test.YtfigblfjogpojaaDoorQBitsParts22
import Derived.Test.YtfigblfjogpojaaDoorQBitsParts27
import Derived.Test.YtfigblfjogpojaaDoorQBitsParts28
import Derived.OpenShut
section
namespace Go.Proofs.YtfigblfjogpojaaDoor.PBits
open Go.RowKit Go.Proofs.YtfigblfjogpojaaDoorW.PrintWords Go.Proofs.YtfigblfjogpojaaDoorW.PrintLast Go.Proofs.YtfigblfjogpojaaDoorW.PrintMore Go.Proofs.YtfigblfjogpojaaDoor.Bz
set_option linter.unusedVariables false
set_option linter.unusedSimpArgs false
theorem Part_no {W W' : Int} {v x v' x' : Nat} (hv : v < 2 ^ 64) (hx : x < 2 ^ 64) (hv' : v' < 2 ^ 64) (hx' : x' < 2 ^ 64) {signed : Bool} {w : Int} (h : ¬ ((okB W v x && okB W' v' x') = true ∧ 1 ≤ w ∧ w ≤ 64)) :
    Ev (fun k => bits_Part.f k W (v : Int) (x : Int) W' (v' : Int) (x' : Int) signed w) (0, 0, 0) := by
  have key : Ev (fun k => bits_Part.j0 k signed w true W (v : Int) (x : Int) W' (v' : Int) (x' : Int)) (0, 0, 0) := Ev.step (fun k => by rw [bits_Part.j0]) (Ev.pos rfl (Ev.now _))
  have hal := valid2 hv hx (W := W) (W' := W') hv' hx'
  unfold bits_Part.f
  refine Ev.bind hal ?_
  by_cases hb : (okB W v x && okB W' v' x') = true
  · rw [hb]
    refine Ev.pos rfl ?_
    by_cases h1 : w < 1
    · exact Ev.pos h1 key
    · refine Ev.neg h1 ?_
      rw [decide_eq_true (show w > 64 by
        rcases Int.lt_or_le 64 w with h4 | h4
        · exact h4
        · exact absurd ⟨hb, by omega, h4⟩ h)]
      exact key
  · rw [Bool.not_eq_true] at hb
    rw [hb]
    exact Ev.neg (by decide) key
theorem winS_eq {wb v x w i : Nat} (b2 : wb ≤ 64) (hi : i < w) (h2 : w ≤ 64) {a b : Int} (h : a = b ∨ (a ≤ -64 ∧ b ≤ -64) ∨ (64 ≤ a ∧ 64 ≤ b)) : winS wb v x a i = winS wb v x b i := by
  rcases h with rfl | h | h
  · rfl
  · unfold winS; rw [if_neg (by omega), if_neg (by omega)]
  · unfold winS; rw [if_neg (by omega), if_neg (by omega)]
theorem Part_gives {wb v x wn vn xn w : Nat} (b1 : 1 ≤ wb) (b2 : wb ≤ 64) (hv : v < 2 ^ wb) (hx : x < 2 ^ wb) (n1 : 1 ≤ wn) (n2 : wn ≤ 64) (hvn : vn < 2 ^ wn) (hxn : xn < 2 ^ wn) (h1 : 1 ≤ w) (h2 : w ≤ 64) (signed : Bool) :
    ∃ V X : Nat, Ev (fun k => bits_Part.f k (wb : Int) (v : Int) (x : Int) (wn : Int) (vn : Int) (xn : Int) signed (w : Int)) ((w : Int), (V : Int), (X : Int)) ∧
      (xn ≠ 0 → Ev (fun k => maskref1_B.f k (List.replicate w 120)) ((w : Int), (V : Int), (X : Int))) ∧
      (xn = 0 → ∃ a : Int, (-100 ≤ a ∧ a ≤ 100) ∧ Ev (fun k => maskref1_Offset.f k (vs wn vn xn) signed) a ∧ Ev (fun k => maskref1_B.f k (lst (winS wb v x a) w)) ((w : Int), (V : Int), (X : Int))) := by
  have v6 := lt64 hv b2
  have x6 := lt64 hx b2
  have vn6 := lt64 hvn n2
  have xn6 := lt64 hxn n2
  have hal : Ev (fun k => bits_valid.f k ([(⟨(wb : Int), (v : Int), (x : Int)⟩ : S24), (⟨(wn : Int), (vn : Int), (xn : Int)⟩ : S24)] : List S24)) true := (valid2 v6 x6 vn6 xn6).eq (by rw [okB_of b1 b2 hv hx, okB_of n1 n2 hvn hxn]; rfl)
  have enter : ∀ r : Int × Int × Int, Ev (fun k => bits_Part.j0 k signed (w : Int) false (wb : Int) (v : Int) (x : Int) (wn : Int) (vn : Int) (xn : Int)) r → Ev (fun k => bits_Part.f k (wb : Int) (v : Int) (x : Int) (wn : Int) (vn : Int) (xn : Int) signed (w : Int)) r := by
    intro r hr
    unfold bits_Part.f
    refine Ev.bind hal (Ev.pos rfl (Ev.neg (by omega) ?_))
    rw [decide_eq_false (by omega)]
    exact hr
  have hI := Int_ev (W := (wn : Int)) vn6 xn6
  rw [okB_of n1 n2 hvn hxn, Bool.true_and, Int.toNat_natCast] at hI
  by_cases h0 : xn = 0
  · subst h0
    rw [if_pos (by simp)] at hI
    have hO := Offset_ev n1 n2 hvn signed
    have hs : ∃ a1 : Int, (-64 ≤ a1 ∧ a1 ≤ 9223372036854775807) ∧ (∀ r : Int × Int × Int, Ev (fun k => bits_window.f k (wb : Int) (v : Int) (x : Int) a1 (w : Int)) r → Ev (fun k => bits_Part.f k (wb : Int) (v : Int) (x : Int) (wn : Int) (vn : Int) ((0 : Nat) : Int) signed (w : Int)) r) ∧
        ∃ a2 : Int, (-100 ≤ a2 ∧ a2 ≤ 100) ∧ Ev (fun k => maskref1_Offset.f k (vs wn vn 0) signed) a2 ∧ (a1 = a2 ∨ (a1 ≤ -64 ∧ a2 ≤ -64) ∨ (64 ≤ a1 ∧ 64 ≤ a2)) := by
      have hp : (2 : Int) ^ wn = ((2 ^ wn : Nat) : Int) := by push_cast; rfl
      cases signed with
      | true =>
        rw [Bool.true_and] at hO
        refine ⟨mx (sgn wn vn) (-64), ?_, ?_, _, ?_, hO, ?_⟩
        · unfold mx sgn
          rw [hp, top_bit n1 hvn]
          have hq : 2 ^ wn = 2 * 2 ^ (wn - 1) := by rw [← Nat.pow_succ']; congr 1; omega
          have hle : 2 ^ (wn - 1) ≤ 2 ^ 63 := Nat.pow_le_pow_right (by decide) (by omega)
          generalize 2 ^ (wn - 1) = q at *
          simp only [decide_eq_true_eq]
          split <;> split <;> omega
        · intro r hr
          refine enter r (Ev.step (fun k => by rw [bits_Part.j0]) (Ev.neg (by decide) (Ev.bind hI ?_)))
          exact Ev.pos rfl (Ev.pos rfl (Ev.bind hr (Ev.now _)))
        · split <;> omega
        · unfold mx sgn
          rw [hp]
          split <;> split <;> omega
      | false =>
        rw [Bool.false_and, if_neg (by decide)] at hO
        refine ⟨((min vn 64 : Nat) : Int), by omega, ?_, _, ?_, hO, by omega⟩
        · intro r hr
          refine enter r (Ev.step (fun k => by rw [bits_Part.j0]) (Ev.neg (by decide) (Ev.bind hI ?_)))
          have e : wrap64 (mn (vn : Int) 64) = ((min vn 64 : Nat) : Int) := by
            have := mn_nat vn 64
            rw [show ((64 : Nat) : Int) = 64 from rfl] at this
            rw [this]; exact w64 (by omega)
          rw [e]
          exact Ev.pos rfl (Ev.neg (by decide) (Ev.bind hr (Ev.now _)))
        · omega
    obtain ⟨a1, r1, hP, a2, r2, hO2, hEq⟩ := hs
    obtain ⟨V, X, g⟩ := window_gives b1 b2 hv hx h1 h2 a1 r1
    refine ⟨V, X, hP _ g.ev, fun h => absurd rfl h, fun _ => ⟨a2, r2, hO2, ?_⟩⟩
    exact g.B h1 h2 (lst_length _ _) fun i hi => by rw [lst_getD _ _ _ hi]; exact (winS_eq b2 hi h2 hEq).symm
  · rw [if_neg (by simpa using h0)] at hI
    have g := All_x h1 h2
    refine ⟨msk w, msk w, enter _ (Ev.step (fun k => by rw [bits_Part.j0]) (Ev.neg (by decide) (Ev.bind hI ?_))), fun _ => ?_, fun h => absurd h h0⟩
    · exact Ev.neg (by decide) (Ev.bind g.ev (Ev.now _))
    · exact g.B h1 h2 (by simp) fun i hi => by simp [List.getD_eq_getElem?_getD, hi]
section
variable (W W' : Int) (v x v' x' : Nat) (at_ w : Int) (signed : Bool)
theorem parts_j5 {p1 p2 p3 q1 q2 q3 r1 r2 r3 s1 s2 s3 : Int} (h1 : Ev (fun k => bits_Slice.f k W (v : Int) (x : Int) at_ w) (p1, p2, p3)) (h2 : Ev (fun k => bits_Part.f k W (v : Int) (x : Int) W' (v' : Int) (x' : Int) signed w) (q1, q2, q3))
    (h3 : Ev (fun k => bits_Put.f k W (v : Int) (x : Int) at_ W' (v' : Int) (x' : Int)) (r1, r2, r3)) (h4 : Ev (fun k => bits_Resize.f k W (v : Int) (x : Int) w signed) (s1, s2, s3)) :
    Ev (fun k => masklaw1_BitsParts.j5 k at_ w signed W (v : Int) (x : Int) W' (v' : Int) (x' : Int) p1 p2 p3 q1 q2 q3 r1 r2 r3 s1 s2 s3) true := by
  refine Ev.step (fun k => by rw [masklaw1_BitsParts.j5]) ?_
  refine Ev.bind h1 (Ev.pos (by simp) ?_)
  refine Ev.bind h2 (Ev.pos (by simp) ?_)
  refine Ev.bind h3 (Ev.pos (by simp) ?_)
  exact Ev.bind h4 ((Ev.now _).eq (by simp))
theorem parts_j3 (hv : v < 2 ^ 64) (hx : x < 2 ^ 64) (hv' : v' < 2 ^ 64) (hx' : x' < 2 ^ 64) (hw : -9223372036854775808 ≤ w ∧ w ≤ 9223372036854775807) {p1 p2 p3 r1 r2 r3 : Int} (h1 : Ev (fun k => bits_Slice.f k W (v : Int) (x : Int) at_ w) (p1, p2, p3))
    (h3 : Ev (fun k => bits_Put.f k W (v : Int) (x : Int) at_ W' (v' : Int) (x' : Int)) (r1, r2, r3)) :
    Ev (fun k => masklaw1_BitsParts.j3 k at_ w signed W (v : Int) (x : Int) W' (v' : Int) (x' : Int) p1 p2 p3 0 0 0 r1 r2 r3 0 0 0) true := by
  have no : ¬ (okB W v x = true ∧ 1 ≤ w ∧ w ≤ 64) → Ev (fun k => masklaw1_BitsParts.j4 k at_ w signed false W (v : Int) (x : Int) W' (v' : Int) (x' : Int) p1 p2 p3 0 0 0 r1 r2 r3 0 0 0) true := by
    intro h
    refine Ev.step (fun k => by rw [masklaw1_BitsParts.j4]) (Ev.neg (by decide) ?_)
    refine parts_j5 W W' v x v' x' at_ w signed h1 (Part_no hv hx hv' hx' ?_) h3 (Resize_no hv hx h)
    rintro ⟨ha, hb⟩
    rw [Bool.and_eq_true] at ha
    exact h ⟨ha.1, hb⟩
  refine Ev.step (fun k => by rw [masklaw1_BitsParts.j3]) (Ev.bind (Valid_ev W v x hv hx) ?_)
  by_cases kb : okB W v x = true
  case neg =>
    rw [Bool.not_eq_true] at kb
    rw [kb]
    exact Ev.neg (by decide) (no (by rw [kb]; rintro ⟨h, _⟩; cases h))
  rw [kb]
  refine Ev.pos rfl ?_
  by_cases hw1 : w ≥ 1
  case neg => exact Ev.neg hw1 (no (by omega))
  refine Ev.pos hw1 ?_
  by_cases hw2 : w ≤ 64
  case neg =>
    rw [decide_eq_false hw2]
    exact no (by omega)
  rw [decide_eq_true hw2]
  obtain ⟨wb, rfl, b1, b2, c1, c2⟩ := okB_nat kb
  obtain ⟨n, rfl⟩ := Int.eq_ofNat_of_zero_le (show 0 ≤ w by omega)
  have n1 : 1 ≤ n := by omega
  have n2 : n ≤ 64 := by omega
  obtain ⟨V, X, g⟩ := Resize_gives b1 b2 c1 c2 n1 n2 signed
  have hB := g.B n1 n2 (lst_length (reS wb v x signed) n) fun i hi => lst_getD _ _ _ hi
  refine Ev.step (fun k => by rw [masklaw1_BitsParts.j4]) ?_
  refine Ev.pos rfl ?_
  refine Ev.bind (V_ev hv hx b2) ?_
  refine Ev.bind (Stretched_ev b1 (by omega) n2) ?_
  refine Ev.bind hB ?_
  refine Ev.bind (Valid_ev W' v' x' hv' hx') ?_
  by_cases kn : okB W' v' x' = true
  case neg =>
    rw [Bool.not_eq_true] at kn
    rw [kn]
    exact Ev.neg (by decide) (parts_j5 _ W' v x v' x' at_ _ signed h1 (Part_no hv hx hv' hx' (by rw [kn, Bool.and_false]; rintro ⟨h, _⟩; cases h)) h3 g.ev)
  rw [kn]
  obtain ⟨wn, rfl, m1, m2, d1, d2⟩ := okB_nat kn
  have gx := All_x n1 n2
  have hF : Ev (fun k => maskref1_B.f k (List.replicate n 120)) ((n : Int), ((msk n : Nat) : Int), ((msk n : Nat) : Int)) := gx.B n1 n2 (by simp) fun i hi => by simp [List.getD_eq_getElem?_getD, hi]
  obtain ⟨P, Q, hP, hU, hK⟩ := Part_gives b1 b2 c1 c2 m1 m2 d1 d2 n1 n2 signed
  have gen : ∀ p q r : Int, Ev (fun k => maskref1_B.f k (List.replicate n 120)) (p, q, r) → Ev (fun k => (maskref1_Fill.f k (n : Int) 120).bind fun t => (maskref1_B.f k t)) (p, q, r) := fun p q r h => Ev.bind (Fill_ev 120 n (by omega)) h
  refine Ev.pos rfl ?_
  refine Ev.bind (Fill_ev 120 n (by omega)) ?_
  by_cases h0 : x' = 0
  · obtain ⟨a, ha, hO, hW⟩ := hK h0
    refine Ev.bind hF ?_
    refine Ev.bind (V_ev hv' hx' m2) ?_
    refine Ev.bind (Known_ev d2 m2) ?_
    rw [decide_eq_true h0]
    refine Ev.pos rfl ?_
    refine Ev.bind (V_ev hv hx b2) ?_
    refine Ev.bind (V_ev hv' hx' m2) ?_
    refine Ev.bind hO ?_
    refine Ev.bind (Window_ev b2 n2 ha) ?_
    refine Ev.bind hW ?_
    exact parts_j5 _ _ v x v' x' at_ _ signed h1 hP h3 g.ev
  · refine Ev.bind (hU h0) ?_
    refine Ev.bind (V_ev hv' hx' m2) ?_
    refine Ev.bind (Known_ev d2 m2) ?_
    rw [decide_eq_false h0]
    exact Ev.neg (by decide) (parts_j5 _ _ v x v' x' at_ _ signed h1 hP h3 g.ev)
theorem parts_j1 (hv : v < 2 ^ 64) (hx : x < 2 ^ 64) (hv' : v' < 2 ^ 64) (hx' : x' < 2 ^ 64) (hat : -9223372036854775808 ≤ at_ ∧ at_ ≤ 9223372036854775807) (hw : -9223372036854775808 ≤ w ∧ w ≤ 9223372036854775807) {p1 p2 p3 : Int}
    (h1 : Ev (fun k => bits_Slice.f k W (v : Int) (x : Int) at_ w) (p1, p2, p3)) :
    Ev (fun k => masklaw1_BitsParts.j1 k at_ w signed W (v : Int) (x : Int) W' (v' : Int) (x' : Int) p1 p2 p3 0 0 0 0 0 0 0 0 0) true := by
  have no : (okB W v x && okB W' v' x') = false → Ev (fun k => masklaw1_BitsParts.j2 k at_ w signed false W (v : Int) (x : Int) W' (v' : Int) (x' : Int) p1 p2 p3 0 0 0 0 0 0 0 0 0) true := by
    intro h
    refine Ev.step (fun k => by rw [masklaw1_BitsParts.j2]) (Ev.neg (by decide) ?_)
    exact parts_j3 W W' v x v' x' at_ w signed hv hx hv' hx' hw h1 (Put_no hv hx hv' hx' at_ h)
  refine Ev.step (fun k => by rw [masklaw1_BitsParts.j1]) (Ev.bind (Valid_ev W v x hv hx) ?_)
  by_cases kb : okB W v x = true
  case neg =>
    rw [Bool.not_eq_true] at kb
    rw [kb]
    exact Ev.neg (by decide) (no (by rw [kb]; rfl))
  rw [kb]
  refine Ev.pos rfl (Ev.bind (Valid_ev W' v' x' hv' hx') ?_)
  by_cases kn : okB W' v' x' = true
  case neg =>
    rw [Bool.not_eq_true] at kn
    rw [kn]
    exact no (by rw [kn, Bool.and_false])
  rw [kn]
  obtain ⟨wb, rfl, b1, b2, c1, c2⟩ := okB_nat kb
  obtain ⟨wn, rfl, m1, m2, d1, d2⟩ := okB_nat kn
  obtain ⟨V, X, g⟩ := Put_gives b1 b2 c1 c2 m1 m2 d1 d2 at_
  have hcl : -100 ≤ mx (-100) (mn at_ 100) ∧ mx (-100) (mn at_ 100) ≤ 100 := by unfold mx mn; split <;> split <;> omega
  have hB : Ev (fun k => maskref1_B.f k (lst (putS v x v' x' wn (mx (-100) (mn at_ 100))) wb)) ((wb : Int), (V : Int), (X : Int)) := by
    refine g.B b1 b2 (lst_length _ _) fun i hi => ?_
    rw [lst_getD _ _ _ hi]
    have hc : mx (-100) (mn at_ 100) = at_ ∨ (mx (-100) (mn at_ 100) ≤ -64 ∧ at_ ≤ -64) ∨ (64 ≤ mx (-100) (mn at_ 100) ∧ 64 ≤ at_) := by unfold mx mn; split <;> split <;> omega
    rcases hc with e | h | h
    · rw [e]
    · unfold putS; rw [if_neg (by omega), if_neg (by omega)]
    · unfold putS; rw [if_neg (by omega), if_neg (by omega)]
  refine Ev.step (fun k => by rw [masklaw1_BitsParts.j2]) ?_
  refine Ev.pos rfl ?_
  refine Ev.bind (V_ev hv hx b2) ?_
  refine Ev.bind (V_ev hv' hx' m2) ?_
  refine Ev.bind (Placed_ev hcl b2 m2) ?_
  refine Ev.bind hB ?_
  exact parts_j3 _ _ v x v' x' at_ w signed hv hx hv' hx' hw h1 g.ev
end
theorem parts_core (W W' : Int) (v x v' x' : Nat) (at_ w : Int) (signed : Bool) (hv : v < 2 ^ 64) (hx : x < 2 ^ 64) (hv' : v' < 2 ^ 64) (hx' : x' < 2 ^ 64) (hW : -9223372036854775808 ≤ W ∧ W ≤ 9223372036854775807)
    (hat : -9223372036854775808 ≤ at_ ∧ at_ ≤ 9223372036854775807) (hw : -9223372036854775808 ≤ w ∧ w ≤ 9223372036854775807) :
    Ev (fun k => masklaw1_BitsParts.f k W (v : Int) (x : Int) W' (v' : Int) (x' : Int) at_ w signed) true := by
  have no : ¬ (okB W v x = true ∧ 0 ≤ at_ ∧ 1 ≤ w ∧ at_ + w ≤ W) → Ev (fun k => masklaw1_BitsParts.j0 k at_ w signed false W (v : Int) (x : Int) W' (v' : Int) (x' : Int) 0 0 0 0 0 0 0 0 0 0 0 0) true := by
    intro h
    refine Ev.step (fun k => by rw [masklaw1_BitsParts.j0]) (Ev.neg (by decide) ?_)
    exact parts_j1 W W' v x v' x' at_ w signed hv hx hv' hx' hat hw (Slice_no hv hx hat hw h)
  unfold masklaw1_BitsParts.f
  refine Ev.bind vectors_ev (Ev.pos rfl (Ev.bind (Valid_ev W v x hv hx) ?_))
  by_cases kb : okB W v x = true
  case neg =>
    rw [Bool.not_eq_true] at kb
    rw [kb]
    exact Ev.neg (by decide) (no (by rw [kb]; rintro ⟨h, _⟩; cases h))
  rw [kb]
  have hok := okB_w kb
  refine Ev.pos rfl ?_
  by_cases h1 : at_ ≥ 0
  case neg => exact Ev.neg h1 (no (by omega))
  refine Ev.pos h1 ?_
  by_cases h2 : at_ < W
  case neg => exact Ev.neg h2 (no (by omega))
  refine Ev.pos h2 ?_
  by_cases h3 : w ≥ 1
  case neg => exact Ev.neg h3 (no (by omega))
  refine Ev.pos h3 ?_
  rw [w64 (n := W - at_) (by omega)]
  by_cases h4 : w ≤ W - at_
  case neg =>
    rw [decide_eq_false h4]
    exact no (by omega)
  rw [decide_eq_true h4]
  obtain ⟨wb, rfl, b1, b2, c1, c2⟩ := okB_nat kb
  obtain ⟨a, rfl⟩ := Int.eq_ofNat_of_zero_le (show 0 ≤ at_ by omega)
  obtain ⟨n, rfl⟩ := Int.eq_ofNat_of_zero_le (show 0 ≤ w by omega)
  have g := Slice_gives (at_ := a) (w := n) b2 c1 c2 (by omega) (by omega)
  refine Ev.step (fun k => by rw [masklaw1_BitsParts.j0]) ?_
  refine Ev.pos rfl ?_
  refine Ev.bind (V_ev hv hx b2) ?_
  rw [w64 (n := (a : Int) + (n : Int)) (by omega), vs_length]
  refine Ev.pos (by omega) (Ev.pos (by omega) (Ev.pos (by omega) ?_))
  have e1 : ((a : Int) + (n : Int)).toNat = a + n := by omega
  rw [e1, Int.toNat_natCast]
  refine Ev.bind (g.B (by omega) (by omega) ?_ ?_) ?_
  · rw [List.length_drop, List.length_take, vs_length]; omega
  · intro i hi
    rw [List.getD_eq_getElem?_getD, List.getElem?_drop, List.getElem?_take, if_pos (by omega), ← List.getD_eq_getElem?_getD, vs_getD _ _ _ _ (by omega)]
  · exact parts_j1 _ W' v x v' x' _ _ signed hv hx hv' hx' (by omega) (by omega) g.ev
theorem BitsParts_pure (a0_0 a0_1 a0_2 a1_0 a1_1 a1_2 a2 a3 : Int) (a4 : Bool) (h0 : (Lit.int .i64 a0_0).wf = true) (h1 : (Lit.int .u64 a0_1).wf = true) (h2 : (Lit.int .u64 a0_2).wf = true)
    (_ : (Lit.int .i64 a1_0).wf = true) (h3 : (Lit.int .u64 a1_1).wf = true) (h4 : (Lit.int .u64 a1_2).wf = true) (h5 : (Lit.int .i64 a2).wf = true) (h6 : (Lit.int .i64 a3).wf = true) :
    ∃ k, masklaw1_BitsParts.f k a0_0 a0_1 a0_2 a1_0 a1_1 a1_2 a2 a3 a4 = some true := by
  obtain ⟨v1, rfl, b1⟩ := wf_u64 h1
  obtain ⟨v2, rfl, b2⟩ := wf_u64 h2
  obtain ⟨v3, rfl, b3⟩ := wf_u64 h3
  obtain ⟨v4, rfl, b4⟩ := wf_u64 h4
  exact (parts_core a0_0 a1_0 v1 v2 v3 v4 a2 a3 a4 b1 b2 b3 b4 (bounds_i64 h0) (bounds_i64 h5) (bounds_i64 h6)).rounds
end Go.Proofs.YtfigblfjogpojaaDoor.PBits
end
