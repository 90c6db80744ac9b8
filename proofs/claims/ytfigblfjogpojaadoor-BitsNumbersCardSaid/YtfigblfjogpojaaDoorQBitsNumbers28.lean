/- Part 29 of the proof of BitsNumbersCardSaid: The law BitsNumbers: for all arguments it returns true; each argument reads behind the call as it read before. Out of the plain theorem of YtfigblfjogpojaaDoorPureBitsNumbers and the printed contract. -/
import Derived.Test.YtfigblfjogpojaaDoorQBitsNumbers15
import Derived.Test.YtfigblfjogpojaaDoorQBitsNumbers14
import Derived.Test.YtfigblfjogpojaaDoorQBitsNumbers21
import Derived.Test.YtfigblfjogpojaaDoorQBitsNumbers18
section
namespace Go.Proofs.YtfigblfjogpojaaDoor.PBits
open Go.RowKit Go.Proofs.YtfigblfjogpojaaDoorW.PrintWords Go.Proofs.YtfigblfjogpojaaDoorW.PrintLast Go.Proofs.YtfigblfjogpojaaDoorW.PrintMore
attribute [local go_sem] max2_int min2_int max_two min_two max_three min_three max_four min_four
set_option linter.unusedVariables false
set_option linter.unusedSimpArgs false
def maskref1_One.f (a0 : Int) : Option (List Int) := if a0 = 116 then (some (([49] : List Int))) else (if a0 = 102 then (some (([48] : List Int))) else (some (([120] : List Int))))
set_option maxHeartbeats 8000000 in
set_option maxRecDepth 100000 in
theorem maskref1_One.calls (a0 : Int) (r : List Int) (w : World) (h : maskref1_One.f a0 = some r) :
  Calls Tryd.prog 82 #[.int .u8 a0] w fun e w' => ∃ v0_ : Value, e = .returned (v0_) ∧ Kd.R (Kd.int .u8) 5 w' w.heap.size (fun _ => True) v0_ r ∧ Below w.heap.size w w' := by
 have HB := Aside0.mk (Below.refl w.heap.size w)
 have H := h
 clear h
 unfold maskref1_One.f at H
 replace H := iE H; rcases H with ⟨c2b0, c2b1, H⟩ | ⟨c2, c2b0, c2b1, H⟩
 ·obtain ⟨y753, hy753⟩ : ∃ y_ : List Int, y_ = ([49] : List Int) := ⟨_, rfl⟩
  replace H : (some y753) = some r := by (rw [hy753]; with_reducible exact H)
  have Ny753 := Aside0.mk hy753
  clear hy753
  obtain rfl := Option.some.inj H
  go_enter Tryd.func82, Tryd.ntmps82
  go_wp2_with (((with_reducible refine gate_dst (N := 6) rfl ?_); refine Kd.R_lit (Kd.int .u8) _ 5 ?hg (N := 6) ?hd (xs := ([49] : List Int)) (inner := [.int .u8 49]) (ok := fun _ => True) (okp := fun _ => True) ?hr ?hp (fun _ hk => hk) trivial (Below.refl _ _) (Nat.le_refl _) (by simp) ?_; (case hd => rfl); (case hg => rfl); (case hr => (go_simp; done)); (case hp => exact (Reps.one (show Kd.M (Kd.int .u8) _ _ _ 49 [.int .u8 49] from rfl) (Reps.none _ _))); intro v754 w3 ho4 hb hg_ hnew_; clear hg_ hnew_; (rw [← Ny753.out] at ho4); have HO755 := Aside0.mk (Kd.R_lower ho4 (below_size HB.out)); replace HB := hb1 HB hb; clear hb ho4))
  go_ret
  exact ⟨_, by rfl, by exact HO755.out, by repeat (with_reducible exact HB.out)⟩
 ·replace H := iE H; rcases H with ⟨c5b0, c5b1, H⟩ | ⟨c5, c5b0, c5b1, H⟩
  ·obtain ⟨y756, hy756⟩ : ∃ y_ : List Int, y_ = ([48] : List Int) := ⟨_, rfl⟩
   replace H : (some y756) = some r := by (rw [hy756]; with_reducible exact H)
   have Ny756 := Aside0.mk hy756
   clear hy756
   obtain rfl := Option.some.inj H
   go_enter Tryd.func82, Tryd.ntmps82
   go_wp2_with (((with_reducible refine gate_dst (N := 9) rfl ?_); refine Kd.R_lit (Kd.int .u8) _ 5 ?hg (N := 9) ?hd (xs := ([48] : List Int)) (inner := [.int .u8 48]) (ok := fun _ => True) (okp := fun _ => True) ?hr ?hp (fun _ hk => hk) trivial (Below.refl _ _) (Nat.le_refl _) (by simp) ?_; (case hd => rfl); (case hg => rfl); (case hr => (go_simp; done)); (case hp => exact (Reps.one (show Kd.M (Kd.int .u8) _ _ _ 48 [.int .u8 48] from rfl) (Reps.none _ _))); intro v757 w6 ho7 hb hg_ hnew_; clear hg_ hnew_; (rw [← Ny756.out] at ho7); have HO758 := Aside0.mk (Kd.R_lower ho7 (below_size HB.out)); replace HB := hb1 HB hb; clear hb ho7))
   go_ret
   exact ⟨_, by rfl, by exact HO758.out, by repeat (with_reducible exact HB.out)⟩
  ·obtain ⟨y759, hy759⟩ : ∃ y_ : List Int, y_ = ([120] : List Int) := ⟨_, rfl⟩
   replace H : (some y759) = some r := by (rw [hy759]; with_reducible exact H)
   have Ny759 := Aside0.mk hy759
   clear hy759
   obtain rfl := Option.some.inj H
   go_enter Tryd.func82, Tryd.ntmps82
   go_wp2_with (((with_reducible refine gate_dst (N := 10) rfl ?_); refine Kd.R_lit (Kd.int .u8) _ 5 ?hg (N := 10) ?hd (xs := ([120] : List Int)) (inner := [.int .u8 120]) (ok := fun _ => True) (okp := fun _ => True) ?hr ?hp (fun _ hk => hk) trivial (Below.refl _ _) (Nat.le_refl _) (by simp) ?_; (case hd => rfl); (case hg => rfl); (case hr => (go_simp; done)); (case hp => exact (Reps.one (show Kd.M (Kd.int .u8) _ _ _ 120 [.int .u8 120] from rfl) (Reps.none _ _))); intro v760 w8 ho9 hb hg_ hnew_; clear hg_ hnew_; (rw [← Ny759.out] at ho9); have HO761 := Aside0.mk (Kd.R_lower ho9 (below_size HB.out)); replace HB := hb1 HB hb; clear hb ho9))
   go_ret
   exact ⟨_, by rfl, by exact HO761.out, by repeat (with_reducible exact HB.out)⟩
end Go.Proofs.YtfigblfjogpojaaDoor.PBits
end
section
namespace Go.Proofs.YtfigblfjogpojaaDoor.PBits
open Go.RowKit Go.Proofs.YtfigblfjogpojaaDoorW.PrintWords Go.Proofs.YtfigblfjogpojaaDoorW.PrintLast Go.Proofs.YtfigblfjogpojaaDoorW.PrintMore
attribute [local go_sem] max2_int min2_int max_two min_two max_three min_three max_four min_four
set_option linter.unusedVariables false
set_option linter.unusedSimpArgs false
mutual
def maskref1_Compared.l0 : Nat → List Int → List Int → Int → Int → Int → Option (Int)
 | 0, _, _, _, _, _ => none
 | k + 1, x0, x1, x5, x8, x9 => if x9 < x8 then (if 0 ≤ x9 then (if x9 ≤ (wrap64 (x9 + 1)) then (if (wrap64 (x9 + 1)) ≤ (x0.length : Int) then ((maskref1_Known.f k ((x0.take ((wrap64 (x9 + 1)) : Int).toNat).drop (x9 : Int).toNat)).bind fun t778 => (if t778 = true then (if (wrap64 (x9 + 1)) ≤ (x1.length : Int) then ((maskref1_Known.f k ((x1.take ((wrap64 (x9 + 1)) : Int).toNat).drop (x9 : Int).toNat)).bind fun t780 => (maskref1_Compared.j1 k x0 x1 x5 x9 x8 x9 (!t780))) else (none)) else (maskref1_Compared.j1 k x0 x1 x5 x9 x8 x9 true))) else (none)) else (none)) else (none)) else (some x5)
def maskref1_Compared.j1 : Nat → List Int → List Int → Int → Int → Int → Int → Bool → Option (Int)
 | 0, _, _, _, _, _, _, _ => none
 | k + 1, x0, x1, x5, x6, x8, x9, x27 => if x27 = true then (if x5 = 116 then (maskref1_Compared.l0 k x0 x1 117 x8 (wrap64 (x9 + 1))) else (maskref1_Compared.l0 k x0 x1 x5 x8 (wrap64 (x9 + 1)))) else (if 0 ≤ x6 then (if x6 < (x0.length : Int) then (if x6 < (x1.length : Int) then (if (rd x0 x6) = (rd x1 x6) then (maskref1_Compared.l0 k x0 x1 x5 x8 (wrap64 (x9 + 1))) else (maskref1_Compared.l0 k x0 x1 102 x8 (wrap64 (x9 + 1)))) else (none)) else (none)) else (none))
end
def maskref1_Compared.f (k : Nat) (l0 : List Int) (l1 : List Int) : Option (Int) := maskref1_Compared.l0 k l0 l1 116 (l0.length : Int) 0
set_option maxHeartbeats 8000000 in
set_option maxRecDepth 100000 in
theorem maskref1_Compared.calls (k : Nat) (A0 : Option Addr) (c0 : Nat) (l0 : List Int) (A1 : Option Addr) (c1 : Nat) (l1 : List Int) (r : Int) (w : World) (hr0 : Kd.C (Kd.int .u8) w A0 l0.length l0) (hc0 : l0.length ≤ c0) (hr1 : Kd.C (Kd.int .u8) w A1 l1.length l1) (hc1 : l1.length ≤ c1) (h : maskref1_Compared.f k l0 l1 = some r) :
  Calls Tryd.prog 84 #[.slice A0 l0.length c0, .slice A1 l1.length c1] w fun e w' => e = .returned (.int .u8 r) ∧ Drawn0 w w' := by
 have HR0 := Aside0.mk hr0
 have HC0 := Aside0.mk hc0
 clear hr0 hc0
 have HR1 := Aside0.mk hr1
 have HC1 := Aside0.mk hc1
 clear hr1 hc1
 have H := h
 clear h
 unfold maskref1_Compared.f at H
 have H' := Aside0.mk H
 clear H
 go_enter Tryd.func84, Tryd.ntmps84
 go_wp2
 repeat (go_quiet (fail); try go_wp2)
 go_loopg [5, 9] k (fun kq v5 v9 w' => ∃ (x5_1 : Int) (x9_1 : Int), v5 = .int .u8 x5_1 ∧ v9 = .int .i64 x9_1 ∧ Aside0 (maskref1_Compared.l0 kq l0 l1 x5_1 (l0.length : Int) x9_1 = some r) ∧ Aside0 (kq ≤ k) ∧ Drawn0 w w')
 case atStart => exact ⟨(116), (0), (by first | rfl | (simp; done) | (simp [*]; done)), (by first | rfl | (simp; done) | (simp [*]; done)), H', ⟨Nat.le_refl _⟩, by repeat (first | exact Drawn0.refl _ | apply Drawn0.step)⟩
 case round =>
  clear H'
  (try clear c1); (try clear p2)
  obtain ⟨x5_1, x9_1, rfl, rfl, HA, HK1, ⟨m1, rfl⟩⟩ := hrel
  cases gk with
  | zero => exact absurd HA.out (by simp [maskref1_Compared.l0])
  | succ k1 =>
   have H := HA.out
   clear HA
   simp only [maskref1_Compared.l0] at H
   by_cases c3 : x9_1 < (l0.length : Int)
   ·rw [if_pos c3] at H
    have c3b0 : decide (x9_1 < (l0.length : Int)) = true := decide_eq_true c3
    clear c3
    have HC4 := Aside0.mk H
    clear H
    go_upto_region 5 with (fail)
    repeat (go_quiet (fail); go_upto_region 5 with (fail))
    go_cut [27] (fun v27 wc => ∃ (kq : Nat) (x27_3 : Bool), v27 = .bool x27_3 ∧ Aside0 (maskref1_Compared.j1 kq l0 l1 x5_1 x9_1 (l0.length : Int) x9_1 x27_3 = some r) ∧ Aside0 (kq ≤ k1) ∧ Drawn0 w wc)
    case first =>
     have H := HC4.out
     clear HC4
     by_cases c5 : 0 ≤ x9_1
     ·rw [if_pos c5] at H
      have c5b0 := eq_true c5
      have c5b1 : decide (0 ≤ x9_1) = true := decide_eq_true c5
      clear c5
      by_cases c6 : x9_1 ≤ (wrap64 (x9_1 + 1))
      ·rw [if_pos c6] at H
       have c6b0 := eq_true c6
       have c6b1 : decide (x9_1 ≤ (wrap64 (x9_1 + 1))) = true := decide_eq_true c6
       by_cases c7 : (wrap64 (x9_1 + 1)) ≤ (l0.length : Int)
       ·rw [if_pos c7] at H
        have c7b0 := eq_true c7
        have c7b1 : decide ((wrap64 (x9_1 + 1)) ≤ (l0.length : Int)) = true := decide_eq_true c7
        replace H := bN H; obtain ⟨t778, A8, H⟩ := H
        replace H := iB H; rcases H with ⟨rfl, H⟩ | ⟨rfl, H⟩
        ·have c10b0 := eq_true (of_decide_eq_true (by first | (with_reducible assumption) | assumption) : 0 ≤ x9_1)
         have c11b0 := eq_true (of_decide_eq_true (by first | (with_reducible assumption) | assumption) : x9_1 ≤ (wrap64 (x9_1 + 1)))
         by_cases c12 : (wrap64 (x9_1 + 1)) ≤ (l1.length : Int)
         ·rw [if_pos c12] at H
          have c12b0 := eq_true c12
          have c12b1 : decide ((wrap64 (x9_1 + 1)) ≤ (l1.length : Int)) = true := decide_eq_true c12
          replace H := bN H; obtain ⟨t780, A13, H⟩ := H
          have H' := Aside0.mk H
          clear H
          obtain ⟨i014, hi014, _, hsz14, _⟩ := info_parts info5
          obtain ⟨A14, hcut14, hA14, hC14⟩ := print_mid_of (P := Tryd.prog) (Value.int .u8) 0 43 5 .i64 .i64 Tryd.underlying43 hi014 hsz14 A0 c0 l0 x9_1 (wrap64 (x9_1 + 1)) (of_decide_eq_true (by first | (with_reducible assumption) | assumption)) (by first | omega | exact of_decide_eq_true (by first | (with_reducible assumption) | assumption)) (of_decide_eq_true (by first | (with_reducible assumption) | assumption)) HC0.out
          have HR777 := Aside0.mk (Kd.C_of_reads (h1 := fun _ => rfl) (hA14 _ (Kd.reads_of_C HR0.out)))
          have HC777 := Aside0.mk hC14
          clear hA14 hC14 hi014 hsz14
          go_wp2_with (first | (go_at_call 33; refine calls_of_args (args' := #[.slice A14 ((l0.take ((wrap64 (x9_1 + 1)) : Int).toNat).drop (x9_1 : Int).toNat).length (c0 - x9_1.toNat)]) (by first | (rw [show ((l0.take ((wrap64 (x9_1 + 1)) : Int).toNat).drop (x9_1 : Int).toNat).length = ((wrap64 (x9_1 + 1)).toNat - x9_1.toNat) from (by rw [List.length_drop, List.length_take]; have h_ : ((wrap64 (x9_1 + 1)) : Int) ≤ (l0.length : Int) := of_decide_eq_true (by first | (with_reducible assumption) | assumption); omega)] <;> rfl) | rfl) ?_; (with_reducible refine (maskref1_Known.calls k1 _ _ ((l0.take ((wrap64 (x9_1 + 1)) : Int).toNat).drop (x9_1 : Int).toNat) true _ ?side1 ?side2 A8.out).mono ?_); (case side1 => repeat (first | exact HR777.out | (with_reducible refine Kd.C_alloc ?_ _) | (with_reducible refine Kd.C_drewN ?_ _) | (with_reducible refine Kd.C_drew ?_))); (case side2 => exact HC777.out); rintro e w' ⟨rfl, ⟨nd, rfl⟩⟩; (try first | exact ⟨rfl, _, World.drewN_drewN _ _ _⟩ | exact ⟨rfl, _, Eq.trans (World.drewN_drewN _ _ _) (congrArg (World.drewN _) (Nat.add_assoc _ _ _))⟩); obtain ⟨i015, hi015, _, hsz15, _⟩ := info_parts info5; obtain ⟨A15, hcut15, hA15, hC15⟩ := print_mid_of (P := Tryd.prog) (Value.int .u8) 0 43 5 .i64 .i64 Tryd.underlying43 hi015 hsz15 A1 c1 l1 x9_1 (wrap64 (x9_1 + 1)) (of_decide_eq_true (by first | (with_reducible assumption) | assumption)) (by first | omega | exact of_decide_eq_true (by first | (with_reducible assumption) | assumption)) (of_decide_eq_true (by first | (with_reducible assumption) | assumption)) HC1.out; have HR779 := Aside0.mk (Kd.C_of_reads (h1 := fun _ => rfl) (hA15 _ (Kd.reads_of_C HR1.out))); have HC779 := Aside0.mk hC15; clear hA15 hC15 hi015 hsz15) | (go_at_call 33; refine calls_of_args (args' := #[.slice A15 ((l1.take ((wrap64 (x9_1 + 1)) : Int).toNat).drop (x9_1 : Int).toNat).length (c1 - x9_1.toNat)]) (by first | (rw [show ((l1.take ((wrap64 (x9_1 + 1)) : Int).toNat).drop (x9_1 : Int).toNat).length = ((wrap64 (x9_1 + 1)).toNat - x9_1.toNat) from (by rw [List.length_drop, List.length_take]; have h_ : ((wrap64 (x9_1 + 1)) : Int) ≤ (l1.length : Int) := of_decide_eq_true (by first | (with_reducible assumption) | assumption); omega)] <;> rfl) | rfl) ?_; (with_reducible refine (maskref1_Known.calls k1 _ _ ((l1.take ((wrap64 (x9_1 + 1)) : Int).toNat).drop (x9_1 : Int).toNat) t780 _ ?side1 ?side2 A13.out).mono ?_); (case side1 => repeat (first | exact HR779.out | (with_reducible refine Kd.C_alloc ?_ _) | (with_reducible refine Kd.C_drewN ?_ _) | (with_reducible refine Kd.C_drew ?_))); (case side2 => exact HC779.out); rintro e w' ⟨rfl, ⟨nd, rfl⟩⟩; (try first | exact ⟨rfl, _, World.drewN_drewN _ _ _⟩ | exact ⟨rfl, _, Eq.trans (World.drewN_drewN _ _ _) (congrArg (World.drewN _) (Nat.add_assoc _ _ _))⟩)))
          repeat (go_quiet (first | (go_at_call 33; refine calls_of_args (args' := #[.slice A14 ((l0.take ((wrap64 (x9_1 + 1)) : Int).toNat).drop (x9_1 : Int).toNat).length (c0 - x9_1.toNat)]) (by first | (rw [show ((l0.take ((wrap64 (x9_1 + 1)) : Int).toNat).drop (x9_1 : Int).toNat).length = ((wrap64 (x9_1 + 1)).toNat - x9_1.toNat) from (by rw [List.length_drop, List.length_take]; have h_ : ((wrap64 (x9_1 + 1)) : Int) ≤ (l0.length : Int) := of_decide_eq_true (by first | (with_reducible assumption) | assumption); omega)] <;> rfl) | rfl) ?_; (with_reducible refine (maskref1_Known.calls k1 _ _ ((l0.take ((wrap64 (x9_1 + 1)) : Int).toNat).drop (x9_1 : Int).toNat) true _ ?side1 ?side2 A8.out).mono ?_); (case side1 => repeat (first | exact HR777.out | (with_reducible refine Kd.C_alloc ?_ _) | (with_reducible refine Kd.C_drewN ?_ _) | (with_reducible refine Kd.C_drew ?_))); (case side2 => exact HC777.out); rintro e w' ⟨rfl, ⟨nd, rfl⟩⟩; (try first | exact ⟨rfl, _, World.drewN_drewN _ _ _⟩ | exact ⟨rfl, _, Eq.trans (World.drewN_drewN _ _ _) (congrArg (World.drewN _) (Nat.add_assoc _ _ _))⟩); obtain ⟨i015, hi015, _, hsz15, _⟩ := info_parts info5; obtain ⟨A15, hcut15, hA15, hC15⟩ := print_mid_of (P := Tryd.prog) (Value.int .u8) 0 43 5 .i64 .i64 Tryd.underlying43 hi015 hsz15 A1 c1 l1 x9_1 (wrap64 (x9_1 + 1)) (of_decide_eq_true (by first | (with_reducible assumption) | assumption)) (by first | omega | exact of_decide_eq_true (by first | (with_reducible assumption) | assumption)) (of_decide_eq_true (by first | (with_reducible assumption) | assumption)) HC1.out; have HR779 := Aside0.mk (Kd.C_of_reads (h1 := fun _ => rfl) (hA15 _ (Kd.reads_of_C HR1.out))); have HC779 := Aside0.mk hC15; clear hA15 hC15 hi015 hsz15) | (go_at_call 33; refine calls_of_args (args' := #[.slice A15 ((l1.take ((wrap64 (x9_1 + 1)) : Int).toNat).drop (x9_1 : Int).toNat).length (c1 - x9_1.toNat)]) (by first | (rw [show ((l1.take ((wrap64 (x9_1 + 1)) : Int).toNat).drop (x9_1 : Int).toNat).length = ((wrap64 (x9_1 + 1)).toNat - x9_1.toNat) from (by rw [List.length_drop, List.length_take]; have h_ : ((wrap64 (x9_1 + 1)) : Int) ≤ (l1.length : Int) := of_decide_eq_true (by first | (with_reducible assumption) | assumption); omega)] <;> rfl) | rfl) ?_; (with_reducible refine (maskref1_Known.calls k1 _ _ ((l1.take ((wrap64 (x9_1 + 1)) : Int).toNat).drop (x9_1 : Int).toNat) t780 _ ?side1 ?side2 A13.out).mono ?_); (case side1 => repeat (first | exact HR779.out | (with_reducible refine Kd.C_alloc ?_ _) | (with_reducible refine Kd.C_drewN ?_ _) | (with_reducible refine Kd.C_drew ?_))); (case side2 => exact HC779.out); rintro e w' ⟨rfl, ⟨nd, rfl⟩⟩; (try first | exact ⟨rfl, _, World.drewN_drewN _ _ _⟩ | exact ⟨rfl, _, Eq.trans (World.drewN_drewN _ _ _) (congrArg (World.drewN _) (Nat.add_assoc _ _ _))⟩))); try go_wp2_with (first | (go_at_call 33; refine calls_of_args (args' := #[.slice A14 ((l0.take ((wrap64 (x9_1 + 1)) : Int).toNat).drop (x9_1 : Int).toNat).length (c0 - x9_1.toNat)]) (by first | (rw [show ((l0.take ((wrap64 (x9_1 + 1)) : Int).toNat).drop (x9_1 : Int).toNat).length = ((wrap64 (x9_1 + 1)).toNat - x9_1.toNat) from (by rw [List.length_drop, List.length_take]; have h_ : ((wrap64 (x9_1 + 1)) : Int) ≤ (l0.length : Int) := of_decide_eq_true (by first | (with_reducible assumption) | assumption); omega)] <;> rfl) | rfl) ?_; (with_reducible refine (maskref1_Known.calls k1 _ _ ((l0.take ((wrap64 (x9_1 + 1)) : Int).toNat).drop (x9_1 : Int).toNat) true _ ?side1 ?side2 A8.out).mono ?_); (case side1 => repeat (first | exact HR777.out | (with_reducible refine Kd.C_alloc ?_ _) | (with_reducible refine Kd.C_drewN ?_ _) | (with_reducible refine Kd.C_drew ?_))); (case side2 => exact HC777.out); rintro e w' ⟨rfl, ⟨nd, rfl⟩⟩; (try first | exact ⟨rfl, _, World.drewN_drewN _ _ _⟩ | exact ⟨rfl, _, Eq.trans (World.drewN_drewN _ _ _) (congrArg (World.drewN _) (Nat.add_assoc _ _ _))⟩); obtain ⟨i015, hi015, _, hsz15, _⟩ := info_parts info5; obtain ⟨A15, hcut15, hA15, hC15⟩ := print_mid_of (P := Tryd.prog) (Value.int .u8) 0 43 5 .i64 .i64 Tryd.underlying43 hi015 hsz15 A1 c1 l1 x9_1 (wrap64 (x9_1 + 1)) (of_decide_eq_true (by first | (with_reducible assumption) | assumption)) (by first | omega | exact of_decide_eq_true (by first | (with_reducible assumption) | assumption)) (of_decide_eq_true (by first | (with_reducible assumption) | assumption)) HC1.out; have HR779 := Aside0.mk (Kd.C_of_reads (h1 := fun _ => rfl) (hA15 _ (Kd.reads_of_C HR1.out))); have HC779 := Aside0.mk hC15; clear hA15 hC15 hi015 hsz15) | (go_at_call 33; refine calls_of_args (args' := #[.slice A15 ((l1.take ((wrap64 (x9_1 + 1)) : Int).toNat).drop (x9_1 : Int).toNat).length (c1 - x9_1.toNat)]) (by first | (rw [show ((l1.take ((wrap64 (x9_1 + 1)) : Int).toNat).drop (x9_1 : Int).toNat).length = ((wrap64 (x9_1 + 1)).toNat - x9_1.toNat) from (by rw [List.length_drop, List.length_take]; have h_ : ((wrap64 (x9_1 + 1)) : Int) ≤ (l1.length : Int) := of_decide_eq_true (by first | (with_reducible assumption) | assumption); omega)] <;> rfl) | rfl) ?_; (with_reducible refine (maskref1_Known.calls k1 _ _ ((l1.take ((wrap64 (x9_1 + 1)) : Int).toNat).drop (x9_1 : Int).toNat) t780 _ ?side1 ?side2 A13.out).mono ?_); (case side1 => repeat (first | exact HR779.out | (with_reducible refine Kd.C_alloc ?_ _) | (with_reducible refine Kd.C_drewN ?_ _) | (with_reducible refine Kd.C_drew ?_))); (case side2 => exact HC779.out); rintro e w' ⟨rfl, ⟨nd, rfl⟩⟩; (try first | exact ⟨rfl, _, World.drewN_drewN _ _ _⟩ | exact ⟨rfl, _, Eq.trans (World.drewN_drewN _ _ _) (congrArg (World.drewN _) (Nat.add_assoc _ _ _))⟩))))
          go_meet
          case rel => exact ⟨_, (!t780), (by first | rfl | (simp; done) | (simp [*]; done)), H', ⟨by have := HK1.out; first | omega | exact Nat.le_refl _⟩, by repeat (first | exact Drawn0.refl _ | apply Drawn0.step)⟩
         ·rw [if_neg c12] at H
          exact absurd H (by simp)
        ·have H' := Aside0.mk H
         clear H
         obtain ⟨i016, hi016, _, hsz16, _⟩ := info_parts info5
         obtain ⟨A16, hcut16, hA16, hC16⟩ := print_mid_of (P := Tryd.prog) (Value.int .u8) 0 43 5 .i64 .i64 Tryd.underlying43 hi016 hsz16 A0 c0 l0 x9_1 (wrap64 (x9_1 + 1)) (of_decide_eq_true (by first | (with_reducible assumption) | assumption)) (by first | omega | exact of_decide_eq_true (by first | (with_reducible assumption) | assumption)) (of_decide_eq_true (by first | (with_reducible assumption) | assumption)) HC0.out
         have HR777 := Aside0.mk (Kd.C_of_reads (h1 := fun _ => rfl) (hA16 _ (Kd.reads_of_C HR0.out)))
         have HC777 := Aside0.mk hC16
         clear hA16 hC16 hi016 hsz16
         go_wp2_with (first | (go_at_call 33; refine calls_of_args (args' := #[.slice A16 ((l0.take ((wrap64 (x9_1 + 1)) : Int).toNat).drop (x9_1 : Int).toNat).length (c0 - x9_1.toNat)]) (by first | (rw [show ((l0.take ((wrap64 (x9_1 + 1)) : Int).toNat).drop (x9_1 : Int).toNat).length = ((wrap64 (x9_1 + 1)).toNat - x9_1.toNat) from (by rw [List.length_drop, List.length_take]; have h_ : ((wrap64 (x9_1 + 1)) : Int) ≤ (l0.length : Int) := of_decide_eq_true (by first | (with_reducible assumption) | assumption); omega)] <;> rfl) | rfl) ?_; (with_reducible refine (maskref1_Known.calls k1 _ _ ((l0.take ((wrap64 (x9_1 + 1)) : Int).toNat).drop (x9_1 : Int).toNat) false _ ?side1 ?side2 A8.out).mono ?_); (case side1 => repeat (first | exact HR777.out | (with_reducible refine Kd.C_alloc ?_ _) | (with_reducible refine Kd.C_drewN ?_ _) | (with_reducible refine Kd.C_drew ?_))); (case side2 => exact HC777.out); rintro e w' ⟨rfl, ⟨nd, rfl⟩⟩; (try first | exact ⟨rfl, _, World.drewN_drewN _ _ _⟩ | exact ⟨rfl, _, Eq.trans (World.drewN_drewN _ _ _) (congrArg (World.drewN _) (Nat.add_assoc _ _ _))⟩)))
         repeat (go_quiet (first | (go_at_call 33; refine calls_of_args (args' := #[.slice A16 ((l0.take ((wrap64 (x9_1 + 1)) : Int).toNat).drop (x9_1 : Int).toNat).length (c0 - x9_1.toNat)]) (by first | (rw [show ((l0.take ((wrap64 (x9_1 + 1)) : Int).toNat).drop (x9_1 : Int).toNat).length = ((wrap64 (x9_1 + 1)).toNat - x9_1.toNat) from (by rw [List.length_drop, List.length_take]; have h_ : ((wrap64 (x9_1 + 1)) : Int) ≤ (l0.length : Int) := of_decide_eq_true (by first | (with_reducible assumption) | assumption); omega)] <;> rfl) | rfl) ?_; (with_reducible refine (maskref1_Known.calls k1 _ _ ((l0.take ((wrap64 (x9_1 + 1)) : Int).toNat).drop (x9_1 : Int).toNat) false _ ?side1 ?side2 A8.out).mono ?_); (case side1 => repeat (first | exact HR777.out | (with_reducible refine Kd.C_alloc ?_ _) | (with_reducible refine Kd.C_drewN ?_ _) | (with_reducible refine Kd.C_drew ?_))); (case side2 => exact HC777.out); rintro e w' ⟨rfl, ⟨nd, rfl⟩⟩; (try first | exact ⟨rfl, _, World.drewN_drewN _ _ _⟩ | exact ⟨rfl, _, Eq.trans (World.drewN_drewN _ _ _) (congrArg (World.drewN _) (Nat.add_assoc _ _ _))⟩))); try go_wp2_with (first | (go_at_call 33; refine calls_of_args (args' := #[.slice A16 ((l0.take ((wrap64 (x9_1 + 1)) : Int).toNat).drop (x9_1 : Int).toNat).length (c0 - x9_1.toNat)]) (by first | (rw [show ((l0.take ((wrap64 (x9_1 + 1)) : Int).toNat).drop (x9_1 : Int).toNat).length = ((wrap64 (x9_1 + 1)).toNat - x9_1.toNat) from (by rw [List.length_drop, List.length_take]; have h_ : ((wrap64 (x9_1 + 1)) : Int) ≤ (l0.length : Int) := of_decide_eq_true (by first | (with_reducible assumption) | assumption); omega)] <;> rfl) | rfl) ?_; (with_reducible refine (maskref1_Known.calls k1 _ _ ((l0.take ((wrap64 (x9_1 + 1)) : Int).toNat).drop (x9_1 : Int).toNat) false _ ?side1 ?side2 A8.out).mono ?_); (case side1 => repeat (first | exact HR777.out | (with_reducible refine Kd.C_alloc ?_ _) | (with_reducible refine Kd.C_drewN ?_ _) | (with_reducible refine Kd.C_drew ?_))); (case side2 => exact HC777.out); rintro e w' ⟨rfl, ⟨nd, rfl⟩⟩; (try first | exact ⟨rfl, _, World.drewN_drewN _ _ _⟩ | exact ⟨rfl, _, Eq.trans (World.drewN_drewN _ _ _) (congrArg (World.drewN _) (Nat.add_assoc _ _ _))⟩))))
         go_meet
         case rel => exact ⟨_, (true), (by first | rfl | (simp; done) | (simp [*]; done)), H', ⟨by have := HK1.out; first | omega | exact Nat.le_refl _⟩, by repeat (first | exact Drawn0.refl _ | apply Drawn0.step)⟩
       ·rw [if_neg c7] at H
        exact absurd H (by simp)
      ·rw [if_neg c6] at H
       exact absurd H (by simp)
     ·rw [if_neg c5] at H
      exact absurd H (by simp)
    case rest =>
     clear HC4
     (try clear c1); (try clear p2); (try clear c3); (try clear c3b0); (try clear c5); (try clear c5b0); (try clear c5b1); (try clear c6); (try clear c6b0); (try clear c6b1); (try clear p6); (try clear c7); (try clear c7b0); (try clear c7b1); (try clear c8); (try clear c9); (try clear c10); (try clear c10b0); (try clear c11); (try clear c11b0); (try clear c12); (try clear c12b0); (try clear c12b1); (try clear p2)
     obtain ⟨kq, x27_3, rfl, HA, HJ3, ⟨mc3, rfl⟩⟩ := hcut
     cases kq with
     | zero => exact absurd HA.out (by simp [maskref1_Compared.j1])
     | succ kj3 =>
      have H := HA.out
      clear HA
      simp only [maskref1_Compared.j1] at H
      replace H := iB H; rcases H with ⟨rfl, H⟩ | ⟨rfl, H⟩
      ·replace H := iE H; rcases H with ⟨c18b0, c18b1, H⟩ | ⟨c18, c18b0, c18b1, H⟩
       ·have H' := Aside0.mk H
        clear H
        go_wp2
        repeat (go_quiet (fail); try go_wp2)
        go_roundg kj3
        case measure => have := HK1.out; have := HJ3.out; omega
        case rel => exact ⟨(117), (wrap64 (x9_1 + 1)), (by first | rfl | (simp; done) | (simp [*]; done)), (by first | rfl | (simp; done) | (simp [*]; done)), H', ⟨by have := HK1.out; have := HJ3.out; omega⟩, by repeat (first | exact Drawn0.refl _ | apply Drawn0.step)⟩
       ·have H' := Aside0.mk H
        clear H
        go_wp2
        repeat (go_quiet (fail); try go_wp2)
        go_roundg kj3
        case measure => have := HK1.out; have := HJ3.out; omega
        case rel => exact ⟨(x5_1), (wrap64 (x9_1 + 1)), (by first | rfl | (simp; done) | (simp [*]; done)), (by first | rfl | (simp; done) | (simp [*]; done)), H', ⟨by have := HK1.out; have := HJ3.out; omega⟩, by repeat (first | exact Drawn0.refl _ | apply Drawn0.step)⟩
      ·replace H := iN H; obtain ⟨c19b0, H⟩ := H
       replace H := iN H; obtain ⟨c20b0, H⟩ := H
       replace H := iN H; obtain ⟨c21b0, H⟩ := H
       replace H := iE H; rcases H with ⟨c22b0, c22b1, H⟩ | ⟨c22, c22b0, c22b1, H⟩
       ·have H' := Aside0.mk H
        clear H
        have p781 : 0 ≤ (x9_1 : Int) := of_decide_eq_true (by first | (with_reducible assumption) | assumption)
        have q781 : x9_1 < (l0.length : Int) := of_decide_eq_true (by first | (with_reducible assumption) | assumption)
        obtain ⟨ad781, e781, hx781_0⟩ := Kd.at_int HR0.out x9_1 p781 q781
        cases e781
        replace p781 := eq_true p781
        replace q781 := eq_true q781
        have p782 : 0 ≤ (x9_1 : Int) := of_decide_eq_true (by first | (with_reducible assumption) | assumption)
        have q782 : x9_1 < (l1.length : Int) := of_decide_eq_true (by first | (with_reducible assumption) | assumption)
        obtain ⟨ad782, e782, hx782_0⟩ := Kd.at_int HR1.out x9_1 p782 q782
        cases e782
        replace p782 := eq_true p782
        replace q782 := eq_true q782
        go_wp2
        repeat (go_quiet (fail); try go_wp2)
        go_roundg kj3
        case measure => have := HK1.out; have := HJ3.out; omega
        case rel => exact ⟨(x5_1), (wrap64 (x9_1 + 1)), (by first | rfl | (simp; done) | (simp [*]; done)), (by first | rfl | (simp; done) | (simp [*]; done)), H', ⟨by have := HK1.out; have := HJ3.out; omega⟩, by repeat (first | exact Drawn0.refl _ | apply Drawn0.step)⟩
       ·have H' := Aside0.mk H
        clear H
        have p781 : 0 ≤ (x9_1 : Int) := of_decide_eq_true (by first | (with_reducible assumption) | assumption)
        have q781 : x9_1 < (l0.length : Int) := of_decide_eq_true (by first | (with_reducible assumption) | assumption)
        obtain ⟨ad781, e781, hx781_0⟩ := Kd.at_int HR0.out x9_1 p781 q781
        cases e781
        replace p781 := eq_true p781
        replace q781 := eq_true q781
        have p782 : 0 ≤ (x9_1 : Int) := of_decide_eq_true (by first | (with_reducible assumption) | assumption)
        have q782 : x9_1 < (l1.length : Int) := of_decide_eq_true (by first | (with_reducible assumption) | assumption)
        obtain ⟨ad782, e782, hx782_0⟩ := Kd.at_int HR1.out x9_1 p782 q782
        cases e782
        replace p782 := eq_true p782
        replace q782 := eq_true q782
        go_wp2
        repeat (go_quiet (fail); try go_wp2)
        go_roundg kj3
        case measure => have := HK1.out; have := HJ3.out; omega
        case rel => exact ⟨(102), (wrap64 (x9_1 + 1)), (by first | rfl | (simp; done) | (simp [*]; done)), (by first | rfl | (simp; done) | (simp [*]; done)), H', ⟨by have := HK1.out; have := HJ3.out; omega⟩, by repeat (first | exact Drawn0.refl _ | apply Drawn0.step)⟩
   ·rw [if_neg c3] at H
    have c3b0 : decide (x9_1 < (l0.length : Int)) = false := decide_eq_false c3
    clear c3
    obtain rfl := Option.some.inj H
    go_wp2
    repeat (go_quiet (fail); try go_wp2)
    go_ret
    exact ⟨by first | rfl | (simp; done) | (simp [*]; done), by repeat (first | exact Drawn0.refl _ | apply Drawn0.step)⟩
end Go.Proofs.YtfigblfjogpojaaDoor.PBits
end
section
namespace Go.Proofs.YtfigblfjogpojaaDoor.PBits
open Go.RowKit Go.Proofs.YtfigblfjogpojaaDoorW.PrintWords Go.Proofs.YtfigblfjogpojaaDoorW.PrintLast Go.Proofs.YtfigblfjogpojaaDoorW.PrintMore
attribute [local go_sem] max2_int min2_int max_two min_two max_three min_three max_four min_four
set_option linter.unusedVariables false
set_option linter.unusedSimpArgs false
def maskref1_Opposite.f (a0 : Int) : Option (Int) := if a0 = 116 then (some 102) else (if a0 = 102 then (some 116) else (some 117))
set_option maxHeartbeats 8000000 in
set_option maxRecDepth 100000 in
theorem maskref1_Opposite.calls (a0 : Int) (r : Int) (w : World) (h : maskref1_Opposite.f a0 = some r) :
  Calls Tryd.prog 85 #[.int .u8 a0] w fun e w' => e = .returned (.int .u8 r) ∧ Drawn0 w w' := by
 have H := h
 clear h
 unfold maskref1_Opposite.f at H
 replace H := iE H; rcases H with ⟨c2b0, c2b1, H⟩ | ⟨c2, c2b0, c2b1, H⟩
 ·obtain rfl := Option.some.inj H
  go_enter Tryd.func85, Tryd.ntmps85
  go_wp2
  go_ret
  exact ⟨by rfl, by repeat (exact Drawn0.refl _)⟩
 ·replace H := iE H; rcases H with ⟨c3b0, c3b1, H⟩ | ⟨c3, c3b0, c3b1, H⟩
  ·obtain rfl := Option.some.inj H
   go_enter Tryd.func85, Tryd.ntmps85
   go_wp2
   go_ret
   exact ⟨by rfl, by repeat (exact Drawn0.refl _)⟩
  ·obtain rfl := Option.some.inj H
   go_enter Tryd.func85, Tryd.ntmps85
   go_wp2
   go_ret
   exact ⟨by rfl, by repeat (exact Drawn0.refl _)⟩
end Go.Proofs.YtfigblfjogpojaaDoor.PBits
end
section
namespace Go.Proofs.YtfigblfjogpojaaDoor.PBits
open Go.RowKit Go.Proofs.YtfigblfjogpojaaDoorW.PrintWords Go.Proofs.YtfigblfjogpojaaDoorW.PrintLast Go.Proofs.YtfigblfjogpojaaDoorW.PrintMore
attribute [local go_sem] max2_int min2_int max_two min_two max_three min_three max_four min_four
set_option linter.unusedVariables false
set_option linter.unusedSimpArgs false
def maskref1_truthOf.f (a0 : Bool) : Option (Int) := if a0 = true then (some 116) else (some 102)
set_option maxHeartbeats 8000000 in
set_option maxRecDepth 100000 in
theorem maskref1_truthOf.calls (a0 : Bool) (r : Int) (w : World) (h : maskref1_truthOf.f a0 = some r) :
  Calls Tryd.prog 86 #[.bool a0] w fun e w' => e = .returned (.int .u8 r) ∧ Drawn0 w w' := by
 have H := h
 clear h
 unfold maskref1_truthOf.f at H
 replace H := iB H; rcases H with ⟨rfl, H⟩ | ⟨rfl, H⟩
 ·obtain rfl := Option.some.inj H
  go_enter Tryd.func86, Tryd.ntmps86
  go_wp2
  go_ret
  exact ⟨by rfl, by repeat (exact Drawn0.refl _)⟩
 ·obtain rfl := Option.some.inj H
  go_enter Tryd.func86, Tryd.ntmps86
  go_wp2
  go_ret
  exact ⟨by rfl, by repeat (exact Drawn0.refl _)⟩
end Go.Proofs.YtfigblfjogpojaaDoor.PBits
end
section
namespace Go.Proofs.YtfigblfjogpojaaDoor.PBits
open Go.RowKit Go.Proofs.YtfigblfjogpojaaDoorW.PrintWords Go.Proofs.YtfigblfjogpojaaDoorW.PrintLast Go.Proofs.YtfigblfjogpojaaDoorW.PrintMore
attribute [local go_sem] max2_int min2_int max_two min_two max_three min_three max_four min_four
set_option linter.unusedVariables false
set_option linter.unusedSimpArgs false
def maskref1_same.f (l0 : List Int) (l1 : List Int) : Option (Bool) := some ((strOfNums l0).toList == (strOfNums l1).toList)
set_option maxHeartbeats 8000000 in
set_option maxRecDepth 100000 in
theorem maskref1_same.calls (A0 : Option Addr) (c0 : Nat) (l0 : List Int) (A1 : Option Addr) (c1 : Nat) (l1 : List Int) (r : Bool) (w : World) (hr0 : Kd.C (Kd.int .u8) w A0 l0.length l0) (hc0 : l0.length ≤ c0) (hr1 : Kd.C (Kd.int .u8) w A1 l1.length l1) (hc1 : l1.length ≤ c1) (h : maskref1_same.f l0 l1 = some r) :
  Calls Tryd.prog 87 #[.slice A0 l0.length c0, .slice A1 l1.length c1] w fun e w' => e = .returned (.bool r) ∧ Drawn0 w w' := by
 have HR0 := Aside0.mk hr0
 have HC0 := Aside0.mk hc0
 clear hr0 hc0
 have HR1 := Aside0.mk hr1
 have HC1 := Aside0.mk hc1
 clear hr1 hc1
 have H := h
 clear h
 unfold maskref1_same.f at H
 obtain rfl := Option.some.inj H
 have hcv3 := Kd.C_string (P := Tryd.prog) (A := A0) (c := c0) Tryd.underlying43 Tryd.underlying5 Tryd.underlying9 HR0.out
 have hcv4 := Kd.C_string (P := Tryd.prog) (A := A1) (c := c1) Tryd.underlying43 Tryd.underlying5 Tryd.underlying9 HR1.out
 go_enter Tryd.func87, Tryd.ntmps87
 go_wp2
 go_ret
 exact ⟨by rfl, by repeat (exact Drawn0.refl _)⟩
end Go.Proofs.YtfigblfjogpojaaDoor.PBits
end
section
namespace Go.Proofs.YtfigblfjogpojaaDoor.PBits
open Go.RowKit Go.Proofs.YtfigblfjogpojaaDoorW.PrintWords Go.Proofs.YtfigblfjogpojaaDoorW.PrintLast Go.Proofs.YtfigblfjogpojaaDoorW.PrintMore
attribute [local go_sem] max2_int min2_int max_two min_two max_three min_three max_four min_four
set_option linter.unusedVariables false
set_option linter.unusedSimpArgs false
def maskref1_below.l0 : Nat → List Int → List Int → Bool → Int → Option (Bool)
 | 0, _, _, _, _ => none
 | k + 1, x0, x1, x2, x7 => if x7 ≥ 0 then (if 0 ≤ x7 then (if x7 < (x0.length : Int) then (if x7 < (x1.length : Int) then (if (rd x0 x7) = (rd x1 x7) then (maskref1_below.l0 k x0 x1 x2 (wrap64 (x7 - 1))) else (if x2 = true then (some (((rd x0 x7) == 48) != (x7 == (wrap64 ((x0.length : Int) - 1))))) else (some (((rd x0 x7) == 48) != false)))) else (none)) else (none)) else (none)) else (some false)
def maskref1_below.f (k : Nat) (l0 : List Int) (l1 : List Int) (a2 : Bool) : Option (Bool) := maskref1_below.l0 k l0 l1 a2 (wrap64 ((l0.length : Int) - 1))
set_option maxHeartbeats 8000000 in
set_option maxRecDepth 100000 in
theorem maskref1_below.calls (k : Nat) (A0 : Option Addr) (c0 : Nat) (l0 : List Int) (A1 : Option Addr) (c1 : Nat) (l1 : List Int) (a2 : Bool) (r : Bool) (w : World) (hr0 : Kd.C (Kd.int .u8) w A0 l0.length l0) (hc0 : l0.length ≤ c0) (hr1 : Kd.C (Kd.int .u8) w A1 l1.length l1) (hc1 : l1.length ≤ c1) (h : maskref1_below.f k l0 l1 a2 = some r) :
  Calls Tryd.prog 88 #[.slice A0 l0.length c0, .slice A1 l1.length c1, .bool a2] w fun e w' => e = .returned (.bool r) ∧ Drawn0 w w' := by
 have HR0 := Aside0.mk hr0
 have HC0 := Aside0.mk hc0
 clear hr0 hc0
 have HR1 := Aside0.mk hr1
 have HC1 := Aside0.mk hc1
 clear hr1 hc1
 have H := h
 clear h
 unfold maskref1_below.f at H
 have H' := Aside0.mk H
 clear H
 go_enter Tryd.func88, Tryd.ntmps88
 go_wp2
 go_loopg [7] k (fun kq v7 w' => ∃ (x7_1 : Int), v7 = .int .i64 x7_1 ∧ Aside0 (maskref1_below.l0 kq l0 l1 a2 x7_1 = some r) ∧ Aside0 (kq ≤ k) ∧ Drawn0 w w')
 case atStart => exact ⟨(wrap64 ((l0.length : Int) - 1)), (by rfl), H', ⟨Nat.le_refl _⟩, by repeat (exact Drawn0.refl _)⟩
 case round =>
  clear H'
  obtain ⟨x7_1, rfl, HA, HK1, ⟨m1, rfl⟩⟩ := hrel
  cases gk with
  | zero => exact absurd HA.out (by simp [maskref1_below.l0])
  | succ k1 =>
   have H := HA.out
   clear HA
   simp only [maskref1_below.l0] at H
   replace H := iD H; rcases H with ⟨c4b0, H⟩ | ⟨c4b0, H⟩
   ·replace c4b0 : decide (0 ≤ x7_1) = true := c4b0
    replace H := iN H; obtain ⟨c5b0, H⟩ := H
    replace H := iN H; obtain ⟨c6b0, H⟩ := H
    replace H := iN H; obtain ⟨c7b0, H⟩ := H
    replace H := iE H; rcases H with ⟨c8b0, c8b1, H⟩ | ⟨c8, c8b0, c8b1, H⟩
    ·have H' := Aside0.mk H
     clear H
     have p783 : 0 ≤ (x7_1 : Int) := of_decide_eq_true (by (with_reducible assumption))
     have q783 : x7_1 < (l0.length : Int) := of_decide_eq_true (by (with_reducible assumption))
     obtain ⟨ad783, e783, hx783_0⟩ := Kd.at_int HR0.out x7_1 p783 q783
     cases e783
     replace p783 := eq_true p783
     replace q783 := eq_true q783
     have p784 : 0 ≤ (x7_1 : Int) := of_decide_eq_true (by (with_reducible assumption))
     have q784 : x7_1 < (l1.length : Int) := of_decide_eq_true (by (with_reducible assumption))
     obtain ⟨ad784, e784, hx784_0⟩ := Kd.at_int HR1.out x7_1 p784 q784
     cases e784
     replace p784 := eq_true p784
     replace q784 := eq_true q784
     go_wp2
     repeat (go_quiet (fail); try go_wp2)
     go_roundg k1
     case measure => have := HK1.out; omega
     case rel => exact ⟨(wrap64 (x7_1 - 1)), (by rfl), H', ⟨by have := HK1.out; omega⟩, by repeat (first | exact Drawn0.refl _ | apply Drawn0.step)⟩
    ·replace H := iB H; rcases H with ⟨rfl, H⟩ | ⟨rfl, H⟩
     ·obtain rfl := Option.some.inj H
      have p783 : 0 ≤ (x7_1 : Int) := of_decide_eq_true (by (with_reducible assumption))
      have q783 : x7_1 < (l0.length : Int) := of_decide_eq_true (by (with_reducible assumption))
      obtain ⟨ad783, e783, hx783_0⟩ := Kd.at_int HR0.out x7_1 p783 q783
      cases e783
      replace p783 := eq_true p783
      replace q783 := eq_true q783
      have p784 : 0 ≤ (x7_1 : Int) := of_decide_eq_true (by (with_reducible assumption))
      have q784 : x7_1 < (l1.length : Int) := of_decide_eq_true (by (with_reducible assumption))
      obtain ⟨ad784, e784, hx784_0⟩ := Kd.at_int HR1.out x7_1 p784 q784
      cases e784
      replace p784 := eq_true p784
      replace q784 := eq_true q784
      have p785 : 0 ≤ (x7_1 : Int) := of_decide_eq_true (by (with_reducible assumption))
      have q785 : x7_1 < (l0.length : Int) := of_decide_eq_true (by (with_reducible assumption))
      obtain ⟨ad785, e785, hx785_0⟩ := Kd.at_int HR0.out x7_1 p785 q785
      obtain rfl : ad783 = ad785 := (by injection e785)
      replace p785 := eq_true p785
      replace q785 := eq_true q785
      go_wp2
      repeat (go_quiet (fail); try go_wp2)
      go_ret
      exact ⟨by rfl, by repeat (first | exact Drawn0.refl _ | apply Drawn0.step)⟩
     ·obtain rfl := Option.some.inj H
      have p783 : 0 ≤ (x7_1 : Int) := of_decide_eq_true (by (with_reducible assumption))
      have q783 : x7_1 < (l0.length : Int) := of_decide_eq_true (by (with_reducible assumption))
      obtain ⟨ad783, e783, hx783_0⟩ := Kd.at_int HR0.out x7_1 p783 q783
      cases e783
      replace p783 := eq_true p783
      replace q783 := eq_true q783
      have p784 : 0 ≤ (x7_1 : Int) := of_decide_eq_true (by (with_reducible assumption))
      have q784 : x7_1 < (l1.length : Int) := of_decide_eq_true (by (with_reducible assumption))
      obtain ⟨ad784, e784, hx784_0⟩ := Kd.at_int HR1.out x7_1 p784 q784
      cases e784
      replace p784 := eq_true p784
      replace q784 := eq_true q784
      have p786 : 0 ≤ (x7_1 : Int) := of_decide_eq_true (by (with_reducible assumption))
      have q786 : x7_1 < (l0.length : Int) := of_decide_eq_true (by (with_reducible assumption))
      obtain ⟨ad786, e786, hx786_0⟩ := Kd.at_int HR0.out x7_1 p786 q786
      obtain rfl : ad783 = ad786 := (by injection e786)
      replace p786 := eq_true p786
      replace q786 := eq_true q786
      go_wp2
      repeat (go_quiet (fail); try go_wp2)
      go_ret
      exact ⟨by (simp; done), by repeat (first | exact Drawn0.refl _ | apply Drawn0.step)⟩
   ·replace c4b0 : decide (0 ≤ x7_1) = false := c4b0
    obtain rfl := Option.some.inj H
    go_wp2
    go_ret
    exact ⟨by rfl, by repeat (first | exact Drawn0.refl _ | apply Drawn0.step)⟩
end Go.Proofs.YtfigblfjogpojaaDoor.PBits
end
section
namespace Go.Proofs.YtfigblfjogpojaaDoor.PBits
open Go.RowKit Go.Proofs.YtfigblfjogpojaaDoorW.PrintWords Go.Proofs.YtfigblfjogpojaaDoorW.PrintLast Go.Proofs.YtfigblfjogpojaaDoorW.PrintMore
attribute [local go_sem] max2_int min2_int max_two min_two max_three min_three max_four min_four
set_option linter.unusedVariables false
set_option linter.unusedSimpArgs false
def bits_truth.f (a0 : Int) : Option (Int × Int × Int) := if a0 < 0 then (some (1, 1, 1)) else (some (1, IntKind.u64.wrap (a0), 0))
set_option maxHeartbeats 8000000 in
set_option maxRecDepth 100000 in
theorem bits_truth.calls (a0 : Int) (r1 : Int) (r2 : Int) (r3 : Int) (w : World) (h : bits_truth.f a0 = some (r1, r2, r3)) :
  Calls Tryd.prog 112 #[.int .i64 a0] w fun e w' => e = .returned (.agg #[.int .i64 r1, .int .u64 r2, .int .u64 r3]) ∧ Below w.heap.size w w' := by
 have hu24 := Tryd.underlying24
 have HB := Aside0.mk (Below.refl w.heap.size w)
 have H := h
 clear h
 unfold bits_truth.f at H
 replace H := iD H; rcases H with ⟨c2b0, H⟩ | ⟨c2b0, H⟩
 ·replace H := s3 H; obtain ⟨rfl, rfl, rfl⟩ := H
  go_enter Tryd.func112, Tryd.ntmps112
  go_wp2_with ((refine boxA HB 2 #[.int .i64 0, .int .u64 0, .int .u64 0] 24 ?_; clear HB; intro gb1027 w3 BK1027 GE1027 hg hb HB; clear hb hg; obtain ⟨hcz4_0, hcz4_1, hcz4_2, hfz4_0, hfz4_1, hfz4_2⟩ := cf3 BK1027))
  refine retA gb1027 24 #[.int .i64 1, .int .u64 1, .int .u64 1] (put3 BK1027) Tryd.underlying24 ?_
  exact ⟨by rfl, by repeat (with_reducible first | exact HB.out | refine below_set ?_ GE1027.out)⟩
 ·replace H := s3 H; obtain ⟨rfl, rfl, rfl⟩ := H
  go_enter Tryd.func112, Tryd.ntmps112
  go_wp2_with ((refine boxA HB 2 #[.int .i64 0, .int .u64 0, .int .u64 0] 24 ?_; clear HB; intro gb1027 w5 BK1027 GE1027 hg hb HB; clear hb hg; obtain ⟨hcz6_0, hcz6_1, hcz6_2, hfz6_0, hfz6_1, hfz6_2⟩ := cf3 BK1027))
  refine retA gb1027 24 #[.int .i64 1, .int .u64 (IntKind.u64.wrap (a0)), .int .u64 0] (put3 BK1027) Tryd.underlying24 ?_
  exact ⟨by rfl, by repeat (with_reducible first | exact HB.out | refine below_set ?_ GE1027.out)⟩
end Go.Proofs.YtfigblfjogpojaaDoor.PBits
end
section
namespace Go.Proofs.YtfigblfjogpojaaDoor.PBits
open Go.RowKit Go.Proofs.YtfigblfjogpojaaDoorW.PrintWords Go.Proofs.YtfigblfjogpojaaDoorW.PrintLast Go.Proofs.YtfigblfjogpojaaDoorW.PrintMore
attribute [local go_sem] max2_int min2_int max_two min_two max_three min_three max_four min_four
set_option linter.unusedVariables false
set_option linter.unusedSimpArgs false
@[go_sem] theorem sq_max114 : (if IntKind.u64.signed = true then (-1 : Int) else IntKind.u64.max) = 18446744073709551615 := rfl
def bits_equal.f (a0_0 : Int) (a0_1 : Int) (a0_2 : Int) (a1_0 : Int) (a1_1 : Int) (a1_2 : Int) : Option (Int) := if (Go.bits .and .u64 (Go.bits .xor .u64 a0_1 a1_1) (Go.bits .xor .u64 18446744073709551615 (Go.bits .or .u64 a0_2 a1_2))) = 0 then (if (Go.bits .or .u64 a0_2 a1_2) = 0 then (some 1) else (some (-1))) else (some 0)
set_option maxHeartbeats 8000000 in
set_option maxRecDepth 100000 in
theorem bits_equal.calls (a0_0 : Int) (a0_1 : Int) (a0_2 : Int) (a1_0 : Int) (a1_1 : Int) (a1_2 : Int) (r : Int) (w : World) (h : bits_equal.f a0_0 a0_1 a0_2 a1_0 a1_1 a1_2 = some r) :
  Calls Tryd.prog 114 #[.agg #[.int .i64 a0_0, .int .u64 a0_1, .int .u64 a0_2], .agg #[.int .i64 a1_0, .int .u64 a1_1, .int .u64 a1_2]] w fun e w' => e = .returned (.int .i64 r) ∧ Below w.heap.size w w' := by
 have hu24 := Tryd.underlying24
 have HB := Aside0.mk (Below.refl w.heap.size w)
 have H := h
 clear h
 unfold bits_equal.f at H
 replace H := iE H; rcases H with ⟨c3b0, c3b1, H⟩ | ⟨c3, c3b0, c3b1, H⟩
 ·replace H := iE H; rcases H with ⟨c4b0, c4b1, H⟩ | ⟨c4, c4b0, c4b1, H⟩
  ·obtain rfl := Option.some.inj H
   go_enter Tryd.func114, Tryd.ntmps114
   go_wp2_with (first | (refine boxA HB 2 #[.int .i64 a0_0, .int .u64 a0_1, .int .u64 a0_2] 24 ?_; clear HB; intro gb1105 w5 BK1105 GE1105 hg hb HB; clear hb hg) | (refine boxA HB 3 #[.int .i64 a1_0, .int .u64 a1_1, .int .u64 a1_2] 24 ?_; clear HB; intro gb1106 w6 BK1106 GE1106 hg hb HB; have NB1105_1106 := nbA BK1105 hg; have NB1106_1105 := nbB BK1105 hg; replace BK1105 := bk1 BK1105 hb; clear hb hg; have hnb7 := NB1105_1106.out; have hnc7 := NB1106_1105.out; obtain ⟨hcz8_0, hcz8_1, hcz8_2, hfz8_0, hfz8_1, hfz8_2⟩ := cf3 BK1105; obtain ⟨hcz9_0, hcz9_1, hcz9_2, hfz9_0, hfz9_1, hfz9_2⟩ := cf3 BK1106))
   go_ret
   exact ⟨by rfl, by repeat (with_reducible exact HB.out)⟩
  ·obtain rfl := Option.some.inj H
   go_enter Tryd.func114, Tryd.ntmps114
   go_wp2_with (first | (refine boxA HB 2 #[.int .i64 a0_0, .int .u64 a0_1, .int .u64 a0_2] 24 ?_; clear HB; intro gb1105 w10 BK1105 GE1105 hg hb HB; clear hb hg) | (refine boxA HB 3 #[.int .i64 a1_0, .int .u64 a1_1, .int .u64 a1_2] 24 ?_; clear HB; intro gb1106 w11 BK1106 GE1106 hg hb HB; have NB1105_1106 := nbA BK1105 hg; have NB1106_1105 := nbB BK1105 hg; replace BK1105 := bk1 BK1105 hb; clear hb hg; have hnb12 := NB1105_1106.out; have hnc12 := NB1106_1105.out; obtain ⟨hcz13_0, hcz13_1, hcz13_2, hfz13_0, hfz13_1, hfz13_2⟩ := cf3 BK1105; obtain ⟨hcz14_0, hcz14_1, hcz14_2, hfz14_0, hfz14_1, hfz14_2⟩ := cf3 BK1106))
   go_ret
   exact ⟨by rfl, by repeat (with_reducible exact HB.out)⟩
 ·obtain rfl := Option.some.inj H
  go_enter Tryd.func114, Tryd.ntmps114
  go_wp2_with (first | (refine boxA HB 2 #[.int .i64 a0_0, .int .u64 a0_1, .int .u64 a0_2] 24 ?_; clear HB; intro gb1105 w15 BK1105 GE1105 hg hb HB; clear hb hg) | (refine boxA HB 3 #[.int .i64 a1_0, .int .u64 a1_1, .int .u64 a1_2] 24 ?_; clear HB; intro gb1106 w16 BK1106 GE1106 hg hb HB; have NB1105_1106 := nbA BK1105 hg; have NB1106_1105 := nbB BK1105 hg; replace BK1105 := bk1 BK1105 hb; clear hb hg; have hnb17 := NB1105_1106.out; have hnc17 := NB1106_1105.out; obtain ⟨hcz18_0, hcz18_1, hcz18_2, hfz18_0, hfz18_1, hfz18_2⟩ := cf3 BK1105; obtain ⟨hcz19_0, hcz19_1, hcz19_2, hfz19_0, hfz19_1, hfz19_2⟩ := cf3 BK1106))
  go_ret
  exact ⟨by rfl, by repeat (with_reducible exact HB.out)⟩
end Go.Proofs.YtfigblfjogpojaaDoor.PBits
end
section
namespace Go.Proofs.YtfigblfjogpojaaDoor.PBits
open Go.RowKit Go.Proofs.YtfigblfjogpojaaDoorW.PrintWords Go.Proofs.YtfigblfjogpojaaDoorW.PrintLast Go.Proofs.YtfigblfjogpojaaDoorW.PrintMore
attribute [local go_sem] max2_int min2_int max_two min_two max_three min_three max_four min_four
set_option linter.unusedVariables false
set_option linter.unusedSimpArgs false
def bits_Eq.f (k : Nat) (a0_0 : Int) (a0_1 : Int) (a0_2 : Int) (a1_0 : Int) (a1_1 : Int) (a1_2 : Int) : Option (Int × Int × Int) := (bits_alike.f k a0_0 a0_1 a0_2 a1_0 a1_1 a1_2).bind fun t1110 => (if t1110 = true then ((bits_equal.f a0_0 a0_1 a0_2 a1_0 a1_1 a1_2).bind fun t1111 => ((bits_truth.f t1111).bind fun bt1112 => (some (bt1112.1, bt1112.2.1, bt1112.2.2)))) else (some (0, 0, 0)))
set_option maxHeartbeats 8000000 in
set_option maxRecDepth 100000 in
theorem bits_Eq.calls (k : Nat) (a0_0 : Int) (a0_1 : Int) (a0_2 : Int) (a1_0 : Int) (a1_1 : Int) (a1_2 : Int) (r1 : Int) (r2 : Int) (r3 : Int) (w : World) (h : bits_Eq.f k a0_0 a0_1 a0_2 a1_0 a1_1 a1_2 = some (r1, r2, r3)) :
  Calls Tryd.prog 98 #[.agg #[.int .i64 a0_0, .int .u64 a0_1, .int .u64 a0_2], .agg #[.int .i64 a1_0, .int .u64 a1_1, .int .u64 a1_2]] w fun e w' => e = .returned (.agg #[.int .i64 r1, .int .u64 r2, .int .u64 r3]) ∧ Below w.heap.size w w' := by
 have hu24 := Tryd.underlying24
 have HB := Aside0.mk (Below.refl w.heap.size w)
 have H := h
 clear h
 unfold bits_Eq.f at H
 replace H := bN H; obtain ⟨t1110, A3, H⟩ := H
 replace H := iB H; rcases H with ⟨rfl, H⟩ | ⟨rfl, H⟩
 ·replace H := bN H; obtain ⟨t1111, A5, H⟩ := H
  replace H := bN H; obtain ⟨⟨t1112, t1113, t1114⟩, A6, H⟩ := H; dsimp only at H
  replace H := s3 H; obtain ⟨rfl, rfl, rfl⟩ := H
  go_enter Tryd.func98, Tryd.ntmps98
  go_wp2_with (first | (refine boxA HB 2 #[.int .i64 a0_0, .int .u64 a0_1, .int .u64 a0_2] 24 ?_; clear HB; intro gb1107 w7 BK1107 GE1107 hg hb HB; clear hb hg) | (refine boxA HB 3 #[.int .i64 a1_0, .int .u64 a1_1, .int .u64 a1_2] 24 ?_; clear HB; intro gb1108 w8 BK1108 GE1108 hg hb HB; have NB1107_1108 := nbA BK1107 hg; have NB1108_1107 := nbB BK1107 hg; replace BK1107 := bk1 BK1107 hb; clear hb hg) | (refine boxA HB 4 #[.int .i64 0, .int .u64 0, .int .u64 0] 24 ?_; clear HB; intro gb1109 w9 BK1109 GE1109 hg hb HB; have NB1107_1109 := nbA BK1107 hg; have NB1109_1107 := nbB BK1107 hg; replace BK1107 := bk1 BK1107 hb; have NB1108_1109 := nbA BK1108 hg; have NB1109_1108 := nbB BK1108 hg; replace BK1108 := bk1 BK1108 hb; clear hb hg; have hnb10 := NB1107_1108.out; have hnc10 := NB1108_1107.out; have hnb11 := NB1107_1109.out; have hnc11 := NB1109_1107.out; obtain ⟨hcz12_0, hcz12_1, hcz12_2, hfz12_0, hfz12_1, hfz12_2⟩ := cf3 BK1107; have hnb13 := NB1108_1109.out; have hnc13 := NB1109_1108.out; obtain ⟨hcz14_0, hcz14_1, hcz14_2, hfz14_0, hfz14_1, hfz14_2⟩ := cf3 BK1108) | (refine callA (some 7) Tryd.func66 #[.agg #[.int .i64 a0_0, .int .u64 a0_1, .int .u64 a0_2], .agg #[.int .i64 a1_0, .int .u64 a1_1, .int .u64 a1_2]] ?_; (with_reducible refine (bits_alike.calls k a0_0 a0_1 a0_2 a1_0 a1_1 a1_2 true _ A3.out).mono ?_); rintro e w15 ⟨rfl, hb⟩; refine ⟨_, rfl, ?_⟩; replace BK1107 := bk1 BK1107 hb; replace BK1108 := bk1 BK1108 hb; replace BK1109 := bk1 BK1109 hb; replace HB := hb1 HB hb; (try clear hb); obtain ⟨hcz16_0, hcz16_1, hcz16_2, hfz16_0, hfz16_1, hfz16_2⟩ := cf3 BK1107; obtain ⟨hcz17_0, hcz17_1, hcz17_2, hfz17_0, hfz17_1, hfz17_2⟩ := cf3 BK1108) | (refine callA (some 12) Tryd.func114 #[.agg #[.int .i64 a0_0, .int .u64 a0_1, .int .u64 a0_2], .agg #[.int .i64 a1_0, .int .u64 a1_1, .int .u64 a1_2]] ?_; (with_reducible refine (bits_equal.calls a0_0 a0_1 a0_2 a1_0 a1_1 a1_2 t1111 _ A5.out).mono ?_); rintro e w18 ⟨rfl, hb⟩; refine ⟨_, rfl, ?_⟩; replace BK1107 := bk1 BK1107 hb; replace BK1108 := bk1 BK1108 hb; replace BK1109 := bk1 BK1109 hb; replace HB := hb1 HB hb; (try clear hb)) | (refine callA (some 13) Tryd.func112 #[.int .i64 t1111] ?_; (with_reducible refine (bits_truth.calls t1111 t1112 t1113 t1114 _ A6.out).mono ?_); rintro e w19 ⟨rfl, hb⟩; refine ⟨_, rfl, ?_⟩; replace BK1107 := bk1 BK1107 hb; replace BK1108 := bk1 BK1108 hb; replace BK1109 := bk1 BK1109 hb; replace HB := hb1 HB hb; (try clear hb); obtain ⟨hcz20_0, hcz20_1, hcz20_2, hfz20_0, hfz20_1, hfz20_2⟩ := cf3 BK1109))
  refine retA gb1109 24 #[.int .i64 t1112, .int .u64 t1113, .int .u64 t1114] (put3 BK1109) Tryd.underlying24 ?_
  exact ⟨by rfl, by repeat (with_reducible first | exact HB.out | refine below_set ?_ GE1109.out)⟩
 ·replace H := s3 H; obtain ⟨rfl, rfl, rfl⟩ := H
  go_enter Tryd.func98, Tryd.ntmps98
  go_wp2_with (first | (refine boxA HB 2 #[.int .i64 a0_0, .int .u64 a0_1, .int .u64 a0_2] 24 ?_; clear HB; intro gb1107 w21 BK1107 GE1107 hg hb HB; clear hb hg) | (refine boxA HB 3 #[.int .i64 a1_0, .int .u64 a1_1, .int .u64 a1_2] 24 ?_; clear HB; intro gb1108 w22 BK1108 GE1108 hg hb HB; have NB1107_1108 := nbA BK1107 hg; have NB1108_1107 := nbB BK1107 hg; replace BK1107 := bk1 BK1107 hb; clear hb hg) | (refine boxA HB 4 #[.int .i64 0, .int .u64 0, .int .u64 0] 24 ?_; clear HB; intro gb1109 w23 BK1109 GE1109 hg hb HB; have NB1107_1109 := nbA BK1107 hg; have NB1109_1107 := nbB BK1107 hg; replace BK1107 := bk1 BK1107 hb; have NB1108_1109 := nbA BK1108 hg; have NB1109_1108 := nbB BK1108 hg; replace BK1108 := bk1 BK1108 hb; clear hb hg; have hnb24 := NB1107_1108.out; have hnc24 := NB1108_1107.out; have hnb25 := NB1107_1109.out; have hnc25 := NB1109_1107.out; obtain ⟨hcz26_0, hcz26_1, hcz26_2, hfz26_0, hfz26_1, hfz26_2⟩ := cf3 BK1107; have hnb27 := NB1108_1109.out; have hnc27 := NB1109_1108.out; obtain ⟨hcz28_0, hcz28_1, hcz28_2, hfz28_0, hfz28_1, hfz28_2⟩ := cf3 BK1108) | (refine callA (some 7) Tryd.func66 #[.agg #[.int .i64 a0_0, .int .u64 a0_1, .int .u64 a0_2], .agg #[.int .i64 a1_0, .int .u64 a1_1, .int .u64 a1_2]] ?_; (with_reducible refine (bits_alike.calls k a0_0 a0_1 a0_2 a1_0 a1_1 a1_2 false _ A3.out).mono ?_); rintro e w29 ⟨rfl, hb⟩; refine ⟨_, rfl, ?_⟩; replace BK1107 := bk1 BK1107 hb; replace BK1108 := bk1 BK1108 hb; replace BK1109 := bk1 BK1109 hb; replace HB := hb1 HB hb; (try clear hb); obtain ⟨hcz30_0, hcz30_1, hcz30_2, hfz30_0, hfz30_1, hfz30_2⟩ := cf3 BK1109))
  refine retA gb1109 24 #[.int .i64 0, .int .u64 0, .int .u64 0] (put3 BK1109) Tryd.underlying24 ?_
  exact ⟨by rfl, by repeat (with_reducible first | exact HB.out | refine below_set ?_ GE1109.out)⟩
end Go.Proofs.YtfigblfjogpojaaDoor.PBits
end
section
namespace Go.Proofs.YtfigblfjogpojaaDoor.PBits
open Go.RowKit Go.Proofs.YtfigblfjogpojaaDoorW.PrintWords Go.Proofs.YtfigblfjogpojaaDoorW.PrintLast Go.Proofs.YtfigblfjogpojaaDoorW.PrintMore
attribute [local go_sem] max2_int min2_int max_two min_two max_three min_three max_four min_four
set_option linter.unusedVariables false
set_option linter.unusedSimpArgs false
def bits_LNot.f (k : Nat) (a0_0 : Int) (a0_1 : Int) (a0_2 : Int) : Option (Int × Int × Int) := (bits_valid.f k (([(⟨a0_0, a0_1, a0_2⟩ : S24)] : List (S24)))).bind fun t1120 => (if t1120 = true then ((bits_True.f k a0_0 a0_1 a0_2).bind fun t1121 => (if t1121 ≥ 0 then ((bits_truth.f (wrap64 (1 - t1121))).bind fun bt1122 => (some (bt1122.1, bt1122.2.1, bt1122.2.2))) else ((bits_truth.f (-1)).bind fun bt1125 => (some (bt1125.1, bt1125.2.1, bt1125.2.2))))) else (some (0, 0, 0)))
set_option maxHeartbeats 8000000 in
set_option maxRecDepth 100000 in
theorem bits_LNot.calls (k : Nat) (a0_0 : Int) (a0_1 : Int) (a0_2 : Int) (r1 : Int) (r2 : Int) (r3 : Int) (w : World) (h : bits_LNot.f k a0_0 a0_1 a0_2 = some (r1, r2, r3)) :
  Calls Tryd.prog 115 #[.agg #[.int .i64 a0_0, .int .u64 a0_1, .int .u64 a0_2]] w fun e w' => e = .returned (.agg #[.int .i64 r1, .int .u64 r2, .int .u64 r3]) ∧ Below w.heap.size w w' := by
 have hu24 := Tryd.underlying24
 have HB := Aside0.mk (Below.refl w.heap.size w)
 have H := h
 clear h
 unfold bits_LNot.f at H
 obtain ⟨y1117, hy1117⟩ : ∃ y_ : List (S24), y_ = ([(⟨a0_0, a0_1, a0_2⟩ : S24)] : List (S24)) := ⟨_, rfl⟩
 replace H : ((bits_valid.f k y1117).bind fun t1120 => (if t1120 = true then ((bits_True.f k a0_0 a0_1 a0_2).bind fun t1121 => (if t1121 ≥ 0 then ((bits_truth.f (wrap64 (1 - t1121))).bind fun bt1122 => (some (bt1122.1, bt1122.2.1, bt1122.2.2))) else ((bits_truth.f (-1)).bind fun bt1125 => (some (bt1125.1, bt1125.2.1, bt1125.2.2))))) else (some (0, 0, 0)))) = some (r1, r2, r3) := by (rw [hy1117]; with_reducible exact H)
 have Ny1117 := Aside0.mk hy1117
 clear hy1117
 replace H := bN H; obtain ⟨t1120, A2, H⟩ := H
 replace H := iB H; rcases H with ⟨rfl, H⟩ | ⟨rfl, H⟩
 ·replace H := bN H; obtain ⟨t1121, A4, H⟩ := H
  replace H := iD H; rcases H with ⟨c5b0, H⟩ | ⟨c5b0, H⟩
  ·replace c5b0 : decide (0 ≤ t1121) = true := c5b0
   replace H := bN H; obtain ⟨⟨t1122, t1123, t1124⟩, A6, H⟩ := H; dsimp only at H
   replace H := s3 H; obtain ⟨rfl, rfl, rfl⟩ := H
   go_enter Tryd.func115, Tryd.ntmps115
   go_wp2_with (first | (refine boxA HB 1 #[.int .i64 a0_0, .int .u64 a0_1, .int .u64 a0_2] 24 ?_; clear HB; intro gb1115 w7 BK1115 GE1115 hg hb HB; clear hb hg) | (refine boxA HB 2 #[.int .i64 0, .int .u64 0, .int .u64 0] 24 ?_; clear HB; intro gb1116 w8 BK1116 GE1116 hg hb HB; have NB1115_1116 := nbA BK1115 hg; have NB1116_1115 := nbB BK1115 hg; replace BK1115 := bk1 BK1115 hb; clear hb hg; have hnb9 := NB1115_1116.out; have hnc9 := NB1116_1115.out; obtain ⟨hcz10_0, hcz10_1, hcz10_2, hfz10_0, hfz10_1, hfz10_2⟩ := cf3 BK1115) | ((with_reducible refine gate_dst (N := 5) rfl ?_); refine Kd.R_lit k24 _ 24 ?hg (N := 5) ?hd (xs := ([(⟨a0_0, a0_1, a0_2⟩ : S24)] : List (S24))) (inner := [.int .i64 a0_0, .int .u64 a0_1, .int .u64 a0_2]) (ok := fun _ => True) (okp := fun _ => True) ?hr ?hp (fun _ hk => hk) trivial (Below.refl _ _) (Nat.le_refl _) (by simp) ?_; (case hd => rfl); (case hg => rfl); (case hr => (go_simp; done)); (case hp => exact (Reps.c3 (show Kd.M k24 _ _ _ (⟨a0_0, a0_1, a0_2⟩ : S24) [.int .i64 a0_0, .int .u64 a0_1, .int .u64 a0_2] from (k24_mkM _ _ _ (⟨a0_0, a0_1, a0_2⟩ : S24) )) (Reps.none _ _))); intro v1118 w11 ho12 hb hg_ hnew_; clear hg_ hnew_; (rw [← Ny1117.out] at ho12); have HO1119 := Aside0.mk (Kd.R_lower (Kd.R_newB (Kd.R_newB ho12 BK1115.out) BK1116.out) (below_size HB.out)); replace BK1115 := bk1 BK1115 hb; replace BK1116 := bk1 BK1116 hb; replace HB := hb1 HB hb; clear hb ho12; obtain ⟨Ao13, co13, eo13⟩ := Kd.R_slice HO1119.out; subst eo13) | (refine callA (some 6) Tryd.func56 #[.slice Ao13 y1117.length co13] ?_; (with_reducible refine (bits_valid.calls k _ _ y1117 true _ ?side1 ?side2 A2.out).mono ?_); (case side1 => exact (Kd.R_reads' HO1119.out).2.2); (case side2 => exact (Kd.R_reads' HO1119.out).2.1); rintro e w14 ⟨rfl, hb⟩; refine ⟨_, rfl, ?_⟩; replace HO1119 := Kd.rb1 HO1119 hb; replace BK1115 := bk1 BK1115 hb; replace BK1116 := bk1 BK1116 hb; replace HB := hb1 HB hb; (try clear hb); obtain ⟨hcz15_0, hcz15_1, hcz15_2, hfz15_0, hfz15_1, hfz15_2⟩ := cf3 BK1115) | (refine callA (some 10) Tryd.func22 #[.agg #[.int .i64 a0_0, .int .u64 a0_1, .int .u64 a0_2]] ?_; (with_reducible refine (bits_True.calls k a0_0 a0_1 a0_2 t1121 _ A4.out).mono ?_); rintro e w16 ⟨rfl, hb⟩; refine ⟨_, rfl, ?_⟩; replace HO1119 := Kd.rb1 HO1119 hb; replace BK1115 := bk1 BK1115 hb; replace BK1116 := bk1 BK1116 hb; replace HB := hb1 HB hb; (try clear hb)) | (refine callA (some 15) Tryd.func112 #[.int .i64 (wrap64 (1 - t1121))] ?_; (with_reducible refine (bits_truth.calls (wrap64 (1 - t1121)) t1122 t1123 t1124 _ A6.out).mono ?_); rintro e w17 ⟨rfl, hb⟩; refine ⟨_, rfl, ?_⟩; replace HO1119 := Kd.rb1 HO1119 hb; replace BK1115 := bk1 BK1115 hb; replace BK1116 := bk1 BK1116 hb; replace HB := hb1 HB hb; (try clear hb); obtain ⟨hcz18_0, hcz18_1, hcz18_2, hfz18_0, hfz18_1, hfz18_2⟩ := cf3 BK1116))
   refine retA gb1116 24 #[.int .i64 t1122, .int .u64 t1123, .int .u64 t1124] (put3 BK1116) Tryd.underlying24 ?_
   exact ⟨by rfl, by repeat (with_reducible first | exact HB.out | refine below_set ?_ GE1116.out)⟩
  ·replace c5b0 : decide (0 ≤ t1121) = false := c5b0
   replace H := bN H; obtain ⟨⟨t1125, t1126, t1127⟩, A19, H⟩ := H; dsimp only at H
   replace H := s3 H; obtain ⟨rfl, rfl, rfl⟩ := H
   go_enter Tryd.func115, Tryd.ntmps115
   go_wp2_with (first | (refine boxA HB 1 #[.int .i64 a0_0, .int .u64 a0_1, .int .u64 a0_2] 24 ?_; clear HB; intro gb1115 w20 BK1115 GE1115 hg hb HB; clear hb hg) | (refine boxA HB 2 #[.int .i64 0, .int .u64 0, .int .u64 0] 24 ?_; clear HB; intro gb1116 w21 BK1116 GE1116 hg hb HB; have NB1115_1116 := nbA BK1115 hg; have NB1116_1115 := nbB BK1115 hg; replace BK1115 := bk1 BK1115 hb; clear hb hg; have hnb22 := NB1115_1116.out; have hnc22 := NB1116_1115.out; obtain ⟨hcz23_0, hcz23_1, hcz23_2, hfz23_0, hfz23_1, hfz23_2⟩ := cf3 BK1115) | ((with_reducible refine gate_dst (N := 5) rfl ?_); refine Kd.R_lit k24 _ 24 ?hg (N := 5) ?hd (xs := ([(⟨a0_0, a0_1, a0_2⟩ : S24)] : List (S24))) (inner := [.int .i64 a0_0, .int .u64 a0_1, .int .u64 a0_2]) (ok := fun _ => True) (okp := fun _ => True) ?hr ?hp (fun _ hk => hk) trivial (Below.refl _ _) (Nat.le_refl _) (by simp) ?_; (case hd => rfl); (case hg => rfl); (case hr => (go_simp; done)); (case hp => exact (Reps.c3 (show Kd.M k24 _ _ _ (⟨a0_0, a0_1, a0_2⟩ : S24) [.int .i64 a0_0, .int .u64 a0_1, .int .u64 a0_2] from (k24_mkM _ _ _ (⟨a0_0, a0_1, a0_2⟩ : S24) )) (Reps.none _ _))); intro v1118 w24 ho25 hb hg_ hnew_; clear hg_ hnew_; (rw [← Ny1117.out] at ho25); have HO1119 := Aside0.mk (Kd.R_lower (Kd.R_newB (Kd.R_newB ho25 BK1115.out) BK1116.out) (below_size HB.out)); replace BK1115 := bk1 BK1115 hb; replace BK1116 := bk1 BK1116 hb; replace HB := hb1 HB hb; clear hb ho25; obtain ⟨Ao26, co26, eo26⟩ := Kd.R_slice HO1119.out; subst eo26) | (refine callA (some 6) Tryd.func56 #[.slice Ao26 y1117.length co26] ?_; (with_reducible refine (bits_valid.calls k _ _ y1117 true _ ?side1 ?side2 A2.out).mono ?_); (case side1 => exact (Kd.R_reads' HO1119.out).2.2); (case side2 => exact (Kd.R_reads' HO1119.out).2.1); rintro e w27 ⟨rfl, hb⟩; refine ⟨_, rfl, ?_⟩; replace HO1119 := Kd.rb1 HO1119 hb; replace BK1115 := bk1 BK1115 hb; replace BK1116 := bk1 BK1116 hb; replace HB := hb1 HB hb; (try clear hb); obtain ⟨hcz28_0, hcz28_1, hcz28_2, hfz28_0, hfz28_1, hfz28_2⟩ := cf3 BK1115) | (refine callA (some 10) Tryd.func22 #[.agg #[.int .i64 a0_0, .int .u64 a0_1, .int .u64 a0_2]] ?_; (with_reducible refine (bits_True.calls k a0_0 a0_1 a0_2 t1121 _ A4.out).mono ?_); rintro e w29 ⟨rfl, hb⟩; refine ⟨_, rfl, ?_⟩; replace HO1119 := Kd.rb1 HO1119 hb; replace BK1115 := bk1 BK1115 hb; replace BK1116 := bk1 BK1116 hb; replace HB := hb1 HB hb; (try clear hb)) | (refine callA (some 16) Tryd.func112 #[.int .i64 (-1)] ?_; (with_reducible refine (bits_truth.calls (-1) t1125 t1126 t1127 _ A19.out).mono ?_); rintro e w30 ⟨rfl, hb⟩; refine ⟨_, rfl, ?_⟩; replace HO1119 := Kd.rb1 HO1119 hb; replace BK1115 := bk1 BK1115 hb; replace BK1116 := bk1 BK1116 hb; replace HB := hb1 HB hb; (try clear hb); obtain ⟨hcz31_0, hcz31_1, hcz31_2, hfz31_0, hfz31_1, hfz31_2⟩ := cf3 BK1116))
   refine retA gb1116 24 #[.int .i64 t1125, .int .u64 t1126, .int .u64 t1127] (put3 BK1116) Tryd.underlying24 ?_
   exact ⟨by rfl, by repeat (with_reducible first | exact HB.out | refine below_set ?_ GE1116.out)⟩
 ·replace H := s3 H; obtain ⟨rfl, rfl, rfl⟩ := H
  go_enter Tryd.func115, Tryd.ntmps115
  go_wp2_with (first | (refine boxA HB 1 #[.int .i64 a0_0, .int .u64 a0_1, .int .u64 a0_2] 24 ?_; clear HB; intro gb1115 w32 BK1115 GE1115 hg hb HB; clear hb hg) | (refine boxA HB 2 #[.int .i64 0, .int .u64 0, .int .u64 0] 24 ?_; clear HB; intro gb1116 w33 BK1116 GE1116 hg hb HB; have NB1115_1116 := nbA BK1115 hg; have NB1116_1115 := nbB BK1115 hg; replace BK1115 := bk1 BK1115 hb; clear hb hg; have hnb34 := NB1115_1116.out; have hnc34 := NB1116_1115.out; obtain ⟨hcz35_0, hcz35_1, hcz35_2, hfz35_0, hfz35_1, hfz35_2⟩ := cf3 BK1115) | ((with_reducible refine gate_dst (N := 5) rfl ?_); refine Kd.R_lit k24 _ 24 ?hg (N := 5) ?hd (xs := ([(⟨a0_0, a0_1, a0_2⟩ : S24)] : List (S24))) (inner := [.int .i64 a0_0, .int .u64 a0_1, .int .u64 a0_2]) (ok := fun _ => True) (okp := fun _ => True) ?hr ?hp (fun _ hk => hk) trivial (Below.refl _ _) (Nat.le_refl _) (by simp) ?_; (case hd => rfl); (case hg => rfl); (case hr => (go_simp; done)); (case hp => exact (Reps.c3 (show Kd.M k24 _ _ _ (⟨a0_0, a0_1, a0_2⟩ : S24) [.int .i64 a0_0, .int .u64 a0_1, .int .u64 a0_2] from (k24_mkM _ _ _ (⟨a0_0, a0_1, a0_2⟩ : S24) )) (Reps.none _ _))); intro v1118 w36 ho37 hb hg_ hnew_; clear hg_ hnew_; (rw [← Ny1117.out] at ho37); have HO1119 := Aside0.mk (Kd.R_lower (Kd.R_newB (Kd.R_newB ho37 BK1115.out) BK1116.out) (below_size HB.out)); replace BK1115 := bk1 BK1115 hb; replace BK1116 := bk1 BK1116 hb; replace HB := hb1 HB hb; clear hb ho37; obtain ⟨Ao38, co38, eo38⟩ := Kd.R_slice HO1119.out; subst eo38) | (refine callA (some 6) Tryd.func56 #[.slice Ao38 y1117.length co38] ?_; (with_reducible refine (bits_valid.calls k _ _ y1117 false _ ?side1 ?side2 A2.out).mono ?_); (case side1 => exact (Kd.R_reads' HO1119.out).2.2); (case side2 => exact (Kd.R_reads' HO1119.out).2.1); rintro e w39 ⟨rfl, hb⟩; refine ⟨_, rfl, ?_⟩; replace HO1119 := Kd.rb1 HO1119 hb; replace BK1115 := bk1 BK1115 hb; replace BK1116 := bk1 BK1116 hb; replace HB := hb1 HB hb; (try clear hb); obtain ⟨hcz40_0, hcz40_1, hcz40_2, hfz40_0, hfz40_1, hfz40_2⟩ := cf3 BK1116))
  refine retA gb1116 24 #[.int .i64 0, .int .u64 0, .int .u64 0] (put3 BK1116) Tryd.underlying24 ?_
  exact ⟨by rfl, by repeat (with_reducible first | exact HB.out | refine below_set ?_ GE1116.out)⟩
end Go.Proofs.YtfigblfjogpojaaDoor.PBits
end
section
namespace Go.Proofs.YtfigblfjogpojaaDoor.PBits
open Go.RowKit Go.Proofs.YtfigblfjogpojaaDoorW.PrintWords Go.Proofs.YtfigblfjogpojaaDoorW.PrintLast Go.Proofs.YtfigblfjogpojaaDoorW.PrintMore
attribute [local go_sem] max2_int min2_int max_two min_two max_three min_three max_four min_four
set_option linter.unusedVariables false
set_option linter.unusedSimpArgs false
def bits_Ne.f (k : Nat) (a0_0 : Int) (a0_1 : Int) (a0_2 : Int) (a1_0 : Int) (a1_1 : Int) (a1_2 : Int) : Option (Int × Int × Int) := (bits_Eq.f k a0_0 a0_1 a0_2 a1_0 a1_1 a1_2).bind fun bt1131 => ((bits_LNot.f k bt1131.1 bt1131.2.1 bt1131.2.2).bind fun bt1134 => (some (bt1134.1, bt1134.2.1, bt1134.2.2)))
set_option maxHeartbeats 8000000 in
set_option maxRecDepth 100000 in
theorem bits_Ne.calls (k : Nat) (a0_0 : Int) (a0_1 : Int) (a0_2 : Int) (a1_0 : Int) (a1_1 : Int) (a1_2 : Int) (r1 : Int) (r2 : Int) (r3 : Int) (w : World) (h : bits_Ne.f k a0_0 a0_1 a0_2 a1_0 a1_1 a1_2 = some (r1, r2, r3)) :
  Calls Tryd.prog 99 #[.agg #[.int .i64 a0_0, .int .u64 a0_1, .int .u64 a0_2], .agg #[.int .i64 a1_0, .int .u64 a1_1, .int .u64 a1_2]] w fun e w' => e = .returned (.agg #[.int .i64 r1, .int .u64 r2, .int .u64 r3]) ∧ Below w.heap.size w w' := by
 have hu24 := Tryd.underlying24
 have HB := Aside0.mk (Below.refl w.heap.size w)
 have H := h
 clear h
 unfold bits_Ne.f at H
 replace H := bN H; obtain ⟨⟨t1131, t1132, t1133⟩, A3, H⟩ := H; dsimp only at H
 replace H := bN H; obtain ⟨⟨t1134, t1135, t1136⟩, A4, H⟩ := H; dsimp only at H
 replace H := s3 H; obtain ⟨rfl, rfl, rfl⟩ := H
 go_enter Tryd.func99, Tryd.ntmps99
 go_wp2_with (first | (refine boxA HB 2 #[.int .i64 a0_0, .int .u64 a0_1, .int .u64 a0_2] 24 ?_; clear HB; intro gb1128 w5 BK1128 GE1128 hg hb HB; clear hb hg) | (refine boxA HB 3 #[.int .i64 a1_0, .int .u64 a1_1, .int .u64 a1_2] 24 ?_; clear HB; intro gb1129 w6 BK1129 GE1129 hg hb HB; have NB1128_1129 := nbA BK1128 hg; have NB1129_1128 := nbB BK1128 hg; replace BK1128 := bk1 BK1128 hb; clear hb hg) | (refine boxA HB 4 #[.int .i64 0, .int .u64 0, .int .u64 0] 24 ?_; clear HB; intro gb1130 w7 BK1130 GE1130 hg hb HB; have NB1128_1130 := nbA BK1128 hg; have NB1130_1128 := nbB BK1128 hg; replace BK1128 := bk1 BK1128 hb; have NB1129_1130 := nbA BK1129 hg; have NB1130_1129 := nbB BK1129 hg; replace BK1129 := bk1 BK1129 hb; clear hb hg; have hnb8 := NB1128_1129.out; have hnc8 := NB1129_1128.out; have hnb9 := NB1128_1130.out; have hnc9 := NB1130_1128.out; obtain ⟨hcz10_0, hcz10_1, hcz10_2, hfz10_0, hfz10_1, hfz10_2⟩ := cf3 BK1128; have hnb11 := NB1129_1130.out; have hnc11 := NB1130_1129.out; obtain ⟨hcz12_0, hcz12_1, hcz12_2, hfz12_0, hfz12_1, hfz12_2⟩ := cf3 BK1129) | (refine callA (some 7) Tryd.func98 #[.agg #[.int .i64 a0_0, .int .u64 a0_1, .int .u64 a0_2], .agg #[.int .i64 a1_0, .int .u64 a1_1, .int .u64 a1_2]] ?_; (with_reducible refine (bits_Eq.calls k a0_0 a0_1 a0_2 a1_0 a1_1 a1_2 t1131 t1132 t1133 _ A3.out).mono ?_); rintro e w13 ⟨rfl, hb⟩; refine ⟨_, rfl, ?_⟩; replace BK1128 := bk1 BK1128 hb; replace BK1129 := bk1 BK1129 hb; replace BK1130 := bk1 BK1130 hb; replace HB := hb1 HB hb; (try clear hb)) | (refine callA (some 8) Tryd.func115 #[.agg #[.int .i64 t1131, .int .u64 t1132, .int .u64 t1133]] ?_; (with_reducible refine (bits_LNot.calls k t1131 t1132 t1133 t1134 t1135 t1136 _ A4.out).mono ?_); rintro e w14 ⟨rfl, hb⟩; refine ⟨_, rfl, ?_⟩; replace BK1128 := bk1 BK1128 hb; replace BK1129 := bk1 BK1129 hb; replace BK1130 := bk1 BK1130 hb; replace HB := hb1 HB hb; (try clear hb); obtain ⟨hcz15_0, hcz15_1, hcz15_2, hfz15_0, hfz15_1, hfz15_2⟩ := cf3 BK1130))
 refine retA gb1130 24 #[.int .i64 t1134, .int .u64 t1135, .int .u64 t1136] (put3 BK1130) Tryd.underlying24 ?_
 exact ⟨by rfl, by repeat (with_reducible first | exact HB.out | refine below_set ?_ GE1130.out)⟩
end Go.Proofs.YtfigblfjogpojaaDoor.PBits
end
section
namespace Go.Proofs.YtfigblfjogpojaaDoor.PBits
open Go.RowKit Go.Proofs.YtfigblfjogpojaaDoorW.PrintWords Go.Proofs.YtfigblfjogpojaaDoorW.PrintLast Go.Proofs.YtfigblfjogpojaaDoorW.PrintMore
attribute [local go_sem] max2_int min2_int max_two min_two max_three min_three max_four min_four
set_option linter.unusedVariables false
set_option linter.unusedSimpArgs false
theorem eqA24 (d : Nat) (w : World) (x0 y0 : Int) (x1 y1 : Int) (x2 y2 : Int) :
  (Op.equalIn (d + 2) 24 (.agg #[.int .i64 x0, .int .u64 x1, .int .u64 x2]) (.agg #[.int .i64 y0, .int .u64 y1, .int .u64 y2])).run Tryd.prog w = .ok (x0 == y0 && (x1 == y1 && (x2 == y2))) w := by
 refine eqA_of Tryd.underlying24 (by kernel_rfl) ?_
 refine eqf_cons (by rfl) (by go_simp; rfl) (by go_simp; rfl) (by go_simp) ?_
 refine eqf_cons (by rfl) (by go_simp; rfl) (by go_simp; rfl) (by go_simp) ?_
 exact eqf_last (by rfl) (by go_simp; rfl) (by go_simp; rfl) (by go_simp)
end Go.Proofs.YtfigblfjogpojaaDoor.PBits
end
section
namespace Go.Proofs.YtfigblfjogpojaaDoor.PBits
open Go.RowKit Go.Proofs.YtfigblfjogpojaaDoorW.PrintWords Go.Proofs.YtfigblfjogpojaaDoorW.PrintLast Go.Proofs.YtfigblfjogpojaaDoorW.PrintMore
attribute [local go_sem] max2_int min2_int max_two min_two max_three min_three max_four min_four
set_option linter.unusedVariables false
set_option linter.unusedSimpArgs false
attribute [local go_sem high] eqA24
def bits_CaseEq.f (k : Nat) (a0_0 : Int) (a0_1 : Int) (a0_2 : Int) (a1_0 : Int) (a1_1 : Int) (a1_2 : Int) : Option (Int × Int × Int) := (bits_alike.f k a0_0 a0_1 a0_2 a1_0 a1_1 a1_2).bind fun t1140 => (if t1140 = true then (if (a0_0 == a1_0 && (a0_1 == a1_1 && (a0_2 == a1_2))) = true then ((bits_truth.f 1).bind fun bt1141 => (some (bt1141.1, bt1141.2.1, bt1141.2.2))) else ((bits_truth.f 0).bind fun bt1144 => (some (bt1144.1, bt1144.2.1, bt1144.2.2)))) else (some (0, 0, 0)))
set_option maxHeartbeats 8000000 in
set_option maxRecDepth 100000 in
theorem bits_CaseEq.calls (k : Nat) (a0_0 : Int) (a0_1 : Int) (a0_2 : Int) (a1_0 : Int) (a1_1 : Int) (a1_2 : Int) (r1 : Int) (r2 : Int) (r3 : Int) (w : World) (h : bits_CaseEq.f k a0_0 a0_1 a0_2 a1_0 a1_1 a1_2 = some (r1, r2, r3)) :
  Calls Tryd.prog 100 #[.agg #[.int .i64 a0_0, .int .u64 a0_1, .int .u64 a0_2], .agg #[.int .i64 a1_0, .int .u64 a1_1, .int .u64 a1_2]] w fun e w' => e = .returned (.agg #[.int .i64 r1, .int .u64 r2, .int .u64 r3]) ∧ Below w.heap.size w w' := by
 have hu24 := Tryd.underlying24
 have HB := Aside0.mk (Below.refl w.heap.size w)
 have H := h
 clear h
 unfold bits_CaseEq.f at H
 replace H := bN H; obtain ⟨t1140, A3, H⟩ := H
 replace H := iB H; rcases H with ⟨rfl, H⟩ | ⟨rfl, H⟩
 ·by_cases c5 : (a0_0 == a1_0 && (a0_1 == a1_1 && (a0_2 == a1_2))) = true
  ·rw [if_pos c5] at H
   have c5b0 : (a0_0 == a1_0 && (a0_1 == a1_1 && (a0_2 == a1_2))) = true := c5
   (try (have c5b1 : decide (a0_0 = a1_0 && (a0_1 == a1_1 && (a0_2 == a1_2))) = true := by simpa using c5))
   (try (have c5b2 : (a0_0 == a1_0 && (a0_1 == a1_1 && (a0_2 == a1_2))) = true := by simpa using c5))
   clear c5
   replace H := bN H; obtain ⟨⟨t1141, t1142, t1143⟩, A6, H⟩ := H; dsimp only at H
   replace H := s3 H; obtain ⟨rfl, rfl, rfl⟩ := H
   go_enter Tryd.func100, Tryd.ntmps100
   go_wp2_with (first | (refine boxA HB 2 #[.int .i64 a0_0, .int .u64 a0_1, .int .u64 a0_2] 24 ?_; clear HB; intro gb1137 w7 BK1137 GE1137 hg hb HB; clear hb hg) | (refine boxA HB 3 #[.int .i64 a1_0, .int .u64 a1_1, .int .u64 a1_2] 24 ?_; clear HB; intro gb1138 w8 BK1138 GE1138 hg hb HB; have NB1137_1138 := nbA BK1137 hg; have NB1138_1137 := nbB BK1137 hg; replace BK1137 := bk1 BK1137 hb; clear hb hg) | (refine boxA HB 4 #[.int .i64 0, .int .u64 0, .int .u64 0] 24 ?_; clear HB; intro gb1139 w9 BK1139 GE1139 hg hb HB; have NB1137_1139 := nbA BK1137 hg; have NB1139_1137 := nbB BK1137 hg; replace BK1137 := bk1 BK1137 hb; have NB1138_1139 := nbA BK1138 hg; have NB1139_1138 := nbB BK1138 hg; replace BK1138 := bk1 BK1138 hb; clear hb hg; have hnb10 := NB1137_1138.out; have hnc10 := NB1138_1137.out; have hnb11 := NB1137_1139.out; have hnc11 := NB1139_1137.out; obtain ⟨hcz12_0, hcz12_1, hcz12_2, hfz12_0, hfz12_1, hfz12_2⟩ := cf3 BK1137; have hnb13 := NB1138_1139.out; have hnc13 := NB1139_1138.out; obtain ⟨hcz14_0, hcz14_1, hcz14_2, hfz14_0, hfz14_1, hfz14_2⟩ := cf3 BK1138) | (refine callA (some 8) Tryd.func66 #[.agg #[.int .i64 a0_0, .int .u64 a0_1, .int .u64 a0_2], .agg #[.int .i64 a1_0, .int .u64 a1_1, .int .u64 a1_2]] ?_; (with_reducible refine (bits_alike.calls k a0_0 a0_1 a0_2 a1_0 a1_1 a1_2 true _ A3.out).mono ?_); rintro e w15 ⟨rfl, hb⟩; refine ⟨_, rfl, ?_⟩; replace BK1137 := bk1 BK1137 hb; replace BK1138 := bk1 BK1138 hb; replace BK1139 := bk1 BK1139 hb; replace HB := hb1 HB hb; (try clear hb); obtain ⟨hcz16_0, hcz16_1, hcz16_2, hfz16_0, hfz16_1, hfz16_2⟩ := cf3 BK1137; obtain ⟨hcz17_0, hcz17_1, hcz17_2, hfz17_0, hfz17_1, hfz17_2⟩ := cf3 BK1138) | (refine callA (some 15) Tryd.func112 #[.int .i64 1] ?_; (with_reducible refine (bits_truth.calls 1 t1141 t1142 t1143 _ A6.out).mono ?_); rintro e w18 ⟨rfl, hb⟩; refine ⟨_, rfl, ?_⟩; replace BK1137 := bk1 BK1137 hb; replace BK1138 := bk1 BK1138 hb; replace BK1139 := bk1 BK1139 hb; replace HB := hb1 HB hb; (try clear hb); obtain ⟨hcz19_0, hcz19_1, hcz19_2, hfz19_0, hfz19_1, hfz19_2⟩ := cf3 BK1139))
   refine retA gb1139 24 #[.int .i64 t1141, .int .u64 t1142, .int .u64 t1143] (put3 BK1139) Tryd.underlying24 ?_
   exact ⟨by rfl, by repeat (with_reducible first | exact HB.out | refine below_set ?_ GE1139.out)⟩
  ·rw [if_neg c5] at H
   have c5b0 : (a0_0 == a1_0 && (a0_1 == a1_1 && (a0_2 == a1_2))) = false := by simpa using c5
   (try (have c5b1 : decide (a0_0 = a1_0 && (a0_1 == a1_1 && (a0_2 == a1_2))) = false := by simpa using c5))
   (try (have c5b2 : (a0_0 == a1_0 && (a0_1 == a1_1 && (a0_2 == a1_2))) = false := by simpa using c5))
   (try (have c5b3 : ¬ (a0_0 = a1_0 && (a0_1 == a1_1 && (a0_2 == a1_2))) := by simpa using c5))
   clear c5
   replace H := bN H; obtain ⟨⟨t1144, t1145, t1146⟩, A20, H⟩ := H; dsimp only at H
   replace H := s3 H; obtain ⟨rfl, rfl, rfl⟩ := H
   go_enter Tryd.func100, Tryd.ntmps100
   go_wp2_with (first | (refine boxA HB 2 #[.int .i64 a0_0, .int .u64 a0_1, .int .u64 a0_2] 24 ?_; clear HB; intro gb1137 w21 BK1137 GE1137 hg hb HB; clear hb hg) | (refine boxA HB 3 #[.int .i64 a1_0, .int .u64 a1_1, .int .u64 a1_2] 24 ?_; clear HB; intro gb1138 w22 BK1138 GE1138 hg hb HB; have NB1137_1138 := nbA BK1137 hg; have NB1138_1137 := nbB BK1137 hg; replace BK1137 := bk1 BK1137 hb; clear hb hg) | (refine boxA HB 4 #[.int .i64 0, .int .u64 0, .int .u64 0] 24 ?_; clear HB; intro gb1139 w23 BK1139 GE1139 hg hb HB; have NB1137_1139 := nbA BK1137 hg; have NB1139_1137 := nbB BK1137 hg; replace BK1137 := bk1 BK1137 hb; have NB1138_1139 := nbA BK1138 hg; have NB1139_1138 := nbB BK1138 hg; replace BK1138 := bk1 BK1138 hb; clear hb hg; have hnb24 := NB1137_1138.out; have hnc24 := NB1138_1137.out; have hnb25 := NB1137_1139.out; have hnc25 := NB1139_1137.out; obtain ⟨hcz26_0, hcz26_1, hcz26_2, hfz26_0, hfz26_1, hfz26_2⟩ := cf3 BK1137; have hnb27 := NB1138_1139.out; have hnc27 := NB1139_1138.out; obtain ⟨hcz28_0, hcz28_1, hcz28_2, hfz28_0, hfz28_1, hfz28_2⟩ := cf3 BK1138) | (refine callA (some 8) Tryd.func66 #[.agg #[.int .i64 a0_0, .int .u64 a0_1, .int .u64 a0_2], .agg #[.int .i64 a1_0, .int .u64 a1_1, .int .u64 a1_2]] ?_; (with_reducible refine (bits_alike.calls k a0_0 a0_1 a0_2 a1_0 a1_1 a1_2 true _ A3.out).mono ?_); rintro e w29 ⟨rfl, hb⟩; refine ⟨_, rfl, ?_⟩; replace BK1137 := bk1 BK1137 hb; replace BK1138 := bk1 BK1138 hb; replace BK1139 := bk1 BK1139 hb; replace HB := hb1 HB hb; (try clear hb); obtain ⟨hcz30_0, hcz30_1, hcz30_2, hfz30_0, hfz30_1, hfz30_2⟩ := cf3 BK1137; obtain ⟨hcz31_0, hcz31_1, hcz31_2, hfz31_0, hfz31_1, hfz31_2⟩ := cf3 BK1138) | (refine callA (some 16) Tryd.func112 #[.int .i64 0] ?_; (with_reducible refine (bits_truth.calls 0 t1144 t1145 t1146 _ A20.out).mono ?_); rintro e w32 ⟨rfl, hb⟩; refine ⟨_, rfl, ?_⟩; replace BK1137 := bk1 BK1137 hb; replace BK1138 := bk1 BK1138 hb; replace BK1139 := bk1 BK1139 hb; replace HB := hb1 HB hb; (try clear hb); obtain ⟨hcz33_0, hcz33_1, hcz33_2, hfz33_0, hfz33_1, hfz33_2⟩ := cf3 BK1139))
   refine retA gb1139 24 #[.int .i64 t1144, .int .u64 t1145, .int .u64 t1146] (put3 BK1139) Tryd.underlying24 ?_
   exact ⟨by rfl, by repeat (with_reducible first | exact HB.out | refine below_set ?_ GE1139.out)⟩
 ·replace H := s3 H; obtain ⟨rfl, rfl, rfl⟩ := H
  go_enter Tryd.func100, Tryd.ntmps100
  go_wp2_with (first | (refine boxA HB 2 #[.int .i64 a0_0, .int .u64 a0_1, .int .u64 a0_2] 24 ?_; clear HB; intro gb1137 w34 BK1137 GE1137 hg hb HB; clear hb hg) | (refine boxA HB 3 #[.int .i64 a1_0, .int .u64 a1_1, .int .u64 a1_2] 24 ?_; clear HB; intro gb1138 w35 BK1138 GE1138 hg hb HB; have NB1137_1138 := nbA BK1137 hg; have NB1138_1137 := nbB BK1137 hg; replace BK1137 := bk1 BK1137 hb; clear hb hg) | (refine boxA HB 4 #[.int .i64 0, .int .u64 0, .int .u64 0] 24 ?_; clear HB; intro gb1139 w36 BK1139 GE1139 hg hb HB; have NB1137_1139 := nbA BK1137 hg; have NB1139_1137 := nbB BK1137 hg; replace BK1137 := bk1 BK1137 hb; have NB1138_1139 := nbA BK1138 hg; have NB1139_1138 := nbB BK1138 hg; replace BK1138 := bk1 BK1138 hb; clear hb hg; have hnb37 := NB1137_1138.out; have hnc37 := NB1138_1137.out; have hnb38 := NB1137_1139.out; have hnc38 := NB1139_1137.out; obtain ⟨hcz39_0, hcz39_1, hcz39_2, hfz39_0, hfz39_1, hfz39_2⟩ := cf3 BK1137; have hnb40 := NB1138_1139.out; have hnc40 := NB1139_1138.out; obtain ⟨hcz41_0, hcz41_1, hcz41_2, hfz41_0, hfz41_1, hfz41_2⟩ := cf3 BK1138) | (refine callA (some 8) Tryd.func66 #[.agg #[.int .i64 a0_0, .int .u64 a0_1, .int .u64 a0_2], .agg #[.int .i64 a1_0, .int .u64 a1_1, .int .u64 a1_2]] ?_; (with_reducible refine (bits_alike.calls k a0_0 a0_1 a0_2 a1_0 a1_1 a1_2 false _ A3.out).mono ?_); rintro e w42 ⟨rfl, hb⟩; refine ⟨_, rfl, ?_⟩; replace BK1137 := bk1 BK1137 hb; replace BK1138 := bk1 BK1138 hb; replace BK1139 := bk1 BK1139 hb; replace HB := hb1 HB hb; (try clear hb); obtain ⟨hcz43_0, hcz43_1, hcz43_2, hfz43_0, hfz43_1, hfz43_2⟩ := cf3 BK1139))
  refine retA gb1139 24 #[.int .i64 0, .int .u64 0, .int .u64 0] (put3 BK1139) Tryd.underlying24 ?_
  exact ⟨by rfl, by repeat (with_reducible first | exact HB.out | refine below_set ?_ GE1139.out)⟩
end Go.Proofs.YtfigblfjogpojaaDoor.PBits
end
section
namespace Go.Proofs.YtfigblfjogpojaaDoor.PBits
open Go.RowKit Go.Proofs.YtfigblfjogpojaaDoorW.PrintWords Go.Proofs.YtfigblfjogpojaaDoorW.PrintLast Go.Proofs.YtfigblfjogpojaaDoorW.PrintMore
attribute [local go_sem] max2_int min2_int max_two min_two max_three min_three max_four min_four
set_option linter.unusedVariables false
set_option linter.unusedSimpArgs false
def bits_CaseNe.f (k : Nat) (a0_0 : Int) (a0_1 : Int) (a0_2 : Int) (a1_0 : Int) (a1_1 : Int) (a1_2 : Int) : Option (Int × Int × Int) := (bits_CaseEq.f k a0_0 a0_1 a0_2 a1_0 a1_1 a1_2).bind fun bt1150 => ((bits_LNot.f k bt1150.1 bt1150.2.1 bt1150.2.2).bind fun bt1153 => (some (bt1153.1, bt1153.2.1, bt1153.2.2)))
set_option maxHeartbeats 8000000 in
set_option maxRecDepth 100000 in
theorem bits_CaseNe.calls (k : Nat) (a0_0 : Int) (a0_1 : Int) (a0_2 : Int) (a1_0 : Int) (a1_1 : Int) (a1_2 : Int) (r1 : Int) (r2 : Int) (r3 : Int) (w : World) (h : bits_CaseNe.f k a0_0 a0_1 a0_2 a1_0 a1_1 a1_2 = some (r1, r2, r3)) :
  Calls Tryd.prog 101 #[.agg #[.int .i64 a0_0, .int .u64 a0_1, .int .u64 a0_2], .agg #[.int .i64 a1_0, .int .u64 a1_1, .int .u64 a1_2]] w fun e w' => e = .returned (.agg #[.int .i64 r1, .int .u64 r2, .int .u64 r3]) ∧ Below w.heap.size w w' := by
 have hu24 := Tryd.underlying24
 have HB := Aside0.mk (Below.refl w.heap.size w)
 have H := h
 clear h
 unfold bits_CaseNe.f at H
 replace H := bN H; obtain ⟨⟨t1150, t1151, t1152⟩, A3, H⟩ := H; dsimp only at H
 replace H := bN H; obtain ⟨⟨t1153, t1154, t1155⟩, A4, H⟩ := H; dsimp only at H
 replace H := s3 H; obtain ⟨rfl, rfl, rfl⟩ := H
 go_enter Tryd.func101, Tryd.ntmps101
 go_wp2_with (first | (refine boxA HB 2 #[.int .i64 a0_0, .int .u64 a0_1, .int .u64 a0_2] 24 ?_; clear HB; intro gb1147 w5 BK1147 GE1147 hg hb HB; clear hb hg) | (refine boxA HB 3 #[.int .i64 a1_0, .int .u64 a1_1, .int .u64 a1_2] 24 ?_; clear HB; intro gb1148 w6 BK1148 GE1148 hg hb HB; have NB1147_1148 := nbA BK1147 hg; have NB1148_1147 := nbB BK1147 hg; replace BK1147 := bk1 BK1147 hb; clear hb hg) | (refine boxA HB 4 #[.int .i64 0, .int .u64 0, .int .u64 0] 24 ?_; clear HB; intro gb1149 w7 BK1149 GE1149 hg hb HB; have NB1147_1149 := nbA BK1147 hg; have NB1149_1147 := nbB BK1147 hg; replace BK1147 := bk1 BK1147 hb; have NB1148_1149 := nbA BK1148 hg; have NB1149_1148 := nbB BK1148 hg; replace BK1148 := bk1 BK1148 hb; clear hb hg; have hnb8 := NB1147_1148.out; have hnc8 := NB1148_1147.out; have hnb9 := NB1147_1149.out; have hnc9 := NB1149_1147.out; obtain ⟨hcz10_0, hcz10_1, hcz10_2, hfz10_0, hfz10_1, hfz10_2⟩ := cf3 BK1147; have hnb11 := NB1148_1149.out; have hnc11 := NB1149_1148.out; obtain ⟨hcz12_0, hcz12_1, hcz12_2, hfz12_0, hfz12_1, hfz12_2⟩ := cf3 BK1148) | (refine callA (some 7) Tryd.func100 #[.agg #[.int .i64 a0_0, .int .u64 a0_1, .int .u64 a0_2], .agg #[.int .i64 a1_0, .int .u64 a1_1, .int .u64 a1_2]] ?_; (with_reducible refine (bits_CaseEq.calls k a0_0 a0_1 a0_2 a1_0 a1_1 a1_2 t1150 t1151 t1152 _ A3.out).mono ?_); rintro e w13 ⟨rfl, hb⟩; refine ⟨_, rfl, ?_⟩; replace BK1147 := bk1 BK1147 hb; replace BK1148 := bk1 BK1148 hb; replace BK1149 := bk1 BK1149 hb; replace HB := hb1 HB hb; (try clear hb)) | (refine callA (some 8) Tryd.func115 #[.agg #[.int .i64 t1150, .int .u64 t1151, .int .u64 t1152]] ?_; (with_reducible refine (bits_LNot.calls k t1150 t1151 t1152 t1153 t1154 t1155 _ A4.out).mono ?_); rintro e w14 ⟨rfl, hb⟩; refine ⟨_, rfl, ?_⟩; replace BK1147 := bk1 BK1147 hb; replace BK1148 := bk1 BK1148 hb; replace BK1149 := bk1 BK1149 hb; replace HB := hb1 HB hb; (try clear hb); obtain ⟨hcz15_0, hcz15_1, hcz15_2, hfz15_0, hfz15_1, hfz15_2⟩ := cf3 BK1149))
 refine retA gb1149 24 #[.int .i64 t1153, .int .u64 t1154, .int .u64 t1155] (put3 BK1149) Tryd.underlying24 ?_
 exact ⟨by rfl, by repeat (with_reducible first | exact HB.out | refine below_set ?_ GE1149.out)⟩
end Go.Proofs.YtfigblfjogpojaaDoor.PBits
end
section
namespace Go.Proofs.YtfigblfjogpojaaDoor.PBits
open Go.RowKit Go.Proofs.YtfigblfjogpojaaDoorW.PrintWords Go.Proofs.YtfigblfjogpojaaDoorW.PrintLast Go.Proofs.YtfigblfjogpojaaDoorW.PrintMore
attribute [local go_sem] max2_int min2_int max_two min_two max_three min_three max_four min_four
set_option linter.unusedVariables false
set_option linter.unusedSimpArgs false
def bits_less.f (k : Nat) (a0_0 : Int) (a0_1 : Int) (a0_2 : Int) (a1_0 : Int) (a1_1 : Int) (a1_2 : Int) (a2 : Bool) : Option (Bool) := if a2 = true then ((bits_Int.f k a0_0 a0_1 a0_2).bind fun bt1158 => ((bits_Int.f k a1_0 a1_1 a1_2).bind fun bt1160 => (some (decide (bt1158.1 < bt1160.1))))) else (some (decide (a0_1 < a1_1)))
set_option maxHeartbeats 8000000 in
set_option maxRecDepth 100000 in
theorem bits_less.calls (k : Nat) (a0_0 : Int) (a0_1 : Int) (a0_2 : Int) (a1_0 : Int) (a1_1 : Int) (a1_2 : Int) (a2 : Bool) (r : Bool) (w : World) (h : bits_less.f k a0_0 a0_1 a0_2 a1_0 a1_1 a1_2 a2 = some r) :
  Calls Tryd.prog 116 #[.agg #[.int .i64 a0_0, .int .u64 a0_1, .int .u64 a0_2], .agg #[.int .i64 a1_0, .int .u64 a1_1, .int .u64 a1_2], .bool a2] w fun e w' => e = .returned (.bool r) ∧ Below w.heap.size w w' := by
 have hu24 := Tryd.underlying24
 have HB := Aside0.mk (Below.refl w.heap.size w)
 have H := h
 clear h
 unfold bits_less.f at H
 replace H := iB H; rcases H with ⟨rfl, H⟩ | ⟨rfl, H⟩
 ·replace H := bN H; obtain ⟨⟨t1158, t1159⟩, A5, H⟩ := H; dsimp only at H
  replace H := bN H; obtain ⟨⟨t1160, t1161⟩, A6, H⟩ := H; dsimp only at H
  obtain rfl := Option.some.inj H
  go_enter Tryd.func116, Tryd.ntmps116
  go_wp2_with (first | (refine boxA HB 3 #[.int .i64 a0_0, .int .u64 a0_1, .int .u64 a0_2] 24 ?_; clear HB; intro gb1156 w7 BK1156 GE1156 hg hb HB; clear hb hg) | (refine boxA HB 4 #[.int .i64 a1_0, .int .u64 a1_1, .int .u64 a1_2] 24 ?_; clear HB; intro gb1157 w8 BK1157 GE1157 hg hb HB; have NB1156_1157 := nbA BK1156 hg; have NB1157_1156 := nbB BK1156 hg; replace BK1156 := bk1 BK1156 hb; clear hb hg; have hnb9 := NB1156_1157.out; have hnc9 := NB1157_1156.out; obtain ⟨hcz10_0, hcz10_1, hcz10_2, hfz10_0, hfz10_1, hfz10_2⟩ := cf3 BK1156) | (refine callA (some 20) Tryd.func19 #[.agg #[.int .i64 a0_0, .int .u64 a0_1, .int .u64 a0_2]] ?_; (with_reducible refine (bits_Int.calls k a0_0 a0_1 a0_2 t1158 t1159 _ A5.out).mono ?_); rintro e w11 ⟨rfl, hb⟩; refine ⟨_, rfl, ?_⟩; replace BK1156 := bk1 BK1156 hb; replace BK1157 := bk1 BK1157 hb; replace HB := hb1 HB hb; (try clear hb); obtain ⟨hcz12_0, hcz12_1, hcz12_2, hfz12_0, hfz12_1, hfz12_2⟩ := cf3 BK1157) | (refine callA (some 25) Tryd.func19 #[.agg #[.int .i64 a1_0, .int .u64 a1_1, .int .u64 a1_2]] ?_; (with_reducible refine (bits_Int.calls k a1_0 a1_1 a1_2 t1160 t1161 _ A6.out).mono ?_); rintro e w13 ⟨rfl, hb⟩; refine ⟨_, rfl, ?_⟩; replace BK1156 := bk1 BK1156 hb; replace BK1157 := bk1 BK1157 hb; replace HB := hb1 HB hb; (try clear hb)))
  go_ret
  exact ⟨by rfl, by repeat (with_reducible exact HB.out)⟩
 ·obtain rfl := Option.some.inj H
  go_enter Tryd.func116, Tryd.ntmps116
  go_wp2_with (first | (refine boxA HB 3 #[.int .i64 a0_0, .int .u64 a0_1, .int .u64 a0_2] 24 ?_; clear HB; intro gb1156 w14 BK1156 GE1156 hg hb HB; clear hb hg) | (refine boxA HB 4 #[.int .i64 a1_0, .int .u64 a1_1, .int .u64 a1_2] 24 ?_; clear HB; intro gb1157 w15 BK1157 GE1157 hg hb HB; have NB1156_1157 := nbA BK1156 hg; have NB1157_1156 := nbB BK1156 hg; replace BK1156 := bk1 BK1156 hb; clear hb hg; have hnb16 := NB1156_1157.out; have hnc16 := NB1157_1156.out; obtain ⟨hcz17_0, hcz17_1, hcz17_2, hfz17_0, hfz17_1, hfz17_2⟩ := cf3 BK1156; obtain ⟨hcz18_0, hcz18_1, hcz18_2, hfz18_0, hfz18_1, hfz18_2⟩ := cf3 BK1157))
  go_ret
  exact ⟨by rfl, by repeat (with_reducible exact HB.out)⟩
end Go.Proofs.YtfigblfjogpojaaDoor.PBits
end
section
namespace Go.Proofs.YtfigblfjogpojaaDoor.PBits
open Go.RowKit Go.Proofs.YtfigblfjogpojaaDoorW.PrintWords Go.Proofs.YtfigblfjogpojaaDoorW.PrintLast Go.Proofs.YtfigblfjogpojaaDoorW.PrintMore
attribute [local go_sem] max2_int min2_int max_two min_two max_three min_three max_four min_four
set_option linter.unusedVariables false
set_option linter.unusedSimpArgs false
def bits_Lt.f (k : Nat) (a0_0 : Int) (a0_1 : Int) (a0_2 : Int) (a1_0 : Int) (a1_1 : Int) (a1_2 : Int) (a2 : Bool) : Option (Int × Int × Int) := (bits_alike.f k a0_0 a0_1 a0_2 a1_0 a1_1 a1_2).bind fun t1165 => (if t1165 = true then (if (Go.bits .or .u64 a0_2 a1_2) = 0 then ((bits_less.f k a0_0 a0_1 a0_2 a1_0 a1_1 a1_2 a2).bind fun t1166 => (if t1166 = true then ((bits_truth.f 1).bind fun bt1167 => (some (bt1167.1, bt1167.2.1, bt1167.2.2))) else ((bits_truth.f 0).bind fun bt1170 => (some (bt1170.1, bt1170.2.1, bt1170.2.2))))) else ((bits_truth.f (-1)).bind fun bt1173 => (some (bt1173.1, bt1173.2.1, bt1173.2.2)))) else (some (0, 0, 0)))
set_option maxHeartbeats 8000000 in
set_option maxRecDepth 100000 in
theorem bits_Lt.calls (k : Nat) (a0_0 : Int) (a0_1 : Int) (a0_2 : Int) (a1_0 : Int) (a1_1 : Int) (a1_2 : Int) (a2 : Bool) (r1 : Int) (r2 : Int) (r3 : Int) (w : World) (h : bits_Lt.f k a0_0 a0_1 a0_2 a1_0 a1_1 a1_2 a2 = some (r1, r2, r3)) :
  Calls Tryd.prog 102 #[.agg #[.int .i64 a0_0, .int .u64 a0_1, .int .u64 a0_2], .agg #[.int .i64 a1_0, .int .u64 a1_1, .int .u64 a1_2], .bool a2] w fun e w' => e = .returned (.agg #[.int .i64 r1, .int .u64 r2, .int .u64 r3]) ∧ Below w.heap.size w w' := by
 have hu24 := Tryd.underlying24
 have HB := Aside0.mk (Below.refl w.heap.size w)
 have H := h
 clear h
 unfold bits_Lt.f at H
 replace H := bN H; obtain ⟨t1165, A4, H⟩ := H
 replace H := iB H; rcases H with ⟨rfl, H⟩ | ⟨rfl, H⟩
 ·replace H := iE H; rcases H with ⟨c6b0, c6b1, H⟩ | ⟨c6, c6b0, c6b1, H⟩
  ·replace H := bN H; obtain ⟨t1166, A7, H⟩ := H
   replace H := iB H; rcases H with ⟨rfl, H⟩ | ⟨rfl, H⟩
   ·replace H := bN H; obtain ⟨⟨t1167, t1168, t1169⟩, A9, H⟩ := H; dsimp only at H
    replace H := s3 H; obtain ⟨rfl, rfl, rfl⟩ := H
    go_enter Tryd.func102, Tryd.ntmps102
    go_wp2_with (first | (refine boxA HB 3 #[.int .i64 a0_0, .int .u64 a0_1, .int .u64 a0_2] 24 ?_; clear HB; intro gb1162 w10 BK1162 GE1162 hg hb HB; clear hb hg) | (refine boxA HB 4 #[.int .i64 a1_0, .int .u64 a1_1, .int .u64 a1_2] 24 ?_; clear HB; intro gb1163 w11 BK1163 GE1163 hg hb HB; have NB1162_1163 := nbA BK1162 hg; have NB1163_1162 := nbB BK1162 hg; replace BK1162 := bk1 BK1162 hb; clear hb hg) | (refine boxA HB 6 #[.int .i64 0, .int .u64 0, .int .u64 0] 24 ?_; clear HB; intro gb1164 w12 BK1164 GE1164 hg hb HB; have NB1162_1164 := nbA BK1162 hg; have NB1164_1162 := nbB BK1162 hg; replace BK1162 := bk1 BK1162 hb; have NB1163_1164 := nbA BK1163 hg; have NB1164_1163 := nbB BK1163 hg; replace BK1163 := bk1 BK1163 hb; clear hb hg; have hnb13 := NB1162_1163.out; have hnc13 := NB1163_1162.out; have hnb14 := NB1162_1164.out; have hnc14 := NB1164_1162.out; obtain ⟨hcz15_0, hcz15_1, hcz15_2, hfz15_0, hfz15_1, hfz15_2⟩ := cf3 BK1162; have hnb16 := NB1163_1164.out; have hnc16 := NB1164_1163.out; obtain ⟨hcz17_0, hcz17_1, hcz17_2, hfz17_0, hfz17_1, hfz17_2⟩ := cf3 BK1163) | (refine callA (some 10) Tryd.func66 #[.agg #[.int .i64 a0_0, .int .u64 a0_1, .int .u64 a0_2], .agg #[.int .i64 a1_0, .int .u64 a1_1, .int .u64 a1_2]] ?_; (with_reducible refine (bits_alike.calls k a0_0 a0_1 a0_2 a1_0 a1_1 a1_2 true _ A4.out).mono ?_); rintro e w18 ⟨rfl, hb⟩; refine ⟨_, rfl, ?_⟩; replace BK1162 := bk1 BK1162 hb; replace BK1163 := bk1 BK1163 hb; replace BK1164 := bk1 BK1164 hb; replace HB := hb1 HB hb; (try clear hb); obtain ⟨hcz19_0, hcz19_1, hcz19_2, hfz19_0, hfz19_1, hfz19_2⟩ := cf3 BK1162; obtain ⟨hcz20_0, hcz20_1, hcz20_2, hfz20_0, hfz20_1, hfz20_2⟩ := cf3 BK1163) | (refine callA (some 25) Tryd.func116 #[.agg #[.int .i64 a0_0, .int .u64 a0_1, .int .u64 a0_2], .agg #[.int .i64 a1_0, .int .u64 a1_1, .int .u64 a1_2], .bool a2] ?_; (with_reducible refine (bits_less.calls k a0_0 a0_1 a0_2 a1_0 a1_1 a1_2 a2 true _ A7.out).mono ?_); rintro e w21 ⟨rfl, hb⟩; refine ⟨_, rfl, ?_⟩; replace BK1162 := bk1 BK1162 hb; replace BK1163 := bk1 BK1163 hb; replace BK1164 := bk1 BK1164 hb; replace HB := hb1 HB hb; (try clear hb)) | (refine callA (some 26) Tryd.func112 #[.int .i64 1] ?_; (with_reducible refine (bits_truth.calls 1 t1167 t1168 t1169 _ A9.out).mono ?_); rintro e w22 ⟨rfl, hb⟩; refine ⟨_, rfl, ?_⟩; replace BK1162 := bk1 BK1162 hb; replace BK1163 := bk1 BK1163 hb; replace BK1164 := bk1 BK1164 hb; replace HB := hb1 HB hb; (try clear hb); obtain ⟨hcz23_0, hcz23_1, hcz23_2, hfz23_0, hfz23_1, hfz23_2⟩ := cf3 BK1164))
    refine retA gb1164 24 #[.int .i64 t1167, .int .u64 t1168, .int .u64 t1169] (put3 BK1164) Tryd.underlying24 ?_
    exact ⟨by rfl, by repeat (with_reducible first | exact HB.out | refine below_set ?_ GE1164.out)⟩
   ·replace H := bN H; obtain ⟨⟨t1170, t1171, t1172⟩, A24, H⟩ := H; dsimp only at H
    replace H := s3 H; obtain ⟨rfl, rfl, rfl⟩ := H
    go_enter Tryd.func102, Tryd.ntmps102
    go_wp2_with (first | (refine boxA HB 3 #[.int .i64 a0_0, .int .u64 a0_1, .int .u64 a0_2] 24 ?_; clear HB; intro gb1162 w25 BK1162 GE1162 hg hb HB; clear hb hg) | (refine boxA HB 4 #[.int .i64 a1_0, .int .u64 a1_1, .int .u64 a1_2] 24 ?_; clear HB; intro gb1163 w26 BK1163 GE1163 hg hb HB; have NB1162_1163 := nbA BK1162 hg; have NB1163_1162 := nbB BK1162 hg; replace BK1162 := bk1 BK1162 hb; clear hb hg) | (refine boxA HB 6 #[.int .i64 0, .int .u64 0, .int .u64 0] 24 ?_; clear HB; intro gb1164 w27 BK1164 GE1164 hg hb HB; have NB1162_1164 := nbA BK1162 hg; have NB1164_1162 := nbB BK1162 hg; replace BK1162 := bk1 BK1162 hb; have NB1163_1164 := nbA BK1163 hg; have NB1164_1163 := nbB BK1163 hg; replace BK1163 := bk1 BK1163 hb; clear hb hg; have hnb28 := NB1162_1163.out; have hnc28 := NB1163_1162.out; have hnb29 := NB1162_1164.out; have hnc29 := NB1164_1162.out; obtain ⟨hcz30_0, hcz30_1, hcz30_2, hfz30_0, hfz30_1, hfz30_2⟩ := cf3 BK1162; have hnb31 := NB1163_1164.out; have hnc31 := NB1164_1163.out; obtain ⟨hcz32_0, hcz32_1, hcz32_2, hfz32_0, hfz32_1, hfz32_2⟩ := cf3 BK1163) | (refine callA (some 10) Tryd.func66 #[.agg #[.int .i64 a0_0, .int .u64 a0_1, .int .u64 a0_2], .agg #[.int .i64 a1_0, .int .u64 a1_1, .int .u64 a1_2]] ?_; (with_reducible refine (bits_alike.calls k a0_0 a0_1 a0_2 a1_0 a1_1 a1_2 true _ A4.out).mono ?_); rintro e w33 ⟨rfl, hb⟩; refine ⟨_, rfl, ?_⟩; replace BK1162 := bk1 BK1162 hb; replace BK1163 := bk1 BK1163 hb; replace BK1164 := bk1 BK1164 hb; replace HB := hb1 HB hb; (try clear hb); obtain ⟨hcz34_0, hcz34_1, hcz34_2, hfz34_0, hfz34_1, hfz34_2⟩ := cf3 BK1162; obtain ⟨hcz35_0, hcz35_1, hcz35_2, hfz35_0, hfz35_1, hfz35_2⟩ := cf3 BK1163) | (refine callA (some 25) Tryd.func116 #[.agg #[.int .i64 a0_0, .int .u64 a0_1, .int .u64 a0_2], .agg #[.int .i64 a1_0, .int .u64 a1_1, .int .u64 a1_2], .bool a2] ?_; (with_reducible refine (bits_less.calls k a0_0 a0_1 a0_2 a1_0 a1_1 a1_2 a2 false _ A7.out).mono ?_); rintro e w36 ⟨rfl, hb⟩; refine ⟨_, rfl, ?_⟩; replace BK1162 := bk1 BK1162 hb; replace BK1163 := bk1 BK1163 hb; replace BK1164 := bk1 BK1164 hb; replace HB := hb1 HB hb; (try clear hb)) | (refine callA (some 27) Tryd.func112 #[.int .i64 0] ?_; (with_reducible refine (bits_truth.calls 0 t1170 t1171 t1172 _ A24.out).mono ?_); rintro e w37 ⟨rfl, hb⟩; refine ⟨_, rfl, ?_⟩; replace BK1162 := bk1 BK1162 hb; replace BK1163 := bk1 BK1163 hb; replace BK1164 := bk1 BK1164 hb; replace HB := hb1 HB hb; (try clear hb); obtain ⟨hcz38_0, hcz38_1, hcz38_2, hfz38_0, hfz38_1, hfz38_2⟩ := cf3 BK1164))
    refine retA gb1164 24 #[.int .i64 t1170, .int .u64 t1171, .int .u64 t1172] (put3 BK1164) Tryd.underlying24 ?_
    exact ⟨by rfl, by repeat (with_reducible first | exact HB.out | refine below_set ?_ GE1164.out)⟩
  ·replace H := bN H; obtain ⟨⟨t1173, t1174, t1175⟩, A39, H⟩ := H; dsimp only at H
   replace H := s3 H; obtain ⟨rfl, rfl, rfl⟩ := H
   go_enter Tryd.func102, Tryd.ntmps102
   go_wp2_with (first | (refine boxA HB 3 #[.int .i64 a0_0, .int .u64 a0_1, .int .u64 a0_2] 24 ?_; clear HB; intro gb1162 w40 BK1162 GE1162 hg hb HB; clear hb hg) | (refine boxA HB 4 #[.int .i64 a1_0, .int .u64 a1_1, .int .u64 a1_2] 24 ?_; clear HB; intro gb1163 w41 BK1163 GE1163 hg hb HB; have NB1162_1163 := nbA BK1162 hg; have NB1163_1162 := nbB BK1162 hg; replace BK1162 := bk1 BK1162 hb; clear hb hg) | (refine boxA HB 6 #[.int .i64 0, .int .u64 0, .int .u64 0] 24 ?_; clear HB; intro gb1164 w42 BK1164 GE1164 hg hb HB; have NB1162_1164 := nbA BK1162 hg; have NB1164_1162 := nbB BK1162 hg; replace BK1162 := bk1 BK1162 hb; have NB1163_1164 := nbA BK1163 hg; have NB1164_1163 := nbB BK1163 hg; replace BK1163 := bk1 BK1163 hb; clear hb hg; have hnb43 := NB1162_1163.out; have hnc43 := NB1163_1162.out; have hnb44 := NB1162_1164.out; have hnc44 := NB1164_1162.out; obtain ⟨hcz45_0, hcz45_1, hcz45_2, hfz45_0, hfz45_1, hfz45_2⟩ := cf3 BK1162; have hnb46 := NB1163_1164.out; have hnc46 := NB1164_1163.out; obtain ⟨hcz47_0, hcz47_1, hcz47_2, hfz47_0, hfz47_1, hfz47_2⟩ := cf3 BK1163) | (refine callA (some 10) Tryd.func66 #[.agg #[.int .i64 a0_0, .int .u64 a0_1, .int .u64 a0_2], .agg #[.int .i64 a1_0, .int .u64 a1_1, .int .u64 a1_2]] ?_; (with_reducible refine (bits_alike.calls k a0_0 a0_1 a0_2 a1_0 a1_1 a1_2 true _ A4.out).mono ?_); rintro e w48 ⟨rfl, hb⟩; refine ⟨_, rfl, ?_⟩; replace BK1162 := bk1 BK1162 hb; replace BK1163 := bk1 BK1163 hb; replace BK1164 := bk1 BK1164 hb; replace HB := hb1 HB hb; (try clear hb); obtain ⟨hcz49_0, hcz49_1, hcz49_2, hfz49_0, hfz49_1, hfz49_2⟩ := cf3 BK1162; obtain ⟨hcz50_0, hcz50_1, hcz50_2, hfz50_0, hfz50_1, hfz50_2⟩ := cf3 BK1163) | (refine callA (some 20) Tryd.func112 #[.int .i64 (-1)] ?_; (with_reducible refine (bits_truth.calls (-1) t1173 t1174 t1175 _ A39.out).mono ?_); rintro e w51 ⟨rfl, hb⟩; refine ⟨_, rfl, ?_⟩; replace BK1162 := bk1 BK1162 hb; replace BK1163 := bk1 BK1163 hb; replace BK1164 := bk1 BK1164 hb; replace HB := hb1 HB hb; (try clear hb); obtain ⟨hcz52_0, hcz52_1, hcz52_2, hfz52_0, hfz52_1, hfz52_2⟩ := cf3 BK1164))
   refine retA gb1164 24 #[.int .i64 t1173, .int .u64 t1174, .int .u64 t1175] (put3 BK1164) Tryd.underlying24 ?_
   exact ⟨by rfl, by repeat (with_reducible first | exact HB.out | refine below_set ?_ GE1164.out)⟩
 ·replace H := s3 H; obtain ⟨rfl, rfl, rfl⟩ := H
  go_enter Tryd.func102, Tryd.ntmps102
  go_wp2_with (first | (refine boxA HB 3 #[.int .i64 a0_0, .int .u64 a0_1, .int .u64 a0_2] 24 ?_; clear HB; intro gb1162 w53 BK1162 GE1162 hg hb HB; clear hb hg) | (refine boxA HB 4 #[.int .i64 a1_0, .int .u64 a1_1, .int .u64 a1_2] 24 ?_; clear HB; intro gb1163 w54 BK1163 GE1163 hg hb HB; have NB1162_1163 := nbA BK1162 hg; have NB1163_1162 := nbB BK1162 hg; replace BK1162 := bk1 BK1162 hb; clear hb hg) | (refine boxA HB 6 #[.int .i64 0, .int .u64 0, .int .u64 0] 24 ?_; clear HB; intro gb1164 w55 BK1164 GE1164 hg hb HB; have NB1162_1164 := nbA BK1162 hg; have NB1164_1162 := nbB BK1162 hg; replace BK1162 := bk1 BK1162 hb; have NB1163_1164 := nbA BK1163 hg; have NB1164_1163 := nbB BK1163 hg; replace BK1163 := bk1 BK1163 hb; clear hb hg; have hnb56 := NB1162_1163.out; have hnc56 := NB1163_1162.out; have hnb57 := NB1162_1164.out; have hnc57 := NB1164_1162.out; obtain ⟨hcz58_0, hcz58_1, hcz58_2, hfz58_0, hfz58_1, hfz58_2⟩ := cf3 BK1162; have hnb59 := NB1163_1164.out; have hnc59 := NB1164_1163.out; obtain ⟨hcz60_0, hcz60_1, hcz60_2, hfz60_0, hfz60_1, hfz60_2⟩ := cf3 BK1163) | (refine callA (some 10) Tryd.func66 #[.agg #[.int .i64 a0_0, .int .u64 a0_1, .int .u64 a0_2], .agg #[.int .i64 a1_0, .int .u64 a1_1, .int .u64 a1_2]] ?_; (with_reducible refine (bits_alike.calls k a0_0 a0_1 a0_2 a1_0 a1_1 a1_2 false _ A4.out).mono ?_); rintro e w61 ⟨rfl, hb⟩; refine ⟨_, rfl, ?_⟩; replace BK1162 := bk1 BK1162 hb; replace BK1163 := bk1 BK1163 hb; replace BK1164 := bk1 BK1164 hb; replace HB := hb1 HB hb; (try clear hb); obtain ⟨hcz62_0, hcz62_1, hcz62_2, hfz62_0, hfz62_1, hfz62_2⟩ := cf3 BK1164))
  refine retA gb1164 24 #[.int .i64 0, .int .u64 0, .int .u64 0] (put3 BK1164) Tryd.underlying24 ?_
  exact ⟨by rfl, by repeat (with_reducible first | exact HB.out | refine below_set ?_ GE1164.out)⟩
end Go.Proofs.YtfigblfjogpojaaDoor.PBits
end
section
namespace Go.Proofs.YtfigblfjogpojaaDoor.PBits
open Go.RowKit Go.Proofs.YtfigblfjogpojaaDoorW.PrintWords Go.Proofs.YtfigblfjogpojaaDoorW.PrintLast Go.Proofs.YtfigblfjogpojaaDoorW.PrintMore
attribute [local go_sem] max2_int min2_int max_two min_two max_three min_three max_four min_four
set_option linter.unusedVariables false
set_option linter.unusedSimpArgs false
def bits_Le.f (k : Nat) (a0_0 : Int) (a0_1 : Int) (a0_2 : Int) (a1_0 : Int) (a1_1 : Int) (a1_2 : Int) (a2 : Bool) : Option (Int × Int × Int) := (bits_Lt.f k a1_0 a1_1 a1_2 a0_0 a0_1 a0_2 a2).bind fun bt1179 => ((bits_LNot.f k bt1179.1 bt1179.2.1 bt1179.2.2).bind fun bt1182 => (some (bt1182.1, bt1182.2.1, bt1182.2.2)))
set_option maxHeartbeats 8000000 in
set_option maxRecDepth 100000 in
theorem bits_Le.calls (k : Nat) (a0_0 : Int) (a0_1 : Int) (a0_2 : Int) (a1_0 : Int) (a1_1 : Int) (a1_2 : Int) (a2 : Bool) (r1 : Int) (r2 : Int) (r3 : Int) (w : World) (h : bits_Le.f k a0_0 a0_1 a0_2 a1_0 a1_1 a1_2 a2 = some (r1, r2, r3)) :
  Calls Tryd.prog 103 #[.agg #[.int .i64 a0_0, .int .u64 a0_1, .int .u64 a0_2], .agg #[.int .i64 a1_0, .int .u64 a1_1, .int .u64 a1_2], .bool a2] w fun e w' => e = .returned (.agg #[.int .i64 r1, .int .u64 r2, .int .u64 r3]) ∧ Below w.heap.size w w' := by
 have hu24 := Tryd.underlying24
 have HB := Aside0.mk (Below.refl w.heap.size w)
 have H := h
 clear h
 unfold bits_Le.f at H
 replace H := bN H; obtain ⟨⟨t1179, t1180, t1181⟩, A4, H⟩ := H; dsimp only at H
 replace H := bN H; obtain ⟨⟨t1182, t1183, t1184⟩, A5, H⟩ := H; dsimp only at H
 replace H := s3 H; obtain ⟨rfl, rfl, rfl⟩ := H
 go_enter Tryd.func103, Tryd.ntmps103
 go_wp2_with (first | (refine boxA HB 3 #[.int .i64 a0_0, .int .u64 a0_1, .int .u64 a0_2] 24 ?_; clear HB; intro gb1176 w6 BK1176 GE1176 hg hb HB; clear hb hg) | (refine boxA HB 4 #[.int .i64 a1_0, .int .u64 a1_1, .int .u64 a1_2] 24 ?_; clear HB; intro gb1177 w7 BK1177 GE1177 hg hb HB; have NB1176_1177 := nbA BK1176 hg; have NB1177_1176 := nbB BK1176 hg; replace BK1176 := bk1 BK1176 hb; clear hb hg) | (refine boxA HB 6 #[.int .i64 0, .int .u64 0, .int .u64 0] 24 ?_; clear HB; intro gb1178 w8 BK1178 GE1178 hg hb HB; have NB1176_1178 := nbA BK1176 hg; have NB1178_1176 := nbB BK1176 hg; replace BK1176 := bk1 BK1176 hb; have NB1177_1178 := nbA BK1177 hg; have NB1178_1177 := nbB BK1177 hg; replace BK1177 := bk1 BK1177 hb; clear hb hg; have hnb9 := NB1177_1176.out; have hnc9 := NB1176_1177.out; have hnb10 := NB1177_1178.out; have hnc10 := NB1178_1177.out; obtain ⟨hcz11_0, hcz11_1, hcz11_2, hfz11_0, hfz11_1, hfz11_2⟩ := cf3 BK1177; have hnb12 := NB1176_1178.out; have hnc12 := NB1178_1176.out; obtain ⟨hcz13_0, hcz13_1, hcz13_2, hfz13_0, hfz13_1, hfz13_2⟩ := cf3 BK1176) | (refine callA (some 10) Tryd.func102 #[.agg #[.int .i64 a1_0, .int .u64 a1_1, .int .u64 a1_2], .agg #[.int .i64 a0_0, .int .u64 a0_1, .int .u64 a0_2], .bool a2] ?_; (with_reducible refine (bits_Lt.calls k a1_0 a1_1 a1_2 a0_0 a0_1 a0_2 a2 t1179 t1180 t1181 _ A4.out).mono ?_); rintro e w14 ⟨rfl, hb⟩; refine ⟨_, rfl, ?_⟩; replace BK1176 := bk1 BK1176 hb; replace BK1177 := bk1 BK1177 hb; replace BK1178 := bk1 BK1178 hb; replace HB := hb1 HB hb; (try clear hb)) | (refine callA (some 11) Tryd.func115 #[.agg #[.int .i64 t1179, .int .u64 t1180, .int .u64 t1181]] ?_; (with_reducible refine (bits_LNot.calls k t1179 t1180 t1181 t1182 t1183 t1184 _ A5.out).mono ?_); rintro e w15 ⟨rfl, hb⟩; refine ⟨_, rfl, ?_⟩; replace BK1176 := bk1 BK1176 hb; replace BK1177 := bk1 BK1177 hb; replace BK1178 := bk1 BK1178 hb; replace HB := hb1 HB hb; (try clear hb); obtain ⟨hcz16_0, hcz16_1, hcz16_2, hfz16_0, hfz16_1, hfz16_2⟩ := cf3 BK1178))
 refine retA gb1178 24 #[.int .i64 t1182, .int .u64 t1183, .int .u64 t1184] (put3 BK1178) Tryd.underlying24 ?_
 exact ⟨by rfl, by repeat (with_reducible first | exact HB.out | refine below_set ?_ GE1178.out)⟩
end Go.Proofs.YtfigblfjogpojaaDoor.PBits
end
