/- Part 19 of the proof of NotePlacesCardSaid: The law NotePlaces: for all arguments it returns true; each argument reads behind the call as it read before. Out of the plain theorem of YtlamgdibnnmbmaaDoorPureNotePlaces and the printed contract. -/
import Derived.Test.YtlamgdibnnmbmaaDoorProg
import Derived.Below
import Derived.Deep.Draws
import Derived.Deep.AppendLies
import Derived.Maps.AppendAt
import Derived.OwnWalk
import Derived.Laws.BytesArg
import Derived.Laws.MakeOwn
import Derived.Laws.OwnMore
import Derived.Deep.OwnRows
import Derived.Tactics
import Derived.Lib.ConvBytes
import Derived.Laws.Slices
import Derived.WalkKit
import Derived.KernelRfl
import Derived.RowKit3
import Derived.Deep.LoopGhost
import Derived.Deep.QuietTactic
import Derived.BigQuiet
import Derived.WideLaws
import Derived.Deep.DeepCutAuto
import Derived.Deep.CutBlock
import Derived.Deep.RegionHeld3
import Derived.Laws.Rows
import Derived.Lib.AppendStr
import Derived.ArgAppend
import Derived.Laws.IdiomCopy
import Derived.OrdersHeld
import Derived.Laws.BitsLemmas
import Derived.RowKit
import Derived.Test.YtlamgdibnnmbmaaDoorQNotePlaces0
import Derived.Test.YtlamgdibnnmbmaaDoorQNotePlaces1
import Derived.Test.YtlamgdibnnmbmaaDoorQNotePlaces9
import Derived.Test.YtlamgdibnnmbmaaDoorQNotePlaces2
import Derived.Test.YtlamgdibnnmbmaaDoorQNotePlaces3
import Derived.Test.YtlamgdibnnmbmaaDoorQNotePlaces4
import Derived.Test.YtlamgdibnnmbmaaDoorQNotePlaces5
import Derived.Test.YtlamgdibnnmbmaaDoorQNotePlaces6
import Derived.Laws.StructEq
import Derived.Test.YtlamgdibnnmbmaaDoorQNotePlaces10
import Derived.Test.YtlamgdibnnmbmaaDoorQNotePlaces7
import Derived.Test.YtlamgdibnnmbmaaDoorQNotePlaces16
import Derived.Test.YtlamgdibnnmbmaaDoorQNotePlaces17
import Derived.Test.YtlamgdibnnmbmaaDoorQNotePlaces15
import Derived.Test.YtlamgdibnnmbmaaDoorQNotePlaces12
section
namespace Go.Proofs.YtlamgdibnnmbmaaDoor.PNote
open Go.RowKit Go.Proofs.YtlamgdibnnmbmaaDoorW.PrintWords Go.Proofs.YtlamgdibnnmbmaaDoorW.PrintLast Go.Proofs.YtlamgdibnnmbmaaDoorW.PrintMore
attribute [local go_sem] max2_int min2_int max_two min_two max_three min_three max_four min_four
set_option linter.unusedVariables false
set_option linter.unusedSimpArgs false
def note_Text.f (k : Nat) (a0_0 : ByteArray) (a0_1 : Int) (a0_2 : Int) (a0_3 : Int) (a0_4 : ByteArray) : Option (ByteArray × Int) := (note_Check.f k a0_0 a0_1 a0_2 a0_3 a0_4).bind fun t106 => (if t106 = 0 then (if a0_0.size + 1 ≤ 9223372036854775807 then ((strconv_Itoa.f a0_1).bind fun t107 => (if (a0_0 ++ (⟨#[58]⟩ : ByteArray)).size + t107.size ≤ 9223372036854775807 then (if ((a0_0 ++ (⟨#[58]⟩ : ByteArray)) ++ t107).size + 1 ≤ 9223372036854775807 then ((strconv_Itoa.f a0_2).bind fun t108 => (if (((a0_0 ++ (⟨#[58]⟩ : ByteArray)) ++ t107) ++ (⟨#[58]⟩ : ByteArray)).size + t108.size ≤ 9223372036854775807 then (if ((((a0_0 ++ (⟨#[58]⟩ : ByteArray)) ++ t107) ++ (⟨#[58]⟩ : ByteArray)) ++ t108).size + 2 ≤ 9223372036854775807 then ((note_Name.f a0_3).bind fun t109 => (if (((((a0_0 ++ (⟨#[58]⟩ : ByteArray)) ++ t107) ++ (⟨#[58]⟩ : ByteArray)) ++ t108) ++ (⟨#[58, 32]⟩ : ByteArray)).size + t109.size ≤ 9223372036854775807 then (if a0_4.toList = ([] : List UInt8) then (some ((((((a0_0 ++ (⟨#[58]⟩ : ByteArray)) ++ t107) ++ (⟨#[58]⟩ : ByteArray)) ++ t108) ++ (⟨#[58, 32]⟩ : ByteArray)) ++ t109, 0)) else (if 1 + a0_4.size ≤ 9223372036854775807 then (if ((((((a0_0 ++ (⟨#[58]⟩ : ByteArray)) ++ t107) ++ (⟨#[58]⟩ : ByteArray)) ++ t108) ++ (⟨#[58, 32]⟩ : ByteArray)) ++ t109).size + ((⟨#[32]⟩ : ByteArray) ++ a0_4).size ≤ 9223372036854775807 then (some (((((((a0_0 ++ (⟨#[58]⟩ : ByteArray)) ++ t107) ++ (⟨#[58]⟩ : ByteArray)) ++ t108) ++ (⟨#[58, 32]⟩ : ByteArray)) ++ t109) ++ ((⟨#[32]⟩ : ByteArray) ++ a0_4), 0)) else (none)) else (none))) else (none))) else (none)) else (none))) else (none)) else (none))) else (none)) else (some ((⟨#[]⟩ : ByteArray), t106)))
theorem note_Text.mono : ∀ a0 a1 a2 a3 a4 k, LeO (note_Text.f k a0 a1 a2 a3 a4) (note_Text.f (k + 1) a0 a1 a2 a3 a4) := by
 intro a0 a1 a2 a3 a4 k
 unfold note_Text.f
 repeat' first | with_reducible exact note_Check.mono _ _ _ _ _ _ | with_reducible exact LeO.refl _ | with_reducible exact LeO.none _ | with_reducible refine LeO.ite ?_ ?_ | with_reducible refine LeO.bind ?_ (fun _ => ?_)
def note_Text.T4 : Bool × List (List Nat × List Nat) := (true, [([], []), ([0], [0]), ([1], [1]), ([], []), ([3], [3]), ([4], [4]), ([2, 5], [2, 5]), ([6], [6]), ([], []), ([8], [8]), ([9, 5], [9]), ([7, 10], [7, 10]), ([11], [11]), ([], []), ([13], [13]), ([14, 10], [14]), ([12, 15], [12, 15]), ([16, 15, 0, 1, 2, 3, 4, 5, 6, 7, 8, 9, 10, 11, 12, 13, 14, 15, 16], [16])])
def note_Text.B4 : List Nat := [0, 1, 3, 0, 8, 24, 63, 127, 0, 256, 824, 2047, 4095, 0, 8192, 26424, 65535, 131071]
theorem note_Text.tab4 : rtab .any (opsOf Tryd.f9 4) = note_Text.T4 := by kernel_rfl
theorem note_Text.bits4 : waitsOk note_Text.T4.2 note_Text.B4 = true := by kernel_rfl
set_option maxHeartbeats 8000000 in
set_option maxRecDepth 100000 in
theorem note_Text.calls (k : Nat) (a0_0 : ByteArray) (a0_1 : Int) (a0_2 : Int) (a0_3 : Int) (a0_4 : ByteArray) (r1 : ByteArray) (r2 : Int) (w : World) (h : note_Text.f k a0_0 a0_1 a0_2 a0_3 a0_4 = some (r1, r2)) :
  Calls Tryd.prog 9 #[.agg #[.string a0_0, .int .i64 a0_1, .int .i64 a0_2, .int .i64 a0_3, .string a0_4]] w fun e w' => e = .returned (.tuple #[.string r1, .int .i64 r2]) ∧ Below w.heap.size w w' := by
 have hu24 := Tryd.underlying24
 have HB := Aside0.mk (Below.refl w.heap.size w)
 have H := h
 clear h
 unfold note_Text.f at H
 replace H := bN H; obtain ⟨t106, A2, H⟩ := H
 replace H := iE H; rcases H with ⟨c3b0, c3b1, H⟩ | ⟨c3, c3b0, c3b1, H⟩
 ·by_cases c4 : a0_0.size + 1 ≤ 9223372036854775807
  ·rw [if_pos c4] at H
   have c4b0 := eq_true c4
   have c4b1 : decide (a0_0.size + 1 ≤ 9223372036854775807) = true := decide_eq_true c4
   try have c4b2 : (9223372036854775807 < a0_0.size + 1) = False := eq_false (Nat.not_lt.2 c4)
   replace H := bN H; obtain ⟨t107, A5, H⟩ := H
   by_cases c6 : (a0_0 ++ (⟨#[58]⟩ : ByteArray)).size + t107.size ≤ 9223372036854775807
   ·rw [if_pos c6] at H
    have c6b0 := eq_true c6
    have c6b1 : decide ((a0_0 ++ (⟨#[58]⟩ : ByteArray)).size + t107.size ≤ 9223372036854775807) = true := decide_eq_true c6
    try have c6b2 : (9223372036854775807 < (a0_0 ++ (⟨#[58]⟩ : ByteArray)).size + t107.size) = False := eq_false (Nat.not_lt.2 c6)
    try have c6b3 : (9223372036854775807 < a0_0.size + 1 + t107.size) = False := by have h_ := c6b2; simp only [ByteArray.size_append] at h_; exact h_
    by_cases c7 : ((a0_0 ++ (⟨#[58]⟩ : ByteArray)) ++ t107).size + 1 ≤ 9223372036854775807
    ·rw [if_pos c7] at H
     have c7b0 := eq_true c7
     have c7b1 : decide (((a0_0 ++ (⟨#[58]⟩ : ByteArray)) ++ t107).size + 1 ≤ 9223372036854775807) = true := decide_eq_true c7
     try have c7b2 : (9223372036854775807 < ((a0_0 ++ (⟨#[58]⟩ : ByteArray)) ++ t107).size + 1) = False := eq_false (Nat.not_lt.2 c7)
     try have c7b3 : (9223372036854775807 < a0_0.size + 1 + t107.size + 1) = False := by have h_ := c7b2; simp only [ByteArray.size_append] at h_; exact h_
     replace H := bN H; obtain ⟨t108, A8, H⟩ := H
     by_cases c9 : (((a0_0 ++ (⟨#[58]⟩ : ByteArray)) ++ t107) ++ (⟨#[58]⟩ : ByteArray)).size + t108.size ≤ 9223372036854775807
     ·rw [if_pos c9] at H
      have c9b0 := eq_true c9
      have c9b1 : decide ((((a0_0 ++ (⟨#[58]⟩ : ByteArray)) ++ t107) ++ (⟨#[58]⟩ : ByteArray)).size + t108.size ≤ 9223372036854775807) = true := decide_eq_true c9
      try have c9b2 : (9223372036854775807 < (((a0_0 ++ (⟨#[58]⟩ : ByteArray)) ++ t107) ++ (⟨#[58]⟩ : ByteArray)).size + t108.size) = False := eq_false (Nat.not_lt.2 c9)
      try have c9b3 : (9223372036854775807 < a0_0.size + 1 + t107.size + 1 + t108.size) = False := by have h_ := c9b2; simp only [ByteArray.size_append] at h_; exact h_
      by_cases c10 : ((((a0_0 ++ (⟨#[58]⟩ : ByteArray)) ++ t107) ++ (⟨#[58]⟩ : ByteArray)) ++ t108).size + 2 ≤ 9223372036854775807
      ·rw [if_pos c10] at H
       have c10b0 := eq_true c10
       have c10b1 : decide (((((a0_0 ++ (⟨#[58]⟩ : ByteArray)) ++ t107) ++ (⟨#[58]⟩ : ByteArray)) ++ t108).size + 2 ≤ 9223372036854775807) = true := decide_eq_true c10
       try have c10b2 : (9223372036854775807 < ((((a0_0 ++ (⟨#[58]⟩ : ByteArray)) ++ t107) ++ (⟨#[58]⟩ : ByteArray)) ++ t108).size + 2) = False := eq_false (Nat.not_lt.2 c10)
       try have c10b3 : (9223372036854775807 < a0_0.size + 1 + t107.size + 1 + t108.size + 2) = False := by have h_ := c10b2; simp only [ByteArray.size_append] at h_; exact h_
       replace H := bN H; obtain ⟨t109, A11, H⟩ := H
       by_cases c12 : (((((a0_0 ++ (⟨#[58]⟩ : ByteArray)) ++ t107) ++ (⟨#[58]⟩ : ByteArray)) ++ t108) ++ (⟨#[58, 32]⟩ : ByteArray)).size + t109.size ≤ 9223372036854775807
       ·rw [if_pos c12] at H
        have c12b0 := eq_true c12
        have c12b1 : decide ((((((a0_0 ++ (⟨#[58]⟩ : ByteArray)) ++ t107) ++ (⟨#[58]⟩ : ByteArray)) ++ t108) ++ (⟨#[58, 32]⟩ : ByteArray)).size + t109.size ≤ 9223372036854775807) = true := decide_eq_true c12
        try have c12b2 : (9223372036854775807 < (((((a0_0 ++ (⟨#[58]⟩ : ByteArray)) ++ t107) ++ (⟨#[58]⟩ : ByteArray)) ++ t108) ++ (⟨#[58, 32]⟩ : ByteArray)).size + t109.size) = False := eq_false (Nat.not_lt.2 c12)
        try have c12b3 : (9223372036854775807 < a0_0.size + 1 + t107.size + 1 + t108.size + 2 + t109.size) = False := by have h_ := c12b2; simp only [ByteArray.size_append] at h_; exact h_
        replace H := iE H; rcases H with ⟨c13b0, c13b1, H⟩ | ⟨c13, c13b0, c13b1, H⟩
        ·replace H := s2 H; obtain ⟨rfl, rfl⟩ := H
         go_enter Tryd.func9, Tryd.ntmps9
         try go_wp2_with (first | (refine boxA HB 1 #[.string a0_0, .int .i64 a0_1, .int .i64 a0_2, .int .i64 a0_3, .string a0_4] 24 ?_; clear HB; intro gb105 w14 BK105 GE105 hg hb HB; clear hb hg; obtain ⟨hcz15_0, hcz15_1, hcz15_2, hcz15_3, hcz15_4, hfz15_0, hfz15_1, hfz15_2, hfz15_3, hfz15_4⟩ := cf5 BK105) | (refine callA (some 7) Tryd.func15 #[.agg #[.string a0_0, .int .i64 a0_1, .int .i64 a0_2, .int .i64 a0_3, .string a0_4]] ?_; (with_reducible refine (note_Check.calls k a0_0 a0_1 a0_2 a0_3 a0_4 t106 _ A2.out).mono ?_); rintro e w16 ⟨rfl, hb⟩; refine ⟨_, rfl, ?_⟩; replace BK105 := bk1 BK105 hb; replace HB := hb1 HB hb; (try clear hb)))
         replace BK105 := bkd BK105
         replace HB := hbd HB
         refine start_ (n := 18) (S := fun w' => w'.cell? ⟨gb105, 0, none⟩ = some (.string a0_0) ∧ w'.cell? ⟨gb105, 1, none⟩ = some (.int .i64 a0_1) ∧ w'.cell? ⟨gb105, 2, none⟩ = some (.int .i64 a0_2) ∧ w'.cell? ⟨gb105, 3, none⟩ = some (.int .i64 a0_3) ∧ w'.cell? ⟨gb105, 4, none⟩ = some (.string a0_4)) (ds := []) (tb 18 0) (by kernel_rfl) rfl (by kernel_rfl) ⟨(blk_cell BK105.out 0).trans rfl, (blk_cell BK105.out 1).trans rfl, (blk_cell BK105.out 2).trans rfl, (blk_cell BK105.out 3).trans rfl, (blk_cell BK105.out 4).trans rfl⟩ (fun hHeld => ?_); refine with_tabW note_Text.tab4 note_Text.bits4 (fun HT_ HW_ => ?_)
         generalize w16.drew = w17 at BK105 HB hHeld ⊢
         refine pA 0 11 (tb 18 1) HT_ ?_
         refine pA 3 14 (tb 18 9) HT_ ?_
         refine pA 8 19 (tb 18 265) HT_ ?_
         refine pA 13 24 (tb 18 8457) HT_ ?_
         refine tA 1 12 (tb 18 8459) HT_ HW_ hHeld ?_
         refine pA 2 13 (tb 18 8463) HT_ ?_
         refine tA 4 15 (tb 18 8479) HT_ HW_ hHeld ?_
         refine tA 9 20 (tb 18 8991) HT_ HW_ hHeld ?_
         refine tA 14 25 (tb 18 25375) HT_ HW_ hHeld ?_
         refine oA 5 (some 16) (tb 18 25407) HT_ (fun K hK => ?_)
         refine gA Tryd.func39 #[.int .i64 a0_1] ?_
         with_reducible refine (strconv_Itoa.calls a0_1 t107 _ A5.out).mono ?_
         rintro e w' ⟨rfl, ⟨nd, rfl⟩⟩
         refine ⟨_, rfl, ?_⟩
         refine hK.out _ _ ⟨(blk_cell BK105.out 0).trans rfl, (blk_cell BK105.out 1).trans rfl, (blk_cell BK105.out 2).trans rfl, (blk_cell BK105.out 3).trans rfl, (blk_cell BK105.out 4).trans rfl⟩ (fun hHeld => ?_)
         clear hK K
         refine nA ?_
         refine pA 6 17 (tb 18 25471) HT_ ?_
         refine pA 7 18 (tb 18 25599) HT_ ?_
         refine oA 10 (some 21) (tb 18 26623) HT_ (fun K hK => ?_)
         refine gA Tryd.func39 #[.int .i64 a0_2] ?_
         with_reducible refine (strconv_Itoa.calls a0_2 t108 _ A8.out).mono ?_
         rintro e w' ⟨rfl, ⟨nd, rfl⟩⟩
         refine ⟨_, rfl, ?_⟩
         refine hK.out _ _ ⟨(blk_cell BK105.out 0).trans rfl, (blk_cell BK105.out 1).trans rfl, (blk_cell BK105.out 2).trans rfl, (blk_cell BK105.out 3).trans rfl, (blk_cell BK105.out 4).trans rfl⟩ (fun hHeld => ?_)
         clear hK K
         refine nA ?_
         refine pA 11 22 (tb 18 28671) HT_ ?_
         refine pA 12 23 (tb 18 32767) HT_ ?_
         refine oA 15 (some 26) (tb 18 65535) HT_ (fun K hK => ?_)
         refine gA Tryd.func13 #[.int .i64 a0_3] ?_
         with_reducible refine (note_Name.calls a0_3 t109 _ A11.out).mono ?_
         rintro e w18 ⟨rfl, hb⟩
         refine ⟨_, rfl, ?_⟩
         replace BK105 := bk1 BK105 hb
         replace HB := hb1 HB hb
         (try clear hb)
         refine hK.out _ _ ⟨(blk_cell BK105.out 0).trans rfl, (blk_cell BK105.out 1).trans rfl, (blk_cell BK105.out 2).trans rfl, (blk_cell BK105.out 3).trans rfl, (blk_cell BK105.out 4).trans rfl⟩ (fun hHeld => ?_)
         clear hK K
         refine nA ?_
         refine pA 16 27 (tb 18 131071) HT_ ?_
         refine pA 17 5 (tb 18 262143) HT_ ?_
         refine done_ (done_of HT_.out (by kernel_rfl)) ?_
         obtain ⟨hcz19_0, hcz19_1, hcz19_2, hcz19_3, hcz19_4, hfz19_0, hfz19_1, hfz19_2, hfz19_3, hfz19_4⟩ := cf5 BK105
         try go_wp2
         go_ret2
         exact ⟨by rfl, by repeat (with_reducible exact HB.out)⟩
        ·by_cases c20 : 1 + a0_4.size ≤ 9223372036854775807
         ·rw [if_pos c20] at H
          have c20b0 := eq_true c20
          have c20b1 : decide (1 + a0_4.size ≤ 9223372036854775807) = true := decide_eq_true c20
          try have c20b2 : (9223372036854775807 < 1 + a0_4.size) = False := eq_false (Nat.not_lt.2 c20)
          by_cases c21 : ((((((a0_0 ++ (⟨#[58]⟩ : ByteArray)) ++ t107) ++ (⟨#[58]⟩ : ByteArray)) ++ t108) ++ (⟨#[58, 32]⟩ : ByteArray)) ++ t109).size + ((⟨#[32]⟩ : ByteArray) ++ a0_4).size ≤ 9223372036854775807
          ·rw [if_pos c21] at H
           have c21b0 := eq_true c21
           have c21b1 : decide (((((((a0_0 ++ (⟨#[58]⟩ : ByteArray)) ++ t107) ++ (⟨#[58]⟩ : ByteArray)) ++ t108) ++ (⟨#[58, 32]⟩ : ByteArray)) ++ t109).size + ((⟨#[32]⟩ : ByteArray) ++ a0_4).size ≤ 9223372036854775807) = true := decide_eq_true c21
           try have c21b2 : (9223372036854775807 < ((((((a0_0 ++ (⟨#[58]⟩ : ByteArray)) ++ t107) ++ (⟨#[58]⟩ : ByteArray)) ++ t108) ++ (⟨#[58, 32]⟩ : ByteArray)) ++ t109).size + ((⟨#[32]⟩ : ByteArray) ++ a0_4).size) = False := eq_false (Nat.not_lt.2 c21)
           try have c21b3 : (9223372036854775807 < a0_0.size + 1 + t107.size + 1 + t108.size + 2 + t109.size + (1 + a0_4.size)) = False := by have h_ := c21b2; simp only [ByteArray.size_append] at h_; exact h_
           replace H := s2 H; obtain ⟨rfl, rfl⟩ := H
           go_enter Tryd.func9, Tryd.ntmps9
           try go_wp2_with (first | (refine boxA HB 1 #[.string a0_0, .int .i64 a0_1, .int .i64 a0_2, .int .i64 a0_3, .string a0_4] 24 ?_; clear HB; intro gb105 w22 BK105 GE105 hg hb HB; clear hb hg; obtain ⟨hcz23_0, hcz23_1, hcz23_2, hcz23_3, hcz23_4, hfz23_0, hfz23_1, hfz23_2, hfz23_3, hfz23_4⟩ := cf5 BK105) | (refine callA (some 7) Tryd.func15 #[.agg #[.string a0_0, .int .i64 a0_1, .int .i64 a0_2, .int .i64 a0_3, .string a0_4]] ?_; (with_reducible refine (note_Check.calls k a0_0 a0_1 a0_2 a0_3 a0_4 t106 _ A2.out).mono ?_); rintro e w24 ⟨rfl, hb⟩; refine ⟨_, rfl, ?_⟩; replace BK105 := bk1 BK105 hb; replace HB := hb1 HB hb; (try clear hb)))
           replace BK105 := bkd BK105
           replace HB := hbd HB
           refine start_ (n := 18) (S := fun w' => w'.cell? ⟨gb105, 0, none⟩ = some (.string a0_0) ∧ w'.cell? ⟨gb105, 1, none⟩ = some (.int .i64 a0_1) ∧ w'.cell? ⟨gb105, 2, none⟩ = some (.int .i64 a0_2) ∧ w'.cell? ⟨gb105, 3, none⟩ = some (.int .i64 a0_3) ∧ w'.cell? ⟨gb105, 4, none⟩ = some (.string a0_4)) (ds := []) (tb 18 0) (by kernel_rfl) rfl (by kernel_rfl) ⟨(blk_cell BK105.out 0).trans rfl, (blk_cell BK105.out 1).trans rfl, (blk_cell BK105.out 2).trans rfl, (blk_cell BK105.out 3).trans rfl, (blk_cell BK105.out 4).trans rfl⟩ (fun hHeld => ?_); refine with_tabW note_Text.tab4 note_Text.bits4 (fun HT_ HW_ => ?_)
           generalize w24.drew = w25 at BK105 HB hHeld ⊢
           refine pA 0 11 (tb 18 1) HT_ ?_
           refine pA 3 14 (tb 18 9) HT_ ?_
           refine pA 8 19 (tb 18 265) HT_ ?_
           refine pA 13 24 (tb 18 8457) HT_ ?_
           refine tA 1 12 (tb 18 8459) HT_ HW_ hHeld ?_
           refine pA 2 13 (tb 18 8463) HT_ ?_
           refine tA 4 15 (tb 18 8479) HT_ HW_ hHeld ?_
           refine tA 9 20 (tb 18 8991) HT_ HW_ hHeld ?_
           refine tA 14 25 (tb 18 25375) HT_ HW_ hHeld ?_
           refine oA 5 (some 16) (tb 18 25407) HT_ (fun K hK => ?_)
           refine gA Tryd.func39 #[.int .i64 a0_1] ?_
           with_reducible refine (strconv_Itoa.calls a0_1 t107 _ A5.out).mono ?_
           rintro e w' ⟨rfl, ⟨nd, rfl⟩⟩
           refine ⟨_, rfl, ?_⟩
           refine hK.out _ _ ⟨(blk_cell BK105.out 0).trans rfl, (blk_cell BK105.out 1).trans rfl, (blk_cell BK105.out 2).trans rfl, (blk_cell BK105.out 3).trans rfl, (blk_cell BK105.out 4).trans rfl⟩ (fun hHeld => ?_)
           clear hK K
           refine nA ?_
           refine pA 6 17 (tb 18 25471) HT_ ?_
           refine pA 7 18 (tb 18 25599) HT_ ?_
           refine oA 10 (some 21) (tb 18 26623) HT_ (fun K hK => ?_)
           refine gA Tryd.func39 #[.int .i64 a0_2] ?_
           with_reducible refine (strconv_Itoa.calls a0_2 t108 _ A8.out).mono ?_
           rintro e w' ⟨rfl, ⟨nd, rfl⟩⟩
           refine ⟨_, rfl, ?_⟩
           refine hK.out _ _ ⟨(blk_cell BK105.out 0).trans rfl, (blk_cell BK105.out 1).trans rfl, (blk_cell BK105.out 2).trans rfl, (blk_cell BK105.out 3).trans rfl, (blk_cell BK105.out 4).trans rfl⟩ (fun hHeld => ?_)
           clear hK K
           refine nA ?_
           refine pA 11 22 (tb 18 28671) HT_ ?_
           refine pA 12 23 (tb 18 32767) HT_ ?_
           refine oA 15 (some 26) (tb 18 65535) HT_ (fun K hK => ?_)
           refine gA Tryd.func13 #[.int .i64 a0_3] ?_
           with_reducible refine (note_Name.calls a0_3 t109 _ A11.out).mono ?_
           rintro e w26 ⟨rfl, hb⟩
           refine ⟨_, rfl, ?_⟩
           replace BK105 := bk1 BK105 hb
           replace HB := hb1 HB hb
           (try clear hb)
           refine hK.out _ _ ⟨(blk_cell BK105.out 0).trans rfl, (blk_cell BK105.out 1).trans rfl, (blk_cell BK105.out 2).trans rfl, (blk_cell BK105.out 3).trans rfl, (blk_cell BK105.out 4).trans rfl⟩ (fun hHeld => ?_)
           clear hK K
           refine nA ?_
           refine pA 16 27 (tb 18 131071) HT_ ?_
           refine pA 17 5 (tb 18 262143) HT_ ?_
           refine done_ (done_of HT_.out (by kernel_rfl)) ?_
           obtain ⟨hcz27_0, hcz27_1, hcz27_2, hcz27_3, hcz27_4, hfz27_0, hfz27_1, hfz27_2, hfz27_3, hfz27_4⟩ := cf5 BK105
           try go_wp2
           go_ret2
           exact ⟨by rfl, by repeat (with_reducible exact HB.out)⟩
          ·rw [if_neg c21] at H
           exact absurd H (by simp)
         ·rw [if_neg c20] at H
          exact absurd H (by simp)
       ·rw [if_neg c12] at H
        exact absurd H (by simp)
      ·rw [if_neg c10] at H
       exact absurd H (by simp)
     ·rw [if_neg c9] at H
      exact absurd H (by simp)
    ·rw [if_neg c7] at H
     exact absurd H (by simp)
   ·rw [if_neg c6] at H
    exact absurd H (by simp)
  ·rw [if_neg c4] at H
   exact absurd H (by simp)
 ·replace H := s2 H; obtain ⟨rfl, rfl⟩ := H
  go_enter Tryd.func9, Tryd.ntmps9
  go_wp2_with (first | (refine boxA HB 1 #[.string a0_0, .int .i64 a0_1, .int .i64 a0_2, .int .i64 a0_3, .string a0_4] 24 ?_; clear HB; intro gb105 w28 BK105 GE105 hg hb HB; clear hb hg; obtain ⟨hcz29_0, hcz29_1, hcz29_2, hcz29_3, hcz29_4, hfz29_0, hfz29_1, hfz29_2, hfz29_3, hfz29_4⟩ := cf5 BK105) | (refine callA (some 7) Tryd.func15 #[.agg #[.string a0_0, .int .i64 a0_1, .int .i64 a0_2, .int .i64 a0_3, .string a0_4]] ?_; (with_reducible refine (note_Check.calls k a0_0 a0_1 a0_2 a0_3 a0_4 t106 _ A2.out).mono ?_); rintro e w30 ⟨rfl, hb⟩; refine ⟨_, rfl, ?_⟩; replace BK105 := bk1 BK105 hb; replace HB := hb1 HB hb; (try clear hb)))
  go_ret2
  exact ⟨by rfl, by repeat (with_reducible exact HB.out)⟩
end Go.Proofs.YtlamgdibnnmbmaaDoor.PNote
end
section
namespace Go.Proofs.YtlamgdibnnmbmaaDoor.PNote
open Go.RowKit Go.Proofs.YtlamgdibnnmbmaaDoorW.PrintWords Go.Proofs.YtlamgdibnnmbmaaDoorW.PrintLast Go.Proofs.YtlamgdibnnmbmaaDoorW.PrintMore
attribute [local go_sem] max2_int min2_int max_two min_two max_three min_three max_four min_four
set_option linter.unusedVariables false
set_option linter.unusedSimpArgs false
def masklaw1_told.f (k : Nat)  : Option (Bool) := (note_Text.f k (⟨#[97, 46, 109, 119]⟩ : ByteArray) 3 7 7 (⟨#[99, 110, 116]⟩ : ByteArray)).bind fun bt110 => (if bt110.2 = 0 then (some (bt110.1.toList == ([97, 46, 109, 119, 58, 51, 58, 55, 58, 32, 117, 110, 107, 110, 111, 119, 110, 32, 99, 110, 116] : List UInt8))) else (some false))
theorem masklaw1_told.mono : ∀ k, LeO (masklaw1_told.f k ) (masklaw1_told.f (k + 1) ) := by
 intro  k
 unfold masklaw1_told.f
 repeat' first | with_reducible exact note_Text.mono _ _ _ _ _ _ | with_reducible exact LeO.refl _ | with_reducible exact LeO.none _ | with_reducible refine LeO.ite ?_ ?_ | with_reducible refine LeO.bind ?_ (fun _ => ?_)
set_option maxHeartbeats 8000000 in
set_option maxRecDepth 100000 in
theorem masklaw1_told.calls (k : Nat)  (r : Bool) (w : World) (h : masklaw1_told.f k  = some r) :
  Calls Tryd.prog 10 #[] w fun e w' => e = .returned (.bool r) ∧ Below w.heap.size w w' := by
 have hu24 := Tryd.underlying24
 have HB := Aside0.mk (Below.refl w.heap.size w)
 have H := h
 clear h
 unfold masklaw1_told.f at H
 replace H := bN H; obtain ⟨⟨t110, t111⟩, A1, H⟩ := H; dsimp only at H
 replace H := iE H; rcases H with ⟨c2b0, c2b1, H⟩ | ⟨c2, c2b0, c2b1, H⟩
 ·obtain rfl := Option.some.inj H
  go_enter Tryd.func10, Tryd.ntmps10
  go_wp2_with ((refine callA (some 5) Tryd.func9 #[.agg #[.string (⟨#[97, 46, 109, 119]⟩ : ByteArray), .int .i64 3, .int .i64 7, .int .i64 7, .string (⟨#[99, 110, 116]⟩ : ByteArray)]] ?_; (with_reducible refine (note_Text.calls k (⟨#[97, 46, 109, 119]⟩ : ByteArray) 3 7 7 (⟨#[99, 110, 116]⟩ : ByteArray) t110 t111 _ A1.out).mono ?_); rintro e w3 ⟨rfl, hb⟩; refine ⟨_, rfl, ?_⟩; replace HB := hb1 HB hb; (try clear hb)))
  go_ret
  exact ⟨by rfl, by repeat (with_reducible exact HB.out)⟩
 ·obtain rfl := Option.some.inj H
  go_enter Tryd.func10, Tryd.ntmps10
  go_wp2_with ((refine callA (some 5) Tryd.func9 #[.agg #[.string (⟨#[97, 46, 109, 119]⟩ : ByteArray), .int .i64 3, .int .i64 7, .int .i64 7, .string (⟨#[99, 110, 116]⟩ : ByteArray)]] ?_; (with_reducible refine (note_Text.calls k (⟨#[97, 46, 109, 119]⟩ : ByteArray) 3 7 7 (⟨#[99, 110, 116]⟩ : ByteArray) t110 t111 _ A1.out).mono ?_); rintro e w4 ⟨rfl, hb⟩; refine ⟨_, rfl, ?_⟩; replace HB := hb1 HB hb; (try clear hb)))
  go_ret
  exact ⟨by rfl, by repeat (with_reducible exact HB.out)⟩
end Go.Proofs.YtlamgdibnnmbmaaDoor.PNote
end
section
namespace Go.Proofs.YtlamgdibnnmbmaaDoor.PNote
open Go.RowKit Go.Proofs.YtlamgdibnnmbmaaDoorW.PrintWords Go.Proofs.YtlamgdibnnmbmaaDoorW.PrintLast Go.Proofs.YtlamgdibnnmbmaaDoorW.PrintMore
attribute [local go_sem] max2_int min2_int max_two min_two max_three min_three max_four min_four
set_option linter.unusedVariables false
set_option linter.unusedSimpArgs false
def note_Place.j0 : Nat → ByteArray → Int → Bool → Option (Int × Int)
 | 0, _, _, _ => none
 | k + 1, x0, x1, x14 => if x14 = true then (some (0, 0)) else (if 0 ≤ x1 then (if x1 ≤ (x0.size : Int) then ((strings_Count.f (x0.extract 0 (x1 : Int).toNat) (⟨#[10]⟩ : ByteArray)).bind fun t112 => ((strings_LastIndex.f (x0.extract 0 (x1 : Int).toNat) (⟨#[10]⟩ : ByteArray)).bind fun t113 => (some (wrap64 (t112 + 1), wrap64 (x1 - t113))))) else (none)) else (none))
def note_Place.f (k : Nat) (a0 : ByteArray) (a1 : Int) : Option (Int × Int) := if a1 < 0 then (note_Place.j0 k a0 a1 true) else (note_Place.j0 k a0 a1 (decide (a1 > (a0.size : Int))))
set_option maxHeartbeats 8000000 in
set_option maxRecDepth 100000 in
theorem note_Place.calls (k : Nat) (a0 : ByteArray) (a1 : Int) (r1 : Int) (r2 : Int) (w : World) (h : note_Place.f k a0 a1 = some (r1, r2)) :
  Calls Tryd.prog 17 #[.string a0, .int .i64 a1] w fun e w' => e = .returned (.tuple #[.int .i64 r1, .int .i64 r2]) ∧ Drawn0 w w' := by
 have H := h
 clear h
 unfold note_Place.f at H
 have HC3 := Aside0.mk H
 clear H
 go_enter Tryd.func17, Tryd.ntmps17
 go_upto_region 1 with (fail)
 go_cut [14] (fun v14 wc => ∃ (kq : Nat) (x14_2 : Bool), v14 = .bool x14_2 ∧ Aside0 (note_Place.j0 kq a0 a1 x14_2 = some (r1, r2)) ∧ Aside0 (kq ≤ k) ∧ Drawn0 w wc)
 case first =>
  have H := HC3.out
  clear HC3
  replace H := iD H; rcases H with ⟨c4b0, H⟩ | ⟨c4b0, H⟩
  ·(skip)
   have H' := Aside0.mk H
   clear H
   go_wp2
   go_meet
   case rel => exact ⟨_, (true), (by rfl), H', ⟨by omega⟩, by repeat (exact Drawn0.refl _)⟩
  ·(skip)
   have H' := Aside0.mk H
   clear H
   go_wp2
   go_meet
   case rel => exact ⟨_, (decide (a1 > (a0.size : Int))), (by rfl), H', ⟨by omega⟩, by repeat (exact Drawn0.refl _)⟩
 case rest =>
  clear HC3
  obtain ⟨kq, x14_2, rfl, HA, HJ2, ⟨mc2, rfl⟩⟩ := hcut
  cases kq with
  | zero => exact absurd HA.out (by simp [note_Place.j0])
  | succ kj2 =>
   have H := HA.out
   clear HA
   simp only [note_Place.j0] at H
   replace H := iB H; rcases H with ⟨rfl, H⟩ | ⟨rfl, H⟩
   ·replace H := s2 H; obtain ⟨rfl, rfl⟩ := H
    go_wp2
    go_ret2
    exact ⟨by rfl, by repeat (first | exact Drawn0.refl _ | apply Drawn0.step)⟩
   ·by_cases c6 : 0 ≤ a1
    ·rw [if_pos c6] at H
     have c6b0 := eq_true c6
     have c6b1 : decide (0 ≤ a1) = true := decide_eq_true c6
     clear c6
     by_cases c7 : a1 ≤ (a0.size : Int)
     ·rw [if_pos c7] at H
      have c7b0 := eq_true c7
      have c7b1 : decide (a1 ≤ (a0.size : Int)) = true := decide_eq_true c7
      clear c7
      replace H := bN H; obtain ⟨t112, A8, H⟩ := H
      replace H := bN H; obtain ⟨t113, A9, H⟩ := H
      replace H := s2 H; obtain ⟨rfl, rfl⟩ := H
      go_wp2_with (first | (refine callA (some 19) Tryd.func42 #[.string (a0.extract 0 (a1 : Int).toNat), .string (⟨#[10]⟩ : ByteArray)] ?_; (with_reducible refine (strings_Count.calls (a0.extract 0 (a1 : Int).toNat) (⟨#[10]⟩ : ByteArray) t112 _ A8.out).mono ?_); rintro e w' ⟨rfl, ⟨nd, rfl⟩⟩; refine ⟨_, rfl, ?_⟩) | (refine callA (some 23) Tryd.func43 #[.string (a0.extract 0 (a1 : Int).toNat), .string (⟨#[10]⟩ : ByteArray)] ?_; (with_reducible refine (strings_LastIndex.calls (a0.extract 0 (a1 : Int).toNat) (⟨#[10]⟩ : ByteArray) t113 _ A9.out).mono ?_); rintro e w' ⟨rfl, ⟨nd, rfl⟩⟩; refine ⟨_, rfl, ?_⟩))
      go_ret2
      exact ⟨by rfl, by repeat (first | exact Drawn0.refl _ | apply Drawn0.step)⟩
     ·rw [if_neg c7] at H
      exact absurd H (by simp)
    ·rw [if_neg c6] at H
     exact absurd H (by simp)
end Go.Proofs.YtlamgdibnnmbmaaDoor.PNote
end
section
namespace Go.Proofs.YtlamgdibnnmbmaaDoor.PNote
open Go.RowKit Go.Proofs.YtlamgdibnnmbmaaDoorW.PrintWords Go.Proofs.YtlamgdibnnmbmaaDoorW.PrintLast Go.Proofs.YtlamgdibnnmbmaaDoorW.PrintMore
attribute [local go_sem] max2_int min2_int max_two min_two max_three min_three max_four min_four
set_option linter.unusedVariables false
set_option linter.unusedSimpArgs false
mutual
def maskref1_PlaceOf.j0 : Nat → ByteArray → Int → Bool → Option (Int × Int)
 | 0, _, _, _ => none
 | k + 1, x0, x1, x16 => if x16 = true then (some (0, 0)) else (maskref1_PlaceOf.l0 k x0 1 1 x1 0)
def maskref1_PlaceOf.l0 : Nat → ByteArray → Int → Int → Int → Int → Option (Int × Int)
 | 0, _, _, _, _, _ => none
 | k + 1, x0, x6, x7, x17, x18 => if x18 < x17 then (if 0 ≤ x18 then (if x18 < (x0.size : Int) then (if (bt x0 x18) = 10 then (maskref1_PlaceOf.l0 k x0 (wrap64 (x6 + 1)) 1 x17 (wrap64 (x18 + 1))) else (maskref1_PlaceOf.l0 k x0 x6 (wrap64 (x7 + 1)) x17 (wrap64 (x18 + 1)))) else (none)) else (none)) else (some (x6, x7))
end
def maskref1_PlaceOf.f (k : Nat) (a0 : ByteArray) (a1 : Int) : Option (Int × Int) := if a1 < 0 then (maskref1_PlaceOf.j0 k a0 a1 true) else (maskref1_PlaceOf.j0 k a0 a1 (decide (a1 > (a0.size : Int))))
set_option maxHeartbeats 8000000 in
set_option maxRecDepth 100000 in
theorem maskref1_PlaceOf.calls (k : Nat) (a0 : ByteArray) (a1 : Int) (r1 : Int) (r2 : Int) (w : World) (h : maskref1_PlaceOf.f k a0 a1 = some (r1, r2)) :
  Calls Tryd.prog 18 #[.string a0, .int .i64 a1] w fun e w' => e = .returned (.tuple #[.int .i64 r1, .int .i64 r2]) ∧ Drawn0 w w' := by
 have H := h
 clear h
 unfold maskref1_PlaceOf.f at H
 have HC3 := Aside0.mk H
 clear H
 go_enter Tryd.func18, Tryd.ntmps18
 go_upto_region 1 with (fail)
 go_cut [16] (fun v16 wc => ∃ (kq : Nat) (x16_2 : Bool), v16 = .bool x16_2 ∧ Aside0 (maskref1_PlaceOf.j0 kq a0 a1 x16_2 = some (r1, r2)) ∧ Aside0 (kq ≤ k) ∧ Drawn0 w wc)
 case first =>
  have H := HC3.out
  clear HC3
  replace H := iD H; rcases H with ⟨c4b0, H⟩ | ⟨c4b0, H⟩
  ·(skip)
   have H' := Aside0.mk H
   clear H
   go_wp2
   go_meet
   case rel => exact ⟨_, (true), (by rfl), H', ⟨by omega⟩, by repeat (exact Drawn0.refl _)⟩
  ·(skip)
   have H' := Aside0.mk H
   clear H
   go_wp2
   go_meet
   case rel => exact ⟨_, (decide (a1 > (a0.size : Int))), (by rfl), H', ⟨by omega⟩, by repeat (exact Drawn0.refl _)⟩
 case rest =>
  clear HC3
  obtain ⟨kq, x16_2, rfl, HA, HJ2, ⟨mc2, rfl⟩⟩ := hcut
  cases kq with
  | zero => exact absurd HA.out (by simp [maskref1_PlaceOf.j0])
  | succ kj2 =>
   have H := HA.out
   clear HA
   simp only [maskref1_PlaceOf.j0] at H
   replace H := iB H; rcases H with ⟨rfl, H⟩ | ⟨rfl, H⟩
   ·replace H := s2 H; obtain ⟨rfl, rfl⟩ := H
    go_wp2
    go_ret2
    exact ⟨by rfl, by repeat (first | exact Drawn0.refl _ | apply Drawn0.step)⟩
   ·have H' := Aside0.mk H
    clear H
    go_wp2
    go_loopg [6, 7, 18] kj2 (fun kq v6 v7 v18 w' => ∃ (x6_2 : Int) (x7_2 : Int) (x18_2 : Int), v6 = .int .i64 x6_2 ∧ v7 = .int .i64 x7_2 ∧ v18 = .int .i64 x18_2 ∧ Aside0 (maskref1_PlaceOf.l0 kq a0 x6_2 x7_2 a1 x18_2 = some (r1, r2)) ∧ Aside0 (kq ≤ kj2) ∧ Drawn0 w w')
    case atStart => exact ⟨(1), (1), (0), (by rfl), (by rfl), (by rfl), H', ⟨Nat.le_refl _⟩, by repeat (first | exact Drawn0.refl _ | apply Drawn0.step)⟩
    case round =>
     clear H'
     obtain ⟨x6_2, x7_2, x18_2, rfl, rfl, rfl, HA, HK2, ⟨m2, rfl⟩⟩ := hrel
     cases gk with
     | zero => exact absurd HA.out (by simp [maskref1_PlaceOf.l0])
     | succ k2 =>
      have H := HA.out
      clear HA
      simp only [maskref1_PlaceOf.l0] at H
      replace H := iD H; rcases H with ⟨c6b0, H⟩ | ⟨c6b0, H⟩
      ·replace H := iN H; obtain ⟨c7b0, H⟩ := H
       replace H := iN H; obtain ⟨c8b0, H⟩ := H
       replace H := iE H; rcases H with ⟨c10b0, c10b1, H⟩ | ⟨c10, c10b0, c10b1, H⟩
       ·have H' := Aside0.mk H
        clear H
        have p9 : 0 ≤ (x18_2 : Int) := of_decide_eq_true (by (with_reducible assumption))
        have q9 : x18_2 < (a0.size : Int) := of_decide_eq_true (by (with_reducible assumption))
        have hx9 := bt_at a0 x18_2
        replace p9 := eq_true p9
        replace q9 := eq_true q9
        go_wp2
        go_roundg k2
        case measure => have := HJ2.out; have := HK2.out; omega
        case rel => exact ⟨(wrap64 (x6_2 + 1)), (1), (wrap64 (x18_2 + 1)), (by rfl), (by rfl), (by rfl), H', ⟨by have := HJ2.out; have := HK2.out; omega⟩, by repeat (first | exact Drawn0.refl _ | apply Drawn0.step)⟩
       ·have H' := Aside0.mk H
        clear H
        have p9 : 0 ≤ (x18_2 : Int) := of_decide_eq_true (by (with_reducible assumption))
        have q9 : x18_2 < (a0.size : Int) := of_decide_eq_true (by (with_reducible assumption))
        have hx9 := bt_at a0 x18_2
        replace p9 := eq_true p9
        replace q9 := eq_true q9
        go_wp2
        go_roundg k2
        case measure => have := HJ2.out; have := HK2.out; omega
        case rel => exact ⟨(x6_2), (wrap64 (x7_2 + 1)), (wrap64 (x18_2 + 1)), (by rfl), (by rfl), (by rfl), H', ⟨by have := HJ2.out; have := HK2.out; omega⟩, by repeat (first | exact Drawn0.refl _ | apply Drawn0.step)⟩
      ·replace H := s2 H; obtain ⟨rfl, rfl⟩ := H
       go_wp2
       go_ret2
       exact ⟨by rfl, by repeat (first | exact Drawn0.refl _ | apply Drawn0.step)⟩
end Go.Proofs.YtlamgdibnnmbmaaDoor.PNote
end
section
namespace Go.Proofs.YtlamgdibnnmbmaaDoor.PNote
open Go.RowKit Go.Proofs.YtlamgdibnnmbmaaDoorW.PrintWords Go.Proofs.YtlamgdibnnmbmaaDoorW.PrintLast Go.Proofs.YtlamgdibnnmbmaaDoorW.PrintMore
attribute [local go_sem] max2_int min2_int max_two min_two max_three min_three max_four min_four
set_option linter.unusedVariables false
set_option linter.unusedSimpArgs false
def masklaw1_NotePlaces.f (k : Nat) (a0 : ByteArray) (a1 : Int) : Option (Bool) := if 0 ≤ (mn (a0.size : Int) 5000) then (if (mn (a0.size : Int) 5000) ≤ (a0.size : Int) then ((note_Place.f k (a0.extract 0 ((mn (a0.size : Int) 5000) : Int).toNat) a1).bind fun bt114 => ((maskref1_PlaceOf.f k (a0.extract 0 ((mn (a0.size : Int) 5000) : Int).toNat) a1).bind fun bt116 => ((masklaw1_told.f k).bind fun t118 => (if t118 = true then (if bt114.1 = bt116.1 then (some (bt114.2 == bt116.2)) else (some false)) else (some false))))) else (none)) else (none)
set_option maxHeartbeats 8000000 in
set_option maxRecDepth 100000 in
theorem masklaw1_NotePlaces.calls (k : Nat) (a0 : ByteArray) (a1 : Int) (r : Bool) (w : World) (h : masklaw1_NotePlaces.f k a0 a1 = some r) :
  Calls Tryd.prog 4 #[.string a0, .int .i64 a1] w fun e w' => e = .returned (.bool r) ∧ Below w.heap.size w w' := by
 have HB := Aside0.mk (Below.refl w.heap.size w)
 have H := h
 clear h
 unfold masklaw1_NotePlaces.f at H
 obtain ⟨ji3, hji3⟩ : ∃ j_ : Int, (mn (a0.size : Int) 5000) = j_ := ⟨_, rfl⟩
 replace H : (if 0 ≤ (ji3) then (if (ji3) ≤ (a0.size : Int) then ((note_Place.f k (a0.extract 0 ((ji3) : Int).toNat) a1).bind fun bt114 => ((maskref1_PlaceOf.f k (a0.extract 0 ((ji3) : Int).toNat) a1).bind fun bt116 => ((masklaw1_told.f k).bind fun t118 => (if t118 = true then (if bt114.1 = bt116.1 then (some (bt114.2 == bt116.2)) else (some false)) else (some false))))) else (none)) else (none)) = some r := by (rw [hji3] at H; exact H)
 (try (have hji3h : ji3 ≤ 5000 := by (rw [← hji3]; unfold mn; (repeat' split) <;> omega)))
 (try (have hji3l : 0 ≤ ji3 := by (rw [← hji3]; unfold mn; (repeat' split) <;> omega)))
 (try (have hji3m : 0 ≤ ji3 := by omega))
 have hji3_ : (if 5000 < (a0.size : Int) then 5000 else (a0.size : Int)) = ji3 := hji3
 by_cases c4 : 0 ≤ (ji3)
 ·rw [if_pos c4] at H
  have c4b0 := eq_true c4
  have c4b1 : decide (0 ≤ (ji3)) = true := decide_eq_true c4
  clear c4
  by_cases c5 : (ji3) ≤ (a0.size : Int)
  ·rw [if_pos c5] at H
   have c5b0 := eq_true c5
   have c5b1 : decide ((ji3) ≤ (a0.size : Int)) = true := decide_eq_true c5
   clear c5
   replace H := bN H; obtain ⟨⟨t114, t115⟩, A6, H⟩ := H; dsimp only at H
   replace H := bN H; obtain ⟨⟨t116, t117⟩, A7, H⟩ := H; dsimp only at H
   replace H := bN H; obtain ⟨t118, A8, H⟩ := H
   replace H := iB H; rcases H with ⟨rfl, H⟩ | ⟨rfl, H⟩
   ·replace H := iE H; rcases H with ⟨c10b0, c10b1, H⟩ | ⟨c10, c10b0, c10b1, H⟩
    ·obtain rfl := Option.some.inj H
     go_enter Tryd.func4, Tryd.ntmps4
     go_wp2_with (first | (refine callA (some 17) Tryd.func17 #[.string (a0.extract 0 ((ji3) : Int).toNat), .int .i64 a1] ?_; (with_reducible refine (note_Place.calls k (a0.extract 0 ((ji3) : Int).toNat) a1 t114 t115 _ A6.out).mono ?_); rintro e w' ⟨rfl, ⟨nd, rfl⟩⟩; refine ⟨_, rfl, ?_⟩) | (refine callA (some 23) Tryd.func18 #[.string (a0.extract 0 ((ji3) : Int).toNat), .int .i64 a1] ?_; (with_reducible refine (maskref1_PlaceOf.calls k (a0.extract 0 ((ji3) : Int).toNat) a1 t116 t117 _ A7.out).mono ?_); rintro e w' ⟨rfl, ⟨nd, rfl⟩⟩; refine ⟨_, rfl, ?_⟩) | ((with_reducible refine gate_callee (f := 10) rfl ?_); refine goesL_ (some 26) rfl rfl Tryd.func10 (by kernel_rfl) rfl #[] rfl (by (try simp only [List.map_toArray, List.map_cons, List.map_nil]); done) ?_; (with_reducible refine (masklaw1_told.calls k  true _ A8.out).mono ?_); rintro e w11 ⟨rfl, hb⟩; refine ⟨_, rfl, ?_⟩; replace HB := hb1 HB hb; (try clear hb)))
     go_ret
     exact ⟨by rfl, by repeat (with_reducible exact HB.out)⟩
    ·obtain rfl := Option.some.inj H
     go_enter Tryd.func4, Tryd.ntmps4
     go_wp2_with (first | (refine callA (some 17) Tryd.func17 #[.string (a0.extract 0 ((ji3) : Int).toNat), .int .i64 a1] ?_; (with_reducible refine (note_Place.calls k (a0.extract 0 ((ji3) : Int).toNat) a1 t114 t115 _ A6.out).mono ?_); rintro e w' ⟨rfl, ⟨nd, rfl⟩⟩; refine ⟨_, rfl, ?_⟩) | (refine callA (some 23) Tryd.func18 #[.string (a0.extract 0 ((ji3) : Int).toNat), .int .i64 a1] ?_; (with_reducible refine (maskref1_PlaceOf.calls k (a0.extract 0 ((ji3) : Int).toNat) a1 t116 t117 _ A7.out).mono ?_); rintro e w' ⟨rfl, ⟨nd, rfl⟩⟩; refine ⟨_, rfl, ?_⟩) | ((with_reducible refine gate_callee (f := 10) rfl ?_); refine goesL_ (some 26) rfl rfl Tryd.func10 (by kernel_rfl) rfl #[] rfl (by (try simp only [List.map_toArray, List.map_cons, List.map_nil]); done) ?_; (with_reducible refine (masklaw1_told.calls k  true _ A8.out).mono ?_); rintro e w12 ⟨rfl, hb⟩; refine ⟨_, rfl, ?_⟩; replace HB := hb1 HB hb; (try clear hb)))
     go_ret
     exact ⟨by rfl, by repeat (with_reducible exact HB.out)⟩
   ·obtain rfl := Option.some.inj H
    go_enter Tryd.func4, Tryd.ntmps4
    go_wp2_with (first | (refine callA (some 17) Tryd.func17 #[.string (a0.extract 0 ((ji3) : Int).toNat), .int .i64 a1] ?_; (with_reducible refine (note_Place.calls k (a0.extract 0 ((ji3) : Int).toNat) a1 t114 t115 _ A6.out).mono ?_); rintro e w' ⟨rfl, ⟨nd, rfl⟩⟩; refine ⟨_, rfl, ?_⟩) | (refine callA (some 23) Tryd.func18 #[.string (a0.extract 0 ((ji3) : Int).toNat), .int .i64 a1] ?_; (with_reducible refine (maskref1_PlaceOf.calls k (a0.extract 0 ((ji3) : Int).toNat) a1 t116 t117 _ A7.out).mono ?_); rintro e w' ⟨rfl, ⟨nd, rfl⟩⟩; refine ⟨_, rfl, ?_⟩) | ((with_reducible refine gate_callee (f := 10) rfl ?_); refine goesL_ (some 26) rfl rfl Tryd.func10 (by kernel_rfl) rfl #[] rfl (by (try simp only [List.map_toArray, List.map_cons, List.map_nil]); done) ?_; (with_reducible refine (masklaw1_told.calls k  false _ A8.out).mono ?_); rintro e w13 ⟨rfl, hb⟩; refine ⟨_, rfl, ?_⟩; replace HB := hb1 HB hb; (try clear hb)))
    go_ret
    exact ⟨by rfl, by repeat (with_reducible exact HB.out)⟩
  ·rw [if_neg c5] at H
   exact absurd H (by simp)
 ·rw [if_neg c4] at H
  exact absurd H (by simp)
end Go.Proofs.YtlamgdibnnmbmaaDoor.PNote
end
