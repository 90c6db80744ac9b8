/- Part 22 of the proof of NoteReadsCardSaid: The law NoteReads: for all arguments it returns true; each argument reads behind the call as it read before. Out of the plain theorem of YtlamgdibnnmbmaaDoorPureNoteReads and the printed contract. -/
import Derived.Test.YtlamgdibnnmbmaaDoorProg
import Derived.Below
import Derived.Deep.Draws
import Derived.Deep.AppendLies
import Derived.Maps.AppendAt
import Derived.OwnWalk
import Derived.Laws.BytesArg
import Derived.Laws.MakeOwn
import Derived.Laws.OwnMore
import Derived.Deep.OwnRows
import Derived.Tactics
import Derived.Lib.ConvBytes
import Derived.Laws.Slices
import Derived.WalkKit
import Derived.KernelRfl
import Derived.RowKit3
import Derived.Deep.LoopGhost
import Derived.Deep.QuietTactic
import Derived.BigQuiet
import Derived.WideLaws
import Derived.Deep.DeepCutAuto
import Derived.Deep.CutBlock
import Derived.Deep.RegionHeld3
import Derived.Laws.Rows
import Derived.Lib.AppendStr
import Derived.ArgAppend
import Derived.Laws.IdiomCopy
import Derived.OrdersHeld
import Derived.Laws.BitsLemmas
import Derived.RowKit
import Derived.Test.YtlamgdibnnmbmaaDoorQNoteReads0
import Derived.Test.YtlamgdibnnmbmaaDoorQNoteReads1
import Derived.Test.YtlamgdibnnmbmaaDoorQNoteReads12
import Derived.Test.YtlamgdibnnmbmaaDoorQNoteReads2
import Derived.Test.YtlamgdibnnmbmaaDoorQNoteReads3
import Derived.Test.YtlamgdibnnmbmaaDoorQNoteReads4
import Derived.Test.YtlamgdibnnmbmaaDoorQNoteReads5
import Derived.Test.YtlamgdibnnmbmaaDoorQNoteReads6
import Derived.Test.YtlamgdibnnmbmaaDoorQNoteReads13
import Derived.Test.YtlamgdibnnmbmaaDoorQNoteReads14
import Derived.Test.YtlamgdibnnmbmaaDoorQNoteReads15
import Derived.Test.YtlamgdibnnmbmaaDoorQNoteReads7
import Derived.Test.YtlamgdibnnmbmaaDoorQNoteReads19
import Derived.Test.YtlamgdibnnmbmaaDoorQNoteReads20
import Derived.Test.YtlamgdibnnmbmaaDoorQNoteReads10
import Derived.Test.YtlamgdibnnmbmaaDoorQNoteReads18
import Derived.Test.YtlamgdibnnmbmaaDoorQNoteReads11
import Derived.Test.YtlamgdibnnmbmaaDoorQNoteReads16
section
namespace Go.Proofs.YtlamgdibnnmbmaaDoor.PRead
open Go.RowKit Go.Proofs.YtlamgdibnnmbmaaDoorW.PrintWords Go.Proofs.YtlamgdibnnmbmaaDoorW.PrintLast Go.Proofs.YtlamgdibnnmbmaaDoorW.PrintMore
attribute [local go_sem] max2_int min2_int max_two min_two max_three min_three max_four min_four
set_option linter.unusedVariables false
set_option linter.unusedSimpArgs false
def note_Text.f (k : Nat) (a0_0 : ByteArray) (a0_1 : Int) (a0_2 : Int) (a0_3 : Int) (a0_4 : ByteArray) : Option (ByteArray × Int) := (note_Check.f k a0_0 a0_1 a0_2 a0_3 a0_4).bind fun t106 => (if t106 = 0 then (if a0_0.size + 1 ≤ 9223372036854775807 then ((strconv_Itoa.f a0_1).bind fun t107 => (if (a0_0 ++ (⟨#[58]⟩ : ByteArray)).size + t107.size ≤ 9223372036854775807 then (if ((a0_0 ++ (⟨#[58]⟩ : ByteArray)) ++ t107).size + 1 ≤ 9223372036854775807 then ((strconv_Itoa.f a0_2).bind fun t108 => (if (((a0_0 ++ (⟨#[58]⟩ : ByteArray)) ++ t107) ++ (⟨#[58]⟩ : ByteArray)).size + t108.size ≤ 9223372036854775807 then (if ((((a0_0 ++ (⟨#[58]⟩ : ByteArray)) ++ t107) ++ (⟨#[58]⟩ : ByteArray)) ++ t108).size + 2 ≤ 9223372036854775807 then ((note_Name.f a0_3).bind fun t109 => (if (((((a0_0 ++ (⟨#[58]⟩ : ByteArray)) ++ t107) ++ (⟨#[58]⟩ : ByteArray)) ++ t108) ++ (⟨#[58, 32]⟩ : ByteArray)).size + t109.size ≤ 9223372036854775807 then (if a0_4.toList = ([] : List UInt8) then (some ((((((a0_0 ++ (⟨#[58]⟩ : ByteArray)) ++ t107) ++ (⟨#[58]⟩ : ByteArray)) ++ t108) ++ (⟨#[58, 32]⟩ : ByteArray)) ++ t109, 0)) else (if 1 + a0_4.size ≤ 9223372036854775807 then (if ((((((a0_0 ++ (⟨#[58]⟩ : ByteArray)) ++ t107) ++ (⟨#[58]⟩ : ByteArray)) ++ t108) ++ (⟨#[58, 32]⟩ : ByteArray)) ++ t109).size + ((⟨#[32]⟩ : ByteArray) ++ a0_4).size ≤ 9223372036854775807 then (some (((((((a0_0 ++ (⟨#[58]⟩ : ByteArray)) ++ t107) ++ (⟨#[58]⟩ : ByteArray)) ++ t108) ++ (⟨#[58, 32]⟩ : ByteArray)) ++ t109) ++ ((⟨#[32]⟩ : ByteArray) ++ a0_4), 0)) else (none)) else (none))) else (none))) else (none)) else (none))) else (none)) else (none))) else (none)) else (some ((⟨#[]⟩ : ByteArray), t106)))
theorem note_Text.mono : ∀ a0 a1 a2 a3 a4 k, LeO (note_Text.f k a0 a1 a2 a3 a4) (note_Text.f (k + 1) a0 a1 a2 a3 a4) := by
 intro a0 a1 a2 a3 a4 k
 unfold note_Text.f
 repeat' first | with_reducible exact note_Check.mono _ _ _ _ _ _ | with_reducible exact LeO.refl _ | with_reducible exact LeO.none _ | with_reducible refine LeO.ite ?_ ?_ | with_reducible refine LeO.bind ?_ (fun _ => ?_)
def note_Text.T4 : Bool × List (List Nat × List Nat) := (true, [([], []), ([0], [0]), ([1], [1]), ([], []), ([3], [3]), ([4], [4]), ([2, 5], [2, 5]), ([6], [6]), ([], []), ([8], [8]), ([9, 5], [9]), ([7, 10], [7, 10]), ([11], [11]), ([], []), ([13], [13]), ([14, 10], [14]), ([12, 15], [12, 15]), ([16, 15, 0, 1, 2, 3, 4, 5, 6, 7, 8, 9, 10, 11, 12, 13, 14, 15, 16], [16])])
def note_Text.B4 : List Nat := [0, 1, 3, 0, 8, 24, 63, 127, 0, 256, 824, 2047, 4095, 0, 8192, 26424, 65535, 131071]
theorem note_Text.tab4 : rtab .any (opsOf Tryd.f9 4) = note_Text.T4 := by kernel_rfl
theorem note_Text.bits4 : waitsOk note_Text.T4.2 note_Text.B4 = true := by kernel_rfl
set_option maxHeartbeats 8000000 in
set_option maxRecDepth 100000 in
theorem note_Text.calls (k : Nat) (a0_0 : ByteArray) (a0_1 : Int) (a0_2 : Int) (a0_3 : Int) (a0_4 : ByteArray) (r1 : ByteArray) (r2 : Int) (w : World) (h : note_Text.f k a0_0 a0_1 a0_2 a0_3 a0_4 = some (r1, r2)) :
  Calls Tryd.prog 9 #[.agg #[.string a0_0, .int .i64 a0_1, .int .i64 a0_2, .int .i64 a0_3, .string a0_4]] w fun e w' => e = .returned (.tuple #[.string r1, .int .i64 r2]) ∧ Below w.heap.size w w' := by
 have hu24 := Tryd.underlying24
 have HB := Aside0.mk (Below.refl w.heap.size w)
 have H := h
 clear h
 unfold note_Text.f at H
 replace H := bN H; obtain ⟨t106, A2, H⟩ := H
 replace H := iE H; rcases H with ⟨c3b0, c3b1, H⟩ | ⟨c3, c3b0, c3b1, H⟩
 ·by_cases c4 : a0_0.size + 1 ≤ 9223372036854775807
  ·rw [if_pos c4] at H
   have c4b0 := eq_true c4
   have c4b1 : decide (a0_0.size + 1 ≤ 9223372036854775807) = true := decide_eq_true c4
   try have c4b2 : (9223372036854775807 < a0_0.size + 1) = False := eq_false (Nat.not_lt.2 c4)
   replace H := bN H; obtain ⟨t107, A5, H⟩ := H
   by_cases c6 : (a0_0 ++ (⟨#[58]⟩ : ByteArray)).size + t107.size ≤ 9223372036854775807
   ·rw [if_pos c6] at H
    have c6b0 := eq_true c6
    have c6b1 : decide ((a0_0 ++ (⟨#[58]⟩ : ByteArray)).size + t107.size ≤ 9223372036854775807) = true := decide_eq_true c6
    try have c6b2 : (9223372036854775807 < (a0_0 ++ (⟨#[58]⟩ : ByteArray)).size + t107.size) = False := eq_false (Nat.not_lt.2 c6)
    try have c6b3 : (9223372036854775807 < a0_0.size + 1 + t107.size) = False := by have h_ := c6b2; simp only [ByteArray.size_append] at h_; exact h_
    by_cases c7 : ((a0_0 ++ (⟨#[58]⟩ : ByteArray)) ++ t107).size + 1 ≤ 9223372036854775807
    ·rw [if_pos c7] at H
     have c7b0 := eq_true c7
     have c7b1 : decide (((a0_0 ++ (⟨#[58]⟩ : ByteArray)) ++ t107).size + 1 ≤ 9223372036854775807) = true := decide_eq_true c7
     try have c7b2 : (9223372036854775807 < ((a0_0 ++ (⟨#[58]⟩ : ByteArray)) ++ t107).size + 1) = False := eq_false (Nat.not_lt.2 c7)
     try have c7b3 : (9223372036854775807 < a0_0.size + 1 + t107.size + 1) = False := by have h_ := c7b2; simp only [ByteArray.size_append] at h_; exact h_
     replace H := bN H; obtain ⟨t108, A8, H⟩ := H
     by_cases c9 : (((a0_0 ++ (⟨#[58]⟩ : ByteArray)) ++ t107) ++ (⟨#[58]⟩ : ByteArray)).size + t108.size ≤ 9223372036854775807
     ·rw [if_pos c9] at H
      have c9b0 := eq_true c9
      have c9b1 : decide ((((a0_0 ++ (⟨#[58]⟩ : ByteArray)) ++ t107) ++ (⟨#[58]⟩ : ByteArray)).size + t108.size ≤ 9223372036854775807) = true := decide_eq_true c9
      try have c9b2 : (9223372036854775807 < (((a0_0 ++ (⟨#[58]⟩ : ByteArray)) ++ t107) ++ (⟨#[58]⟩ : ByteArray)).size + t108.size) = False := eq_false (Nat.not_lt.2 c9)
      try have c9b3 : (9223372036854775807 < a0_0.size + 1 + t107.size + 1 + t108.size) = False := by have h_ := c9b2; simp only [ByteArray.size_append] at h_; exact h_
      by_cases c10 : ((((a0_0 ++ (⟨#[58]⟩ : ByteArray)) ++ t107) ++ (⟨#[58]⟩ : ByteArray)) ++ t108).size + 2 ≤ 9223372036854775807
      ·rw [if_pos c10] at H
       have c10b0 := eq_true c10
       have c10b1 : decide (((((a0_0 ++ (⟨#[58]⟩ : ByteArray)) ++ t107) ++ (⟨#[58]⟩ : ByteArray)) ++ t108).size + 2 ≤ 9223372036854775807) = true := decide_eq_true c10
       try have c10b2 : (9223372036854775807 < ((((a0_0 ++ (⟨#[58]⟩ : ByteArray)) ++ t107) ++ (⟨#[58]⟩ : ByteArray)) ++ t108).size + 2) = False := eq_false (Nat.not_lt.2 c10)
       try have c10b3 : (9223372036854775807 < a0_0.size + 1 + t107.size + 1 + t108.size + 2) = False := by have h_ := c10b2; simp only [ByteArray.size_append] at h_; exact h_
       replace H := bN H; obtain ⟨t109, A11, H⟩ := H
       by_cases c12 : (((((a0_0 ++ (⟨#[58]⟩ : ByteArray)) ++ t107) ++ (⟨#[58]⟩ : ByteArray)) ++ t108) ++ (⟨#[58, 32]⟩ : ByteArray)).size + t109.size ≤ 9223372036854775807
       ·rw [if_pos c12] at H
        have c12b0 := eq_true c12
        have c12b1 : decide ((((((a0_0 ++ (⟨#[58]⟩ : ByteArray)) ++ t107) ++ (⟨#[58]⟩ : ByteArray)) ++ t108) ++ (⟨#[58, 32]⟩ : ByteArray)).size + t109.size ≤ 9223372036854775807) = true := decide_eq_true c12
        try have c12b2 : (9223372036854775807 < (((((a0_0 ++ (⟨#[58]⟩ : ByteArray)) ++ t107) ++ (⟨#[58]⟩ : ByteArray)) ++ t108) ++ (⟨#[58, 32]⟩ : ByteArray)).size + t109.size) = False := eq_false (Nat.not_lt.2 c12)
        try have c12b3 : (9223372036854775807 < a0_0.size + 1 + t107.size + 1 + t108.size + 2 + t109.size) = False := by have h_ := c12b2; simp only [ByteArray.size_append] at h_; exact h_
        replace H := iE H; rcases H with ⟨c13b0, c13b1, H⟩ | ⟨c13, c13b0, c13b1, H⟩
        ·replace H := s2 H; obtain ⟨rfl, rfl⟩ := H
         go_enter Tryd.func9, Tryd.ntmps9
         try go_wp2_with (first | (refine boxA HB 1 #[.string a0_0, .int .i64 a0_1, .int .i64 a0_2, .int .i64 a0_3, .string a0_4] 24 ?_; clear HB; intro gb105 w14 BK105 GE105 hg hb HB; clear hb hg; obtain ⟨hcz15_0, hcz15_1, hcz15_2, hcz15_3, hcz15_4, hfz15_0, hfz15_1, hfz15_2, hfz15_3, hfz15_4⟩ := cf5 BK105) | (refine callA (some 7) Tryd.func15 #[.agg #[.string a0_0, .int .i64 a0_1, .int .i64 a0_2, .int .i64 a0_3, .string a0_4]] ?_; (with_reducible refine (note_Check.calls k a0_0 a0_1 a0_2 a0_3 a0_4 t106 _ A2.out).mono ?_); rintro e w16 ⟨rfl, hb⟩; refine ⟨_, rfl, ?_⟩; replace BK105 := bk1 BK105 hb; replace HB := hb1 HB hb; (try clear hb)))
         replace BK105 := bkd BK105
         replace HB := hbd HB
         refine start_ (n := 18) (S := fun w' => w'.cell? ⟨gb105, 0, none⟩ = some (.string a0_0) ∧ w'.cell? ⟨gb105, 1, none⟩ = some (.int .i64 a0_1) ∧ w'.cell? ⟨gb105, 2, none⟩ = some (.int .i64 a0_2) ∧ w'.cell? ⟨gb105, 3, none⟩ = some (.int .i64 a0_3) ∧ w'.cell? ⟨gb105, 4, none⟩ = some (.string a0_4)) (ds := []) (tb 18 0) (by kernel_rfl) rfl (by kernel_rfl) ⟨(blk_cell BK105.out 0).trans rfl, (blk_cell BK105.out 1).trans rfl, (blk_cell BK105.out 2).trans rfl, (blk_cell BK105.out 3).trans rfl, (blk_cell BK105.out 4).trans rfl⟩ (fun hHeld => ?_); refine with_tabW note_Text.tab4 note_Text.bits4 (fun HT_ HW_ => ?_)
         generalize w16.drew = w17 at BK105 HB hHeld ⊢
         refine pA 0 11 (tb 18 1) HT_ ?_
         refine pA 3 14 (tb 18 9) HT_ ?_
         refine pA 8 19 (tb 18 265) HT_ ?_
         refine pA 13 24 (tb 18 8457) HT_ ?_
         refine tA 1 12 (tb 18 8459) HT_ HW_ hHeld ?_
         refine pA 2 13 (tb 18 8463) HT_ ?_
         refine tA 4 15 (tb 18 8479) HT_ HW_ hHeld ?_
         refine tA 9 20 (tb 18 8991) HT_ HW_ hHeld ?_
         refine tA 14 25 (tb 18 25375) HT_ HW_ hHeld ?_
         refine oA 5 (some 16) (tb 18 25407) HT_ (fun K hK => ?_)
         refine gA Tryd.func39 #[.int .i64 a0_1] ?_
         with_reducible refine (strconv_Itoa.calls a0_1 t107 _ A5.out).mono ?_
         rintro e w' ⟨rfl, ⟨nd, rfl⟩⟩
         refine ⟨_, rfl, ?_⟩
         refine hK.out _ _ ⟨(blk_cell BK105.out 0).trans rfl, (blk_cell BK105.out 1).trans rfl, (blk_cell BK105.out 2).trans rfl, (blk_cell BK105.out 3).trans rfl, (blk_cell BK105.out 4).trans rfl⟩ (fun hHeld => ?_)
         clear hK K
         refine nA ?_
         refine pA 6 17 (tb 18 25471) HT_ ?_
         refine pA 7 18 (tb 18 25599) HT_ ?_
         refine oA 10 (some 21) (tb 18 26623) HT_ (fun K hK => ?_)
         refine gA Tryd.func39 #[.int .i64 a0_2] ?_
         with_reducible refine (strconv_Itoa.calls a0_2 t108 _ A8.out).mono ?_
         rintro e w' ⟨rfl, ⟨nd, rfl⟩⟩
         refine ⟨_, rfl, ?_⟩
         refine hK.out _ _ ⟨(blk_cell BK105.out 0).trans rfl, (blk_cell BK105.out 1).trans rfl, (blk_cell BK105.out 2).trans rfl, (blk_cell BK105.out 3).trans rfl, (blk_cell BK105.out 4).trans rfl⟩ (fun hHeld => ?_)
         clear hK K
         refine nA ?_
         refine pA 11 22 (tb 18 28671) HT_ ?_
         refine pA 12 23 (tb 18 32767) HT_ ?_
         refine oA 15 (some 26) (tb 18 65535) HT_ (fun K hK => ?_)
         refine gA Tryd.func13 #[.int .i64 a0_3] ?_
         with_reducible refine (note_Name.calls a0_3 t109 _ A11.out).mono ?_
         rintro e w18 ⟨rfl, hb⟩
         refine ⟨_, rfl, ?_⟩
         replace BK105 := bk1 BK105 hb
         replace HB := hb1 HB hb
         (try clear hb)
         refine hK.out _ _ ⟨(blk_cell BK105.out 0).trans rfl, (blk_cell BK105.out 1).trans rfl, (blk_cell BK105.out 2).trans rfl, (blk_cell BK105.out 3).trans rfl, (blk_cell BK105.out 4).trans rfl⟩ (fun hHeld => ?_)
         clear hK K
         refine nA ?_
         refine pA 16 27 (tb 18 131071) HT_ ?_
         refine pA 17 5 (tb 18 262143) HT_ ?_
         refine done_ (done_of HT_.out (by kernel_rfl)) ?_
         obtain ⟨hcz19_0, hcz19_1, hcz19_2, hcz19_3, hcz19_4, hfz19_0, hfz19_1, hfz19_2, hfz19_3, hfz19_4⟩ := cf5 BK105
         try go_wp2
         go_ret2
         exact ⟨by rfl, by repeat (with_reducible exact HB.out)⟩
        ·by_cases c20 : 1 + a0_4.size ≤ 9223372036854775807
         ·rw [if_pos c20] at H
          have c20b0 := eq_true c20
          have c20b1 : decide (1 + a0_4.size ≤ 9223372036854775807) = true := decide_eq_true c20
          try have c20b2 : (9223372036854775807 < 1 + a0_4.size) = False := eq_false (Nat.not_lt.2 c20)
          by_cases c21 : ((((((a0_0 ++ (⟨#[58]⟩ : ByteArray)) ++ t107) ++ (⟨#[58]⟩ : ByteArray)) ++ t108) ++ (⟨#[58, 32]⟩ : ByteArray)) ++ t109).size + ((⟨#[32]⟩ : ByteArray) ++ a0_4).size ≤ 9223372036854775807
          ·rw [if_pos c21] at H
           have c21b0 := eq_true c21
           have c21b1 : decide (((((((a0_0 ++ (⟨#[58]⟩ : ByteArray)) ++ t107) ++ (⟨#[58]⟩ : ByteArray)) ++ t108) ++ (⟨#[58, 32]⟩ : ByteArray)) ++ t109).size + ((⟨#[32]⟩ : ByteArray) ++ a0_4).size ≤ 9223372036854775807) = true := decide_eq_true c21
           try have c21b2 : (9223372036854775807 < ((((((a0_0 ++ (⟨#[58]⟩ : ByteArray)) ++ t107) ++ (⟨#[58]⟩ : ByteArray)) ++ t108) ++ (⟨#[58, 32]⟩ : ByteArray)) ++ t109).size + ((⟨#[32]⟩ : ByteArray) ++ a0_4).size) = False := eq_false (Nat.not_lt.2 c21)
           try have c21b3 : (9223372036854775807 < a0_0.size + 1 + t107.size + 1 + t108.size + 2 + t109.size + (1 + a0_4.size)) = False := by have h_ := c21b2; simp only [ByteArray.size_append] at h_; exact h_
           replace H := s2 H; obtain ⟨rfl, rfl⟩ := H
           go_enter Tryd.func9, Tryd.ntmps9
           try go_wp2_with (first | (refine boxA HB 1 #[.string a0_0, .int .i64 a0_1, .int .i64 a0_2, .int .i64 a0_3, .string a0_4] 24 ?_; clear HB; intro gb105 w22 BK105 GE105 hg hb HB; clear hb hg; obtain ⟨hcz23_0, hcz23_1, hcz23_2, hcz23_3, hcz23_4, hfz23_0, hfz23_1, hfz23_2, hfz23_3, hfz23_4⟩ := cf5 BK105) | (refine callA (some 7) Tryd.func15 #[.agg #[.string a0_0, .int .i64 a0_1, .int .i64 a0_2, .int .i64 a0_3, .string a0_4]] ?_; (with_reducible refine (note_Check.calls k a0_0 a0_1 a0_2 a0_3 a0_4 t106 _ A2.out).mono ?_); rintro e w24 ⟨rfl, hb⟩; refine ⟨_, rfl, ?_⟩; replace BK105 := bk1 BK105 hb; replace HB := hb1 HB hb; (try clear hb)))
           replace BK105 := bkd BK105
           replace HB := hbd HB
           refine start_ (n := 18) (S := fun w' => w'.cell? ⟨gb105, 0, none⟩ = some (.string a0_0) ∧ w'.cell? ⟨gb105, 1, none⟩ = some (.int .i64 a0_1) ∧ w'.cell? ⟨gb105, 2, none⟩ = some (.int .i64 a0_2) ∧ w'.cell? ⟨gb105, 3, none⟩ = some (.int .i64 a0_3) ∧ w'.cell? ⟨gb105, 4, none⟩ = some (.string a0_4)) (ds := []) (tb 18 0) (by kernel_rfl) rfl (by kernel_rfl) ⟨(blk_cell BK105.out 0).trans rfl, (blk_cell BK105.out 1).trans rfl, (blk_cell BK105.out 2).trans rfl, (blk_cell BK105.out 3).trans rfl, (blk_cell BK105.out 4).trans rfl⟩ (fun hHeld => ?_); refine with_tabW note_Text.tab4 note_Text.bits4 (fun HT_ HW_ => ?_)
           generalize w24.drew = w25 at BK105 HB hHeld ⊢
           refine pA 0 11 (tb 18 1) HT_ ?_
           refine pA 3 14 (tb 18 9) HT_ ?_
           refine pA 8 19 (tb 18 265) HT_ ?_
           refine pA 13 24 (tb 18 8457) HT_ ?_
           refine tA 1 12 (tb 18 8459) HT_ HW_ hHeld ?_
           refine pA 2 13 (tb 18 8463) HT_ ?_
           refine tA 4 15 (tb 18 8479) HT_ HW_ hHeld ?_
           refine tA 9 20 (tb 18 8991) HT_ HW_ hHeld ?_
           refine tA 14 25 (tb 18 25375) HT_ HW_ hHeld ?_
           refine oA 5 (some 16) (tb 18 25407) HT_ (fun K hK => ?_)
           refine gA Tryd.func39 #[.int .i64 a0_1] ?_
           with_reducible refine (strconv_Itoa.calls a0_1 t107 _ A5.out).mono ?_
           rintro e w' ⟨rfl, ⟨nd, rfl⟩⟩
           refine ⟨_, rfl, ?_⟩
           refine hK.out _ _ ⟨(blk_cell BK105.out 0).trans rfl, (blk_cell BK105.out 1).trans rfl, (blk_cell BK105.out 2).trans rfl, (blk_cell BK105.out 3).trans rfl, (blk_cell BK105.out 4).trans rfl⟩ (fun hHeld => ?_)
           clear hK K
           refine nA ?_
           refine pA 6 17 (tb 18 25471) HT_ ?_
           refine pA 7 18 (tb 18 25599) HT_ ?_
           refine oA 10 (some 21) (tb 18 26623) HT_ (fun K hK => ?_)
           refine gA Tryd.func39 #[.int .i64 a0_2] ?_
           with_reducible refine (strconv_Itoa.calls a0_2 t108 _ A8.out).mono ?_
           rintro e w' ⟨rfl, ⟨nd, rfl⟩⟩
           refine ⟨_, rfl, ?_⟩
           refine hK.out _ _ ⟨(blk_cell BK105.out 0).trans rfl, (blk_cell BK105.out 1).trans rfl, (blk_cell BK105.out 2).trans rfl, (blk_cell BK105.out 3).trans rfl, (blk_cell BK105.out 4).trans rfl⟩ (fun hHeld => ?_)
           clear hK K
           refine nA ?_
           refine pA 11 22 (tb 18 28671) HT_ ?_
           refine pA 12 23 (tb 18 32767) HT_ ?_
           refine oA 15 (some 26) (tb 18 65535) HT_ (fun K hK => ?_)
           refine gA Tryd.func13 #[.int .i64 a0_3] ?_
           with_reducible refine (note_Name.calls a0_3 t109 _ A11.out).mono ?_
           rintro e w26 ⟨rfl, hb⟩
           refine ⟨_, rfl, ?_⟩
           replace BK105 := bk1 BK105 hb
           replace HB := hb1 HB hb
           (try clear hb)
           refine hK.out _ _ ⟨(blk_cell BK105.out 0).trans rfl, (blk_cell BK105.out 1).trans rfl, (blk_cell BK105.out 2).trans rfl, (blk_cell BK105.out 3).trans rfl, (blk_cell BK105.out 4).trans rfl⟩ (fun hHeld => ?_)
           clear hK K
           refine nA ?_
           refine pA 16 27 (tb 18 131071) HT_ ?_
           refine pA 17 5 (tb 18 262143) HT_ ?_
           refine done_ (done_of HT_.out (by kernel_rfl)) ?_
           obtain ⟨hcz27_0, hcz27_1, hcz27_2, hcz27_3, hcz27_4, hfz27_0, hfz27_1, hfz27_2, hfz27_3, hfz27_4⟩ := cf5 BK105
           try go_wp2
           go_ret2
           exact ⟨by rfl, by repeat (with_reducible exact HB.out)⟩
          ·rw [if_neg c21] at H
           exact absurd H (by simp)
         ·rw [if_neg c20] at H
          exact absurd H (by simp)
       ·rw [if_neg c12] at H
        exact absurd H (by simp)
      ·rw [if_neg c10] at H
       exact absurd H (by simp)
     ·rw [if_neg c9] at H
      exact absurd H (by simp)
    ·rw [if_neg c7] at H
     exact absurd H (by simp)
   ·rw [if_neg c6] at H
    exact absurd H (by simp)
  ·rw [if_neg c4] at H
   exact absurd H (by simp)
 ·replace H := s2 H; obtain ⟨rfl, rfl⟩ := H
  go_enter Tryd.func9, Tryd.ntmps9
  go_wp2_with (first | (refine boxA HB 1 #[.string a0_0, .int .i64 a0_1, .int .i64 a0_2, .int .i64 a0_3, .string a0_4] 24 ?_; clear HB; intro gb105 w28 BK105 GE105 hg hb HB; clear hb hg; obtain ⟨hcz29_0, hcz29_1, hcz29_2, hcz29_3, hcz29_4, hfz29_0, hfz29_1, hfz29_2, hfz29_3, hfz29_4⟩ := cf5 BK105) | (refine callA (some 7) Tryd.func15 #[.agg #[.string a0_0, .int .i64 a0_1, .int .i64 a0_2, .int .i64 a0_3, .string a0_4]] ?_; (with_reducible refine (note_Check.calls k a0_0 a0_1 a0_2 a0_3 a0_4 t106 _ A2.out).mono ?_); rintro e w30 ⟨rfl, hb⟩; refine ⟨_, rfl, ?_⟩; replace BK105 := bk1 BK105 hb; replace HB := hb1 HB hb; (try clear hb)))
  go_ret2
  exact ⟨by rfl, by repeat (with_reducible exact HB.out)⟩
end Go.Proofs.YtlamgdibnnmbmaaDoor.PRead
end
section
namespace Go.Proofs.YtlamgdibnnmbmaaDoor.PRead
open Go.RowKit Go.Proofs.YtlamgdibnnmbmaaDoorW.PrintWords Go.Proofs.YtlamgdibnnmbmaaDoorW.PrintLast Go.Proofs.YtlamgdibnnmbmaaDoorW.PrintMore
attribute [local go_sem] max2_int min2_int max_two min_two max_three min_three max_four min_four
set_option linter.unusedVariables false
set_option linter.unusedSimpArgs false
def masklaw1_told.f (k : Nat)  : Option (Bool) := (note_Text.f k (⟨#[97, 46, 109, 119]⟩ : ByteArray) 3 7 7 (⟨#[99, 110, 116]⟩ : ByteArray)).bind fun bt110 => (if bt110.2 = 0 then (some (bt110.1.toList == ([97, 46, 109, 119, 58, 51, 58, 55, 58, 32, 117, 110, 107, 110, 111, 119, 110, 32, 99, 110, 116] : List UInt8))) else (some false))
theorem masklaw1_told.mono : ∀ k, LeO (masklaw1_told.f k ) (masklaw1_told.f (k + 1) ) := by
 intro  k
 unfold masklaw1_told.f
 repeat' first | with_reducible exact note_Text.mono _ _ _ _ _ _ | with_reducible exact LeO.refl _ | with_reducible exact LeO.none _ | with_reducible refine LeO.ite ?_ ?_ | with_reducible refine LeO.bind ?_ (fun _ => ?_)
set_option maxHeartbeats 8000000 in
set_option maxRecDepth 100000 in
theorem masklaw1_told.calls (k : Nat)  (r : Bool) (w : World) (h : masklaw1_told.f k  = some r) :
  Calls Tryd.prog 10 #[] w fun e w' => e = .returned (.bool r) ∧ Below w.heap.size w w' := by
 have hu24 := Tryd.underlying24
 have HB := Aside0.mk (Below.refl w.heap.size w)
 have H := h
 clear h
 unfold masklaw1_told.f at H
 replace H := bN H; obtain ⟨⟨t110, t111⟩, A1, H⟩ := H; dsimp only at H
 replace H := iE H; rcases H with ⟨c2b0, c2b1, H⟩ | ⟨c2, c2b0, c2b1, H⟩
 ·obtain rfl := Option.some.inj H
  go_enter Tryd.func10, Tryd.ntmps10
  go_wp2_with ((refine callA (some 5) Tryd.func9 #[.agg #[.string (⟨#[97, 46, 109, 119]⟩ : ByteArray), .int .i64 3, .int .i64 7, .int .i64 7, .string (⟨#[99, 110, 116]⟩ : ByteArray)]] ?_; (with_reducible refine (note_Text.calls k (⟨#[97, 46, 109, 119]⟩ : ByteArray) 3 7 7 (⟨#[99, 110, 116]⟩ : ByteArray) t110 t111 _ A1.out).mono ?_); rintro e w3 ⟨rfl, hb⟩; refine ⟨_, rfl, ?_⟩; replace HB := hb1 HB hb; (try clear hb)))
  go_ret
  exact ⟨by rfl, by repeat (with_reducible exact HB.out)⟩
 ·obtain rfl := Option.some.inj H
  go_enter Tryd.func10, Tryd.ntmps10
  go_wp2_with ((refine callA (some 5) Tryd.func9 #[.agg #[.string (⟨#[97, 46, 109, 119]⟩ : ByteArray), .int .i64 3, .int .i64 7, .int .i64 7, .string (⟨#[99, 110, 116]⟩ : ByteArray)]] ?_; (with_reducible refine (note_Text.calls k (⟨#[97, 46, 109, 119]⟩ : ByteArray) 3 7 7 (⟨#[99, 110, 116]⟩ : ByteArray) t110 t111 _ A1.out).mono ?_); rintro e w4 ⟨rfl, hb⟩; refine ⟨_, rfl, ?_⟩; replace HB := hb1 HB hb; (try clear hb)))
  go_ret
  exact ⟨by rfl, by repeat (with_reducible exact HB.out)⟩
end Go.Proofs.YtlamgdibnnmbmaaDoor.PRead
end
section
namespace Go.Proofs.YtlamgdibnnmbmaaDoor.PRead
open Go.RowKit Go.Proofs.YtlamgdibnnmbmaaDoorW.PrintWords Go.Proofs.YtlamgdibnnmbmaaDoorW.PrintLast Go.Proofs.YtlamgdibnnmbmaaDoorW.PrintMore
attribute [local go_sem] max2_int min2_int max_two min_two max_three min_three max_four min_four
set_option linter.unusedVariables false
set_option linter.unusedSimpArgs false
mutual
def note_number.j0 : Nat → ByteArray → Bool → Option (Int × Bool)
 | 0, _, _ => none
 | k + 1, x0, x18 => if x18 = true then (some (0, false)) else (note_number.l0 k x0 (x0.size : Int) 0)
def note_number.l0 : Nat → ByteArray → Int → Int → Option (Int × Bool)
 | 0, _, _, _ => none
 | k + 1, x0, x20, x21 => if x21 < x20 then (if 0 ≤ x21 then (if x21 < (x0.size : Int) then (if (bt x0 x21) < 48 then (some (0, false)) else (if (bt x0 x21) > 57 then (some (0, false)) else (note_number.l0 k x0 x20 (wrap64 (x21 + 1))))) else (none)) else (none)) else (if 0 ≤ (mn (x0.size : Int) 18) then (if (mn (x0.size : Int) 18) ≤ (x0.size : Int) then ((strconv_Atoi.f (x0.extract 0 ((mn (x0.size : Int) 18) : Int).toNat)).bind fun bt112 => (some (bt112.1, true))) else (none)) else (none))
end
def note_number.f (k : Nat) (a0 : ByteArray) : Option (Int × Bool) := if a0.toList = ([] : List UInt8) then (note_number.j0 k a0 true) else (if (a0.size : Int) > 1 then (if 0 < (a0.size : Int) then (note_number.j0 k a0 ((bt a0 0) == 48)) else (none)) else (note_number.j0 k a0 false))
set_option maxHeartbeats 8000000 in
set_option maxRecDepth 100000 in
theorem note_number.calls (k : Nat) (a0 : ByteArray) (r1 : Int) (r2 : Bool) (w : World) (h : note_number.f k a0 = some (r1, r2)) :
  Calls Tryd.prog 65 #[.string a0] w fun e w' => e = .returned (.tuple #[.int .i64 r1, .bool r2]) ∧ Below w.heap.size w w' := by
 have HB := Aside0.mk (Below.refl w.heap.size w)
 have H := h
 clear h
 unfold note_number.f at H
 have HC2 := Aside0.mk H
 clear H
 go_enter Tryd.func65, Tryd.ntmps65
 go_upto_region 1 with (fail)
 go_cut [18] (fun v18 wc => ∃ (kq : Nat) (x18_1 : Bool), v18 = .bool x18_1 ∧ Aside0 (note_number.j0 kq a0 x18_1 = some (r1, r2)) ∧ Aside0 (kq ≤ k) ∧ Aside0 (Below w.heap.size w wc))
 case first =>
  have H := HC2.out
  clear HC2
  replace H := iE H; rcases H with ⟨c3b0, c3b1, H⟩ | ⟨c3, c3b0, c3b1, H⟩
  ·(skip)
   have H' := Aside0.mk H
   clear H
   go_wp2
   go_meet
   case rel => exact ⟨_, (true), (by rfl), H', ⟨by omega⟩, ⟨by repeat (with_reducible exact HB.out)⟩⟩
  ·(skip)
   by_cases c4 : (a0.size : Int) > 1
   ·rw [if_pos c4] at H
    have c4b0 : decide (1 < (a0.size : Int)) = true := decide_eq_true c4
    have c4b1 : decide (1 < a0.size) = true := decide_eq_true (by omega)
    clear c4
    by_cases c5 : 0 < (a0.size : Int)
    ·rw [if_pos c5] at H
     have c5b0 : decide (0 < (a0.size : Int)) = true := decide_eq_true c5
     have c5b1 : decide (0 < a0.size) = true := decide_eq_true (by omega)
     clear c5
     have H' := Aside0.mk H
     clear H
     have p6 : 0 ≤ (0 : Int) := (by omega)
     have q6 : 0 < a0.size := (by have : (0 : Int) < (a0.size : Int) := of_decide_eq_true (by (with_reducible assumption)); omega)
     have hx6 : ∀ h : 0 < a0.size, ((a0[0]'h).toNat : Int) = bt a0 0 := bt_at a0 0
     clear p6
     have qi6 : (0 < (a0.size : Int)) = True := eq_true (of_decide_eq_true (by (with_reducible assumption)))
     replace q6 := eq_true q6
     go_wp2
     go_meet
     case rel => exact ⟨_, ((bt a0 0) == 48), (by rfl), H', ⟨by omega⟩, ⟨by repeat (with_reducible exact HB.out)⟩⟩
    ·rw [if_neg c5] at H
     exact absurd H (by simp)
   ·rw [if_neg c4] at H
    have c4b0 : decide (1 < (a0.size : Int)) = false := decide_eq_false c4
    have c4b1 : decide (1 < a0.size) = false := decide_eq_false (by omega)
    clear c4
    have H' := Aside0.mk H
    clear H
    go_wp2
    go_meet
    case rel => exact ⟨_, (false), (by rfl), H', ⟨by omega⟩, ⟨by repeat (with_reducible exact HB.out)⟩⟩
 case rest =>
  clear HC2
  obtain ⟨kq, x18_1, rfl, HA, HJ1, HB⟩ := hcut
  cases kq with
  | zero => exact absurd HA.out (by simp [note_number.j0])
  | succ kj1 =>
   have H := HA.out
   clear HA
   simp only [note_number.j0] at H
   replace H := iB H; rcases H with ⟨rfl, H⟩ | ⟨rfl, H⟩
   ·replace H := s2 H; obtain ⟨rfl, rfl⟩ := H
    go_wp2
    go_ret2
    exact ⟨by rfl, by repeat (with_reducible exact HB.out)⟩
   ·have H' := Aside0.mk H
    clear H
    go_wp2
    go_loopg [21] kj1 (fun kq v21 w' => ∃ (x21_2 : Int), v21 = .int .i64 x21_2 ∧ Aside0 (note_number.l0 kq a0 (a0.size : Int) x21_2 = some (r1, r2)) ∧ Aside0 (kq ≤ kj1) ∧ Aside0 (Below w.heap.size w w'))
    case atStart => exact ⟨(0), (by rfl), H', ⟨Nat.le_refl _⟩, ⟨by repeat (with_reducible exact HB.out)⟩⟩
    case round =>
     clear H'
     obtain ⟨x21_2, rfl, HA, HK2, HB⟩ := hrel
     cases gk with
     | zero => exact absurd HA.out (by simp [note_number.l0])
     | succ k2 =>
      have H := HA.out
      clear HA
      simp only [note_number.l0] at H
      replace H := iD H; rcases H with ⟨c8b0, H⟩ | ⟨c8b0, H⟩
      ·replace H := iN H; obtain ⟨c9b0, H⟩ := H
       replace H := iN H; obtain ⟨c10b0, H⟩ := H
       replace H := iD H; rcases H with ⟨c12b0, H⟩ | ⟨c12b0, H⟩
       ·replace H := s2 H; obtain ⟨rfl, rfl⟩ := H
        have p11 : 0 ≤ (x21_2 : Int) := of_decide_eq_true (by (with_reducible assumption))
        have q11 : x21_2 < (a0.size : Int) := of_decide_eq_true (by (with_reducible assumption))
        have hx11 := bt_at a0 x21_2
        replace p11 := eq_true p11
        replace q11 := eq_true q11
        go_wp2
        go_ret2
        exact ⟨by rfl, by repeat (with_reducible exact HB.out)⟩
       ·replace H := iD H; rcases H with ⟨c14b0, H⟩ | ⟨c14b0, H⟩
        ·replace c14b0 : decide (57 < (bt a0 x21_2)) = true := c14b0
         replace H := s2 H; obtain ⟨rfl, rfl⟩ := H
         have p11 : 0 ≤ (x21_2 : Int) := of_decide_eq_true (by (with_reducible assumption))
         have q11 : x21_2 < (a0.size : Int) := of_decide_eq_true (by (with_reducible assumption))
         have hx11 := bt_at a0 x21_2
         replace p11 := eq_true p11
         replace q11 := eq_true q11
         have p13 : 0 ≤ (x21_2 : Int) := of_decide_eq_true (by (with_reducible assumption))
         have q13 : x21_2 < (a0.size : Int) := of_decide_eq_true (by (with_reducible assumption))
         have hx13 := bt_at a0 x21_2
         replace p13 := eq_true p13
         replace q13 := eq_true q13
         go_wp2
         go_ret2
         exact ⟨by rfl, by repeat (with_reducible exact HB.out)⟩
        ·replace c14b0 : decide (57 < (bt a0 x21_2)) = false := c14b0
         have H' := Aside0.mk H
         clear H
         have p11 : 0 ≤ (x21_2 : Int) := of_decide_eq_true (by (with_reducible assumption))
         have q11 : x21_2 < (a0.size : Int) := of_decide_eq_true (by (with_reducible assumption))
         have hx11 := bt_at a0 x21_2
         replace p11 := eq_true p11
         replace q11 := eq_true q11
         have p13 : 0 ≤ (x21_2 : Int) := of_decide_eq_true (by (with_reducible assumption))
         have q13 : x21_2 < (a0.size : Int) := of_decide_eq_true (by (with_reducible assumption))
         have hx13 := bt_at a0 x21_2
         replace p13 := eq_true p13
         replace q13 := eq_true q13
         go_wp2
         go_roundg k2
         case measure => have := HJ1.out; have := HK2.out; omega
         case rel => exact ⟨(wrap64 (x21_2 + 1)), (by rfl), H', ⟨by have := HJ1.out; have := HK2.out; omega⟩, ⟨by repeat (with_reducible exact HB.out)⟩⟩
      ·obtain ⟨ji15, hji15⟩ : ∃ j_ : Int, (mn (a0.size : Int) 18) = j_ := ⟨_, rfl⟩
       replace H : (if 0 ≤ (ji15) then (if (ji15) ≤ (a0.size : Int) then ((strconv_Atoi.f (a0.extract 0 ((ji15) : Int).toNat)).bind fun bt112 => (some (bt112.1, true))) else (none)) else (none)) = some (r1, r2) := by (rw [hji15] at H; exact H)
       have hji15_ : (if 18 < (a0.size : Int) then 18 else (a0.size : Int)) = ji15 := hji15
       by_cases c16 : 0 ≤ (ji15)
       ·rw [if_pos c16] at H
        have c16b0 := eq_true c16
        have c16b1 : decide (0 ≤ (ji15)) = true := decide_eq_true c16
        clear c16
        by_cases c17 : (ji15) ≤ (a0.size : Int)
        ·rw [if_pos c17] at H
         have c17b0 := eq_true c17
         have c17b1 : decide ((ji15) ≤ (a0.size : Int)) = true := decide_eq_true c17
         clear c17
         replace H := bN H; obtain ⟨⟨t112, t113⟩, A18, H⟩ := H; dsimp only at H
         replace H := s2 H; obtain ⟨rfl, rfl⟩ := H
         go_wp2_with ((refine callA (some 41) Tryd.func88 #[.string (a0.extract 0 ((ji15) : Int).toNat)] ?_; (with_reducible refine (strconv_Atoi.calls (a0.extract 0 ((ji15) : Int).toNat) t112 t113 _ A18.out).mono ?_); rintro e w19 ⟨rfl, hb⟩; refine ⟨_, rfl, ?_⟩; replace HB := hb1 HB hb; (try clear hb)))
         go_ret2
         exact ⟨by rfl, by repeat (with_reducible exact HB.out)⟩
        ·rw [if_neg c17] at H
         exact absurd H (by simp)
       ·rw [if_neg c16] at H
        exact absurd H (by simp)
end Go.Proofs.YtlamgdibnnmbmaaDoor.PRead
end
section
namespace Go.Proofs.YtlamgdibnnmbmaaDoor.PRead
open Go.RowKit Go.Proofs.YtlamgdibnnmbmaaDoorW.PrintWords Go.Proofs.YtlamgdibnnmbmaaDoorW.PrintLast Go.Proofs.YtlamgdibnnmbmaaDoorW.PrintMore
attribute [local go_sem] max2_int min2_int max_two min_two max_three min_three max_four min_four
set_option linter.unusedVariables false
set_option linter.unusedSimpArgs false
mutual
def note_Read.j0 : Nat → List ByteArray → Bool → Option (ByteArray × Int × Int × Int × ByteArray × Int)
 | 0, _, _ => none
 | k + 1, x4, x26 => if x26 = true then (some ((⟨#[]⟩ : ByteArray), 0, 0, 0, (⟨#[]⟩ : ByteArray), 10)) else (if 1 < (x4.length : Int) then ((note_number.f k (rdOf ByteArray.empty x4 1)).bind fun bt121 => (if 2 < (x4.length : Int) then ((note_number.f k (rdOf ByteArray.empty x4 2)).bind fun bt124 => (if 3 < (x4.length : Int) then (if 1 ≤ ((rdOf ByteArray.empty x4 3).size : Int) then ((strings_Cut.f ((rdOf ByteArray.empty x4 3).extract 1 (rdOf ByteArray.empty x4 3).size) (⟨#[32]⟩ : ByteArray)).bind fun bt127 => (if bt121.2 = true then (if bt124.2 = true then (if bt127.2.2 = true then (note_Read.j1 k x4 bt121.1 bt124.1 bt127.1 bt127.2.1 (bt127.2.1.toList == ([] : List UInt8))) else (note_Read.j1 k x4 bt121.1 bt124.1 bt127.1 bt127.2.1 false)) else (note_Read.j1 k x4 bt121.1 bt124.1 bt127.1 bt127.2.1 true)) else (note_Read.j1 k x4 bt121.1 bt124.1 bt127.1 bt127.2.1 true))) else (none)) else (none))) else (none))) else (none))
def note_Read.j1 : Nat → List ByteArray → Int → Int → ByteArray → ByteArray → Bool → Option (ByteArray × Int × Int × Int × ByteArray × Int)
 | 0, _, _, _, _, _, _ => none
 | k + 1, x4, x5, x7, x9, x10, x63 => if x63 = true then (some ((⟨#[]⟩ : ByteArray), 0, 0, 0, (⟨#[]⟩ : ByteArray), 10)) else (note_Read.l0 k x4 x5 x7 x9 x10 1)
def note_Read.l0 : Nat → List ByteArray → Int → Int → ByteArray → ByteArray → Int → Option (ByteArray × Int × Int × Int × ByteArray × Int)
 | 0, _, _, _, _, _, _ => none
 | k + 1, x4, x5, x7, x9, x10, x12 => (note_Name.f x12).bind fun t130 => (if t130.toList = ([] : List UInt8) then (some ((⟨#[]⟩ : ByteArray), 0, 0, 0, (⟨#[]⟩ : ByteArray), 10)) else ((note_Name.f x12).bind fun t131 => (if t131.toList = x9.toList then (if 0 < (x4.length : Int) then ((note_Check.f k (rdOf ByteArray.empty x4 0) x5 x7 x12 x10).bind fun t134 => (if t134 = 0 then (some (rdOf ByteArray.empty x4 0, x5, x7, x12, x10, 0)) else (some ((⟨#[]⟩ : ByteArray), 0, 0, 0, (⟨#[]⟩ : ByteArray), t134)))) else (none)) else (note_Read.l0 k x4 x5 x7 x9 x10 (wrap64 (x12 + 1))))))
end
def note_Read.f (k : Nat) (a0 : ByteArray) : Option (ByteArray × Int × Int × Int × ByteArray × Int) := (strings_SplitN.f a0 (⟨#[58]⟩ : ByteArray) 4).bind fun t115 => (if (t115.length : Int) < 4 then (note_Read.j0 k t115 true) else (if 3 < (t115.length : Int) then ((strings_HasPrefix.f (rdOf ByteArray.empty t115 3) (⟨#[32]⟩ : ByteArray)).bind fun t119 => (note_Read.j0 k t115 (!t119))) else (none)))
set_option maxHeartbeats 8000000 in
set_option maxRecDepth 100000 in
theorem note_Read.calls (k : Nat) (a0 : ByteArray) (r1 : ByteArray) (r2 : Int) (r3 : Int) (r4 : Int) (r5 : ByteArray) (r6 : Int) (w : World) (h : note_Read.f k a0 = some (r1, r2, r3, r4, r5, r6)) (hG : Glob w) :
  Calls Tryd.prog 36 #[.string a0] w fun e w' => e = .returned (.tuple #[.agg #[.string r1, .int .i64 r2, .int .i64 r3, .int .i64 r4, .string r5], .int .i64 r6]) ∧ Below w.heap.size w w' := by
 have HG := Aside0.mk hG
 clear hG
 have hu24 := Tryd.underlying24
 have HB := Aside0.mk (Below.refl w.heap.size w)
 have H := h
 clear h
 unfold note_Read.f at H
 replace H := bN H; obtain ⟨t115, A2, H⟩ := H
 have HC3 := Aside0.mk H
 clear H
 go_enter Tryd.func36, Tryd.ntmps36
 go_upto_region 2 with (first | (refine boxA HB 2 #[.string (⟨#[]⟩ : ByteArray), .int .i64 0, .int .i64 0, .int .i64 0, .string (⟨#[]⟩ : ByteArray)] 24 ?_; clear HB; intro gb114 w4 BK114 GE114 hg hb HB; clear hb hg) | (refine callA (some 16) Tryd.func63 #[.string a0, .string (⟨#[58]⟩ : ByteArray), .int .i64 4] ?_; (with_reducible refine (strings_SplitN.calls a0 (⟨#[58]⟩ : ByteArray) 4 t115 _ A2.out ?side90).mono ?_); (case side90 => exact HG.out.below HB.out); rintro e w5 ⟨v116, rfl, ho0, hb⟩; refine ⟨_, rfl, ?_⟩; have HO117 := Aside0.mk (Kd.R_lower ho0 (below_size HB.out)); replace BK114 := bk1 BK114 hb; replace HB := hb1 HB hb; (try clear hb); (try clear ho0)))
 go_cut [26] (fun v26 wc => ∃ (kq : Nat) (x26_2 : Bool), v26 = .bool x26_2 ∧ Aside0 (note_Read.j0 kq t115 x26_2 = some (r1, r2, r3, r4, r5, r6)) ∧ Aside0 (kq ≤ k) ∧ Aside0 (Kd.R Kd.string 9 wc w.heap.size (fun _ => True) v116 t115) ∧ Aside0 (wc.heap[gb114]? = some (.cells #[.string (⟨#[]⟩ : ByteArray), .int .i64 0, .int .i64 0, .int .i64 0, .string (⟨#[]⟩ : ByteArray)] 24 (0, 0))) ∧ Aside0 (Below w.heap.size w wc))
 case first =>
  have H := HC3.out
  clear HC3
  by_cases c6 : (t115.length : Int) < 4
  ·rw [if_pos c6] at H
   have c6b0 : decide ((t115.length : Int) < 4) = true := decide_eq_true c6
   have c6b1 : decide (t115.length < 4) = true := decide_eq_true (by omega)
   clear c6
   (skip)
   have H' := Aside0.mk H
   clear H
   obtain ⟨Ao7, co7, eo7⟩ := Kd.R_slice HO117.out
   subst eo7
   go_wp2
   go_meet
   case rel => exact ⟨_, (true), (by rfl), H', ⟨by omega⟩, ⟨by exact HO117.out⟩, ⟨by exact BK114.out⟩, ⟨by repeat (with_reducible exact HB.out)⟩⟩
  ·rw [if_neg c6] at H
   have c6b0 : decide ((t115.length : Int) < 4) = false := decide_eq_false c6
   have c6b1 : decide (t115.length < 4) = false := decide_eq_false (by omega)
   clear c6
   (skip)
   by_cases c8 : 3 < (t115.length : Int)
   ·rw [if_pos c8] at H
    have c8b0 : decide (3 < (t115.length : Int)) = true := decide_eq_true c8
    have c8b1 : decide (3 < t115.length) = true := decide_eq_true (by omega)
    clear c8
    replace H := bN H; obtain ⟨t119, A9, H⟩ := H
    have H' := Aside0.mk H
    clear H
    obtain ⟨Ao10, co10, eo10⟩ := Kd.R_slice HO117.out
    subst eo10
    have p118 : 0 ≤ (3 : Int) := (by omega)
    have q118 : 3 < (t115.length : Int) := of_decide_eq_true (by (with_reducible assumption))
    obtain ⟨ad118, e118, hx118_0⟩ := Kd.at_string (Kd.R_reads' HO117.out).2.2 3 p118 q118
    cases e118
    (try simp only [show (3 : Int).toNat = 3 from rfl, Nat.reduceMul, Nat.reduceEqDiff, Go.Addr.add, ↓reduceIte] at hx118_0)
    have qi118 : (3 < t115.length) = True := eq_true (by omega)
    replace p118 := eq_true p118
    replace q118 := eq_true q118
    go_wp2_with ((go_at_call 64; (with_reducible refine (strings_HasPrefix.calls (rdOf ByteArray.empty t115 3) (⟨#[32]⟩ : ByteArray) t119 _ A9.out).mono ?_); rintro e w' ⟨rfl, ⟨nd, rfl⟩⟩))
    go_meet
    case rel => exact ⟨_, (!t119), (by rfl), H', ⟨by omega⟩, ⟨by (with_reducible repeat (apply Kd.R_drewN)); exact HO117.out⟩, ⟨by (with_reducible repeat (refine blk_drewN ?_ _)); exact BK114.out⟩, ⟨by repeat (with_reducible first | exact HB.out | apply pw_below_drewN)⟩⟩
   ·rw [if_neg c8] at H
    exact absurd H (by simp)
 case rest =>
  clear HC3
  obtain ⟨kq, x26_2, rfl, HA, HJ2, HO_4, BK114, HB⟩ := hcut
  cases kq with
  | zero => exact absurd HA.out (by simp [note_Read.j0])
  | succ kj2 =>
   have H := HA.out
   clear HA
   simp only [note_Read.j0] at H
   replace H := iB H; rcases H with ⟨rfl, H⟩ | ⟨rfl, H⟩
   ·simp only [Option.some.injEq, Prod.mk.injEq] at H
    obtain ⟨rfl, rfl, rfl, rfl, rfl, rfl⟩ := H
    obtain ⟨hcz12_0, hcz12_1, hcz12_2, hcz12_3, hcz12_4, hfz12_0, hfz12_1, hfz12_2, hfz12_3, hfz12_4⟩ := cf5 BK114
    go_wp2
    refine bodyPost_ret (results_ct rfl _ _ gb114 24 #[.string (⟨#[]⟩ : ByteArray), .int .i64 0, .int .i64 0, .int .i64 0, .string (⟨#[]⟩ : ByteArray)] (0, 0) _ rfl (by refine blk_put (cs := #[.string (⟨#[]⟩ : ByteArray), .int .i64 0, .int .i64 0, .int .i64 0, .string (⟨#[]⟩ : ByteArray)]) ?_ 4 _ rfl; refine blk_put (cs := #[.string (⟨#[]⟩ : ByteArray), .int .i64 0, .int .i64 0, .int .i64 0, .string (⟨#[]⟩ : ByteArray)]) ?_ 3 _ rfl; refine blk_put (cs := #[.string (⟨#[]⟩ : ByteArray), .int .i64 0, .int .i64 0, .int .i64 0, .string (⟨#[]⟩ : ByteArray)]) ?_ 2 _ rfl; refine blk_put (cs := #[.string (⟨#[]⟩ : ByteArray), .int .i64 0, .int .i64 0, .int .i64 0, .string (⟨#[]⟩ : ByteArray)]) ?_ 1 _ rfl; refine blk_put (cs := #[.string (⟨#[]⟩ : ByteArray), .int .i64 0, .int .i64 0, .int .i64 0, .string (⟨#[]⟩ : ByteArray)]) ?_ 0 _ rfl; exact BK114.out) Tryd.underlying24 rfl (by kernel_rfl)) rfl ?_
    exact ⟨by rfl, by repeat (with_reducible first | exact HB.out | refine below_set ?_ GE114.out)⟩
   ·by_cases c13 : 1 < (t115.length : Int)
    ·rw [if_pos c13] at H
     have c13b0 : decide (1 < (t115.length : Int)) = true := decide_eq_true c13
     have c13b1 : decide (1 < t115.length) = true := decide_eq_true (by omega)
     clear c13
     replace H := bN H; obtain ⟨⟨t121, t122⟩, A14, H⟩ := H; dsimp only at H
     by_cases c15 : 2 < (t115.length : Int)
     ·rw [if_pos c15] at H
      have c15b0 : decide (2 < (t115.length : Int)) = true := decide_eq_true c15
      have c15b1 : decide (2 < t115.length) = true := decide_eq_true (by omega)
      clear c15
      replace H := bN H; obtain ⟨⟨t124, t125⟩, A16, H⟩ := H; dsimp only at H
      by_cases c17 : 3 < (t115.length : Int)
      ·rw [if_pos c17] at H
       have c17b0 : decide (3 < (t115.length : Int)) = true := decide_eq_true c17
       have c17b1 : decide (3 < t115.length) = true := decide_eq_true (by omega)
       clear c17
       by_cases c18 : 1 ≤ ((rdOf ByteArray.empty t115 3).size : Int)
       ·rw [if_pos c18] at H
        have c18b0 := eq_true c18
        have c18b1 : decide (1 ≤ ((rdOf ByteArray.empty t115 3).size : Int)) = true := decide_eq_true c18
        clear c18
        replace H := bN H; obtain ⟨⟨t127, t128, t129⟩, A19, H⟩ := H; dsimp only at H
        have HC20 := Aside0.mk H
        clear H
        obtain ⟨Ao21, co21, eo21⟩ := Kd.R_slice HO_4.out
        subst eo21
        have p120 : 0 ≤ (1 : Int) := (by omega)
        have q120 : 1 < (t115.length : Int) := of_decide_eq_true (by (with_reducible assumption))
        obtain ⟨ad120, e120, hx120_0⟩ := Kd.at_string (Kd.R_reads' HO_4.out).2.2 1 p120 q120
        cases e120
        (try simp only [show (1 : Int).toNat = 1 from rfl, Nat.reduceMul, Nat.reduceEqDiff, Go.Addr.add, ↓reduceIte] at hx120_0)
        have qi120 : (1 < t115.length) = True := eq_true (by omega)
        replace p120 := eq_true p120
        replace q120 := eq_true q120
        go_upto_region 7 with (first | (refine callA (some 32) Tryd.func65 #[.string (rdOf ByteArray.empty t115 1)] ?_; (with_reducible refine (note_number.calls kj2 (rdOf ByteArray.empty t115 1) t121 t122 _ A14.out).mono ?_); rintro e w22 ⟨rfl, hb⟩; refine ⟨_, rfl, ?_⟩; replace HO_4 := Kd.rb1 HO_4 hb; replace BK114 := bk1 BK114 hb; replace HB := hb1 HB hb; (try clear hb); have p123 : 0 ≤ (2 : Int) := (by omega); have q123 : 2 < (t115.length : Int) := of_decide_eq_true (by (with_reducible assumption)); obtain ⟨ad123, e123, hx123_0⟩ := Kd.at_string (Kd.R_reads' HO_4.out).2.2 2 p123 q123; obtain rfl : ad120 = ad123 := (by injection e123); (try simp only [show (2 : Int).toNat = 2 from rfl, Nat.reduceMul, Nat.reduceEqDiff, Go.Addr.add, ↓reduceIte] at hx123_0); have qi123 : (2 < t115.length) = True := eq_true (by omega); replace p123 := eq_true p123; replace q123 := eq_true q123) | (refine callA (some 39) Tryd.func65 #[.string (rdOf ByteArray.empty t115 2)] ?_; (with_reducible refine (note_number.calls kj2 (rdOf ByteArray.empty t115 2) t124 t125 _ A16.out).mono ?_); rintro e w23 ⟨rfl, hb⟩; refine ⟨_, rfl, ?_⟩; replace HO_4 := Kd.rb1 HO_4 hb; replace BK114 := bk1 BK114 hb; replace HB := hb1 HB hb; (try clear hb); have p126 : 0 ≤ (3 : Int) := (by omega); have q126 : 3 < (t115.length : Int) := of_decide_eq_true (by (with_reducible assumption)); obtain ⟨ad126, e126, hx126_0⟩ := Kd.at_string (Kd.R_reads' HO_4.out).2.2 3 p126 q126; obtain rfl : ad120 = ad126 := (by injection e126); (try simp only [show (3 : Int).toNat = 3 from rfl, Nat.reduceMul, Nat.reduceEqDiff, Go.Addr.add, ↓reduceIte] at hx126_0); have qi126 : (3 < t115.length) = True := eq_true (by omega); replace p126 := eq_true p126; replace q126 := eq_true q126) | (refine callA (some 47) Tryd.func66 #[.string ((rdOf ByteArray.empty t115 3).extract 1 (rdOf ByteArray.empty t115 3).size), .string (⟨#[32]⟩ : ByteArray)] ?_; (with_reducible refine (strings_Cut.calls ((rdOf ByteArray.empty t115 3).extract 1 (rdOf ByteArray.empty t115 3).size) (⟨#[32]⟩ : ByteArray) t127 t128 t129 _ A19.out ?side90).mono ?_); (case side90 => exact HG.out.below HB.out); rintro e w' ⟨rfl, ⟨nd, rfl⟩⟩; refine ⟨_, rfl, ?_⟩))
        go_cut [63] (fun v63 wc => ∃ (kq : Nat) (x63_19 : Bool), v63 = .bool x63_19 ∧ Aside0 (note_Read.j1 kq t115 t121 t124 t127 t128 x63_19 = some (r1, r2, r3, r4, r5, r6)) ∧ Aside0 (kq ≤ kj2) ∧ Aside0 (Kd.R Kd.string 9 wc w.heap.size (fun _ => True) (.slice (some ad120) t115.length co21) t115) ∧ Aside0 (wc.heap[gb114]? = some (.cells #[.string (⟨#[]⟩ : ByteArray), .int .i64 0, .int .i64 0, .int .i64 0, .string (⟨#[]⟩ : ByteArray)] 24 (0, 0))) ∧ Aside0 (Below w.heap.size w wc))
        case first =>
         have H := HC20.out
         clear HC20
         replace H := iB H; rcases H with ⟨rfl, H⟩ | ⟨rfl, H⟩
         ·replace H := iB H; rcases H with ⟨rfl, H⟩ | ⟨rfl, H⟩
          ·replace H := iB H; rcases H with ⟨rfl, H⟩ | ⟨rfl, H⟩
           ·have H' := Aside0.mk H
            clear H
            go_wp2
            go_meet
            case rel => exact ⟨_, (t128.toList == ([] : List UInt8)), (by (simp; done)), H', ⟨by have := HJ2.out; omega⟩, ⟨by (with_reducible repeat (apply Kd.R_drewN)); exact HO_4.out⟩, ⟨by (with_reducible repeat (refine blk_drewN ?_ _)); exact BK114.out⟩, ⟨by repeat (with_reducible first | exact HB.out | apply pw_below_drewN)⟩⟩
           ·have H' := Aside0.mk H
            clear H
            go_wp2
            go_meet
            case rel => exact ⟨_, (false), (by rfl), H', ⟨by have := HJ2.out; omega⟩, ⟨by (with_reducible repeat (apply Kd.R_drewN)); exact HO_4.out⟩, ⟨by (with_reducible repeat (refine blk_drewN ?_ _)); exact BK114.out⟩, ⟨by repeat (with_reducible first | exact HB.out | apply pw_below_drewN)⟩⟩
          ·have H' := Aside0.mk H
           clear H
           go_wp2
           go_meet
           case rel => exact ⟨_, (true), (by rfl), H', ⟨by have := HJ2.out; omega⟩, ⟨by (with_reducible repeat (apply Kd.R_drewN)); exact HO_4.out⟩, ⟨by (with_reducible repeat (refine blk_drewN ?_ _)); exact BK114.out⟩, ⟨by repeat (with_reducible first | exact HB.out | apply pw_below_drewN)⟩⟩
         ·have H' := Aside0.mk H
          clear H
          go_wp2
          go_meet
          case rel => exact ⟨_, (true), (by rfl), H', ⟨by have := HJ2.out; omega⟩, ⟨by (with_reducible repeat (apply Kd.R_drewN)); exact HO_4.out⟩, ⟨by (with_reducible repeat (refine blk_drewN ?_ _)); exact BK114.out⟩, ⟨by repeat (with_reducible first | exact HB.out | apply pw_below_drewN)⟩⟩
        case rest =>
         clear HC20
         (try clear c13b0); (try clear c13b1); (try clear c15b0); (try clear c15b1); (try clear c17b0); (try clear c17b1); (try clear c18b0); (try clear c18b1); (try clear hx120_0); (try clear hx123_0); (try clear hx126_0); (try clear p120); (try clear p123); (try clear p126); (try clear q120); (try clear q123); (try clear q126)
         obtain ⟨kq, x63_19, rfl, HA, HJ19, HO_4, BK114, HB⟩ := hcut
         cases kq with
         | zero => exact absurd HA.out (by simp [note_Read.j1])
         | succ kj19 =>
          have H := HA.out
          clear HA
          simp only [note_Read.j1] at H
          replace H := iB H; rcases H with ⟨rfl, H⟩ | ⟨rfl, H⟩
          ·simp only [Option.some.injEq, Prod.mk.injEq] at H
           obtain ⟨rfl, rfl, rfl, rfl, rfl, rfl⟩ := H
           obtain ⟨hcz28_0, hcz28_1, hcz28_2, hcz28_3, hcz28_4, hfz28_0, hfz28_1, hfz28_2, hfz28_3, hfz28_4⟩ := cf5 BK114
           go_wp2
           refine bodyPost_ret (results_ct rfl _ _ gb114 24 #[.string (⟨#[]⟩ : ByteArray), .int .i64 0, .int .i64 0, .int .i64 0, .string (⟨#[]⟩ : ByteArray)] (0, 0) _ rfl (by refine blk_put (cs := #[.string (⟨#[]⟩ : ByteArray), .int .i64 0, .int .i64 0, .int .i64 0, .string (⟨#[]⟩ : ByteArray)]) ?_ 4 _ rfl; refine blk_put (cs := #[.string (⟨#[]⟩ : ByteArray), .int .i64 0, .int .i64 0, .int .i64 0, .string (⟨#[]⟩ : ByteArray)]) ?_ 3 _ rfl; refine blk_put (cs := #[.string (⟨#[]⟩ : ByteArray), .int .i64 0, .int .i64 0, .int .i64 0, .string (⟨#[]⟩ : ByteArray)]) ?_ 2 _ rfl; refine blk_put (cs := #[.string (⟨#[]⟩ : ByteArray), .int .i64 0, .int .i64 0, .int .i64 0, .string (⟨#[]⟩ : ByteArray)]) ?_ 1 _ rfl; refine blk_put (cs := #[.string (⟨#[]⟩ : ByteArray), .int .i64 0, .int .i64 0, .int .i64 0, .string (⟨#[]⟩ : ByteArray)]) ?_ 0 _ rfl; exact BK114.out) Tryd.underlying24 rfl (by kernel_rfl)) rfl ?_
           exact ⟨by rfl, by repeat (with_reducible first | exact HB.out | refine below_set ?_ GE114.out)⟩
          ·have H' := Aside0.mk H
           clear H
           go_wp2
           go_loopg [12] kj19 (fun kq v12 w' => ∃ (x12_3 : Int) (x115000_3 : ByteArray) (x115001_3 : Int) (x115002_3 : Int) (x115003_3 : Int) (x115004_3 : ByteArray), v12 = .int .i64 x12_3 ∧ Aside0 (note_Read.l0 kq t115 t121 t124 t127 t128 x12_3 = some (r1, r2, r3, r4, r5, r6)) ∧ Aside0 (kq ≤ kj19) ∧ Aside0 (Kd.R Kd.string 9 w' w.heap.size (fun _ => True) (.slice (some ad120) t115.length co21) t115) ∧ Aside0 (w'.heap[gb114]? = some (.cells #[.string x115000_3, .int .i64 x115001_3, .int .i64 x115002_3, .int .i64 x115003_3, .string x115004_3] 24 (0, 0))) ∧ Aside0 (Below w.heap.size w w'))
           case atStart => exact ⟨(1), (⟨#[]⟩ : ByteArray), (0), (0), (0), (⟨#[]⟩ : ByteArray), (by rfl), H', ⟨Nat.le_refl _⟩, ⟨by exact HO_4.out⟩, ⟨by exact BK114.out⟩, ⟨by repeat (with_reducible exact HB.out)⟩⟩
           case round =>
            clear H'
            obtain ⟨x12_3, x115000_3, x115001_3, x115002_3, x115003_3, x115004_3, rfl, HA, HK3, HO_4, BK114, HB⟩ := hrel
            cases gk with
            | zero => exact absurd HA.out (by simp [note_Read.l0])
            | succ k3 =>
             have H := HA.out
             clear HA
             simp only [note_Read.l0] at H
             replace H := bN H; obtain ⟨t130, A29, H⟩ := H
             replace H := iE H; rcases H with ⟨c30b0, c30b1, H⟩ | ⟨c30, c30b0, c30b1, H⟩
             ·simp only [Option.some.injEq, Prod.mk.injEq] at H
              obtain ⟨rfl, rfl, rfl, rfl, rfl, rfl⟩ := H
              go_wp2_with ((refine callA (some 66) Tryd.func13 #[.int .i64 x12_3] ?_; (with_reducible refine (note_Name.calls x12_3 t130 _ A29.out).mono ?_); rintro e w31 ⟨rfl, hb⟩; refine ⟨_, rfl, ?_⟩; replace HO_4 := Kd.rb1 HO_4 hb; replace BK114 := bk1 BK114 hb; replace HB := hb1 HB hb; (try clear hb); obtain ⟨hcz32_0, hcz32_1, hcz32_2, hcz32_3, hcz32_4, hfz32_0, hfz32_1, hfz32_2, hfz32_3, hfz32_4⟩ := cf5 BK114))
              refine bodyPost_ret (results_ct rfl _ _ gb114 24 #[.string (⟨#[]⟩ : ByteArray), .int .i64 0, .int .i64 0, .int .i64 0, .string (⟨#[]⟩ : ByteArray)] (0, 0) _ rfl (by refine blk_put (cs := #[.string (⟨#[]⟩ : ByteArray), .int .i64 0, .int .i64 0, .int .i64 0, .string x115004_3]) ?_ 4 _ rfl; refine blk_put (cs := #[.string (⟨#[]⟩ : ByteArray), .int .i64 0, .int .i64 0, .int .i64 x115003_3, .string x115004_3]) ?_ 3 _ rfl; refine blk_put (cs := #[.string (⟨#[]⟩ : ByteArray), .int .i64 0, .int .i64 x115002_3, .int .i64 x115003_3, .string x115004_3]) ?_ 2 _ rfl; refine blk_put (cs := #[.string (⟨#[]⟩ : ByteArray), .int .i64 x115001_3, .int .i64 x115002_3, .int .i64 x115003_3, .string x115004_3]) ?_ 1 _ rfl; refine blk_put (cs := #[.string x115000_3, .int .i64 x115001_3, .int .i64 x115002_3, .int .i64 x115003_3, .string x115004_3]) ?_ 0 _ rfl; exact BK114.out) Tryd.underlying24 rfl (by kernel_rfl)) rfl ?_
              exact ⟨by rfl, by repeat (with_reducible first | exact HB.out | refine below_set ?_ GE114.out)⟩
             ·replace H := bN H; obtain ⟨t131, A33, H⟩ := H
              replace H := iE H; rcases H with ⟨c34b0, c34b1, H⟩ | ⟨c34, c34b0, c34b1, H⟩
              ·by_cases c35 : 0 < (t115.length : Int)
               ·rw [if_pos c35] at H
                have c35b0 : decide (0 < (t115.length : Int)) = true := decide_eq_true c35
                have c35b1 : decide (0 < t115.length) = true := decide_eq_true (by omega)
                clear c35
                replace H := bN H; obtain ⟨t134, A36, H⟩ := H
                replace H := iE H; rcases H with ⟨c37b0, c37b1, H⟩ | ⟨c37, c37b0, c37b1, H⟩
                ·simp only [Option.some.injEq, Prod.mk.injEq] at H
                 obtain ⟨rfl, rfl, rfl, rfl, rfl, rfl⟩ := H
                 go_wp2_with (first | (refine callA (some 66) Tryd.func13 #[.int .i64 x12_3] ?_; (with_reducible refine (note_Name.calls x12_3 t130 _ A29.out).mono ?_); rintro e w38 ⟨rfl, hb⟩; refine ⟨_, rfl, ?_⟩; replace HO_4 := Kd.rb1 HO_4 hb; replace BK114 := bk1 BK114 hb; replace HB := hb1 HB hb; (try clear hb)) | (refine callA (some 71) Tryd.func13 #[.int .i64 x12_3] ?_; (with_reducible refine (note_Name.calls x12_3 t131 _ A33.out).mono ?_); rintro e w39 ⟨rfl, hb⟩; refine ⟨_, rfl, ?_⟩; replace HO_4 := Kd.rb1 HO_4 hb; replace BK114 := bk1 BK114 hb; replace HB := hb1 HB hb; (try clear hb); have p132 : 0 ≤ (0 : Int) := (by omega); have q132 : 0 < (t115.length : Int) := of_decide_eq_true (by (with_reducible assumption)); obtain ⟨ad132, e132, hx132_0⟩ := Kd.at_string (Kd.R_reads' HO_4.out).2.2 0 p132 q132; obtain rfl : ad120 = ad132 := (by injection e132); have qi132 : (0 < t115.length) = True := eq_true (by omega); (try rw [show (0 : Int).toNat = 0 from rfl] at hx132_0); (try rw [Addr.add_zero'] at hx132_0); replace p132 := eq_true p132; replace q132 := eq_true q132) | ((with_reducible refine gate_dst (N := 13) rfl ?_); refine box_event ?hg (N := 13) ?hd (cs := #[.string (⟨#[]⟩ : ByteArray), .int .i64 0, .int .i64 0, .int .i64 0, .string (⟨#[]⟩ : ByteArray)]) (t := 24) ?hr ?_; (case hd => rfl); (case hg => rfl); (case hr => (go_simp; done)); intro gb133 hg w40 hbox hb; replace HO_4 := Kd.rb1 HO_4 hb; have BK133 := Aside0.mk (hbox); have GW133 := ge1 HB hg; have GE133 := ge1 HB hg; replace HB := hb1 HB hb; have NB114_133 := nbA BK114 hg; have NB133_114 := nbB BK114 hg; replace BK114 := bk1 BK114 hb; clear hb hbox hg; have hnb41 := NB133_114.out; have hnc41 := NB114_133.out; obtain ⟨hcz42_0, hcz42_1, hcz42_2, hcz42_3, hcz42_4, hfz42_0, hfz42_1, hfz42_2, hfz42_3, hfz42_4⟩ := cf5 BK133) | (refine callA (some 83) Tryd.func15 #[.agg #[.string (rdOf ByteArray.empty t115 0), .int .i64 t121, .int .i64 t124, .int .i64 x12_3, .string t128]] ?_; (with_reducible refine (note_Check.calls k3 (rdOf ByteArray.empty t115 0) t121 t124 x12_3 t128 t134 _ A36.out).mono ?_); rintro e w43 ⟨rfl, hb⟩; refine ⟨_, rfl, ?_⟩; replace HO_4 := Aside0.mk (Kd.R_below (by exact (Kd.R_mono (Kd.R_far (p := ⟨gb133, 4, none⟩) (Kd.R_far (p := ⟨gb133, 3, none⟩) (Kd.R_far (p := ⟨gb133, 2, none⟩) (Kd.R_far (p := ⟨gb133, 1, none⟩) (Kd.R_far (p := ⟨gb133, 0, none⟩) (Kd.R_types HO_4.out BK133.out (by decide)) (fun _ hk => hk.2) (.string (rdOf ByteArray.empty t115 0))) (fun _ hk => hk.2) (.int .i64 t121)) (fun _ hk => hk.2) (.int .i64 t124)) (fun _ hk => hk.2) (.int .i64 x12_3)) (fun _ hk => hk.2) (.string t128)) (fun _ h_ => h_.1))) hb); replace BK114 := Aside0.mk (blk_below (g := gb114) (o := .cells #[.string x115000_3, .int .i64 x115001_3, .int .i64 x115002_3, .int .i64 x115003_3, .string x115004_3] 24 (0, 0)) (by refine blk_far ?_ NB114_133.out _; refine blk_far ?_ NB114_133.out _; refine blk_far ?_ NB114_133.out _; refine blk_far ?_ NB114_133.out _; refine blk_far ?_ NB114_133.out _; exact BK114.out) hb); replace BK133 := Aside0.mk (blk_below (g := gb133) (o := .cells #[.string (rdOf ByteArray.empty t115 0), .int .i64 t121, .int .i64 t124, .int .i64 x12_3, .string t128] 24 (0, 0)) (by refine blk_put (cs := #[.string (rdOf ByteArray.empty t115 0), .int .i64 t121, .int .i64 t124, .int .i64 x12_3, .string (⟨#[]⟩ : ByteArray)]) ?_ 4 _ rfl; refine blk_put (cs := #[.string (rdOf ByteArray.empty t115 0), .int .i64 t121, .int .i64 t124, .int .i64 0, .string (⟨#[]⟩ : ByteArray)]) ?_ 3 _ rfl; refine blk_put (cs := #[.string (rdOf ByteArray.empty t115 0), .int .i64 t121, .int .i64 0, .int .i64 0, .string (⟨#[]⟩ : ByteArray)]) ?_ 2 _ rfl; refine blk_put (cs := #[.string (rdOf ByteArray.empty t115 0), .int .i64 0, .int .i64 0, .int .i64 0, .string (⟨#[]⟩ : ByteArray)]) ?_ 1 _ rfl; refine blk_put (cs := #[.string (⟨#[]⟩ : ByteArray), .int .i64 0, .int .i64 0, .int .i64 0, .string (⟨#[]⟩ : ByteArray)]) ?_ 0 _ rfl; exact BK133.out) hb); replace HB := hb1 HB hb; (try clear hb); obtain ⟨hcz44_0, hcz44_1, hcz44_2, hcz44_3, hcz44_4, hfz44_0, hfz44_1, hfz44_2, hfz44_3, hfz44_4⟩ := cf5 BK133; obtain ⟨hcz45_0, hcz45_1, hcz45_2, hcz45_3, hcz45_4, hfz45_0, hfz45_1, hfz45_2, hfz45_3, hfz45_4⟩ := cf5 BK114))
                 refine bodyPost_ret (results_ct rfl _ _ gb114 24 #[.string (rdOf ByteArray.empty t115 0), .int .i64 t121, .int .i64 t124, .int .i64 x12_3, .string t128] (0, 0) _ rfl (by refine blk_put (cs := #[.string (rdOf ByteArray.empty t115 0), .int .i64 t121, .int .i64 t124, .int .i64 x12_3, .string x115004_3]) ?_ 4 _ rfl; refine blk_put (cs := #[.string (rdOf ByteArray.empty t115 0), .int .i64 t121, .int .i64 t124, .int .i64 x115003_3, .string x115004_3]) ?_ 3 _ rfl; refine blk_put (cs := #[.string (rdOf ByteArray.empty t115 0), .int .i64 t121, .int .i64 x115002_3, .int .i64 x115003_3, .string x115004_3]) ?_ 2 _ rfl; refine blk_put (cs := #[.string (rdOf ByteArray.empty t115 0), .int .i64 x115001_3, .int .i64 x115002_3, .int .i64 x115003_3, .string x115004_3]) ?_ 1 _ rfl; refine blk_put (cs := #[.string x115000_3, .int .i64 x115001_3, .int .i64 x115002_3, .int .i64 x115003_3, .string x115004_3]) ?_ 0 _ rfl; exact BK114.out) Tryd.underlying24 rfl (by kernel_rfl)) rfl ?_
                 exact ⟨by rfl, by repeat (with_reducible first | exact HB.out | refine below_set ?_ GE114.out)⟩
                ·simp only [Option.some.injEq, Prod.mk.injEq] at H
                 obtain ⟨rfl, rfl, rfl, rfl, rfl, rfl⟩ := H
                 go_wp2_with (first | (refine callA (some 66) Tryd.func13 #[.int .i64 x12_3] ?_; (with_reducible refine (note_Name.calls x12_3 t130 _ A29.out).mono ?_); rintro e w46 ⟨rfl, hb⟩; refine ⟨_, rfl, ?_⟩; replace HO_4 := Kd.rb1 HO_4 hb; replace BK114 := bk1 BK114 hb; replace HB := hb1 HB hb; (try clear hb)) | (refine callA (some 71) Tryd.func13 #[.int .i64 x12_3] ?_; (with_reducible refine (note_Name.calls x12_3 t131 _ A33.out).mono ?_); rintro e w47 ⟨rfl, hb⟩; refine ⟨_, rfl, ?_⟩; replace HO_4 := Kd.rb1 HO_4 hb; replace BK114 := bk1 BK114 hb; replace HB := hb1 HB hb; (try clear hb); have p132 : 0 ≤ (0 : Int) := (by omega); have q132 : 0 < (t115.length : Int) := of_decide_eq_true (by (with_reducible assumption)); obtain ⟨ad132, e132, hx132_0⟩ := Kd.at_string (Kd.R_reads' HO_4.out).2.2 0 p132 q132; obtain rfl : ad120 = ad132 := (by injection e132); have qi132 : (0 < t115.length) = True := eq_true (by omega); (try rw [show (0 : Int).toNat = 0 from rfl] at hx132_0); (try rw [Addr.add_zero'] at hx132_0); replace p132 := eq_true p132; replace q132 := eq_true q132) | ((with_reducible refine gate_dst (N := 13) rfl ?_); refine box_event ?hg (N := 13) ?hd (cs := #[.string (⟨#[]⟩ : ByteArray), .int .i64 0, .int .i64 0, .int .i64 0, .string (⟨#[]⟩ : ByteArray)]) (t := 24) ?hr ?_; (case hd => rfl); (case hg => rfl); (case hr => (go_simp; done)); intro gb133 hg w48 hbox hb; replace HO_4 := Kd.rb1 HO_4 hb; have BK133 := Aside0.mk (hbox); have GW133 := ge1 HB hg; have GE133 := ge1 HB hg; replace HB := hb1 HB hb; have NB114_133 := nbA BK114 hg; have NB133_114 := nbB BK114 hg; replace BK114 := bk1 BK114 hb; clear hb hbox hg; have hnb49 := NB133_114.out; have hnc49 := NB114_133.out; obtain ⟨hcz50_0, hcz50_1, hcz50_2, hcz50_3, hcz50_4, hfz50_0, hfz50_1, hfz50_2, hfz50_3, hfz50_4⟩ := cf5 BK133) | (refine callA (some 83) Tryd.func15 #[.agg #[.string (rdOf ByteArray.empty t115 0), .int .i64 t121, .int .i64 t124, .int .i64 x12_3, .string t128]] ?_; (with_reducible refine (note_Check.calls k3 (rdOf ByteArray.empty t115 0) t121 t124 x12_3 t128 t134 _ A36.out).mono ?_); rintro e w51 ⟨rfl, hb⟩; refine ⟨_, rfl, ?_⟩; replace HO_4 := Aside0.mk (Kd.R_below (by exact (Kd.R_mono (Kd.R_far (p := ⟨gb133, 4, none⟩) (Kd.R_far (p := ⟨gb133, 3, none⟩) (Kd.R_far (p := ⟨gb133, 2, none⟩) (Kd.R_far (p := ⟨gb133, 1, none⟩) (Kd.R_far (p := ⟨gb133, 0, none⟩) (Kd.R_types HO_4.out BK133.out (by decide)) (fun _ hk => hk.2) (.string (rdOf ByteArray.empty t115 0))) (fun _ hk => hk.2) (.int .i64 t121)) (fun _ hk => hk.2) (.int .i64 t124)) (fun _ hk => hk.2) (.int .i64 x12_3)) (fun _ hk => hk.2) (.string t128)) (fun _ h_ => h_.1))) hb); replace BK114 := Aside0.mk (blk_below (g := gb114) (o := .cells #[.string x115000_3, .int .i64 x115001_3, .int .i64 x115002_3, .int .i64 x115003_3, .string x115004_3] 24 (0, 0)) (by refine blk_far ?_ NB114_133.out _; refine blk_far ?_ NB114_133.out _; refine blk_far ?_ NB114_133.out _; refine blk_far ?_ NB114_133.out _; refine blk_far ?_ NB114_133.out _; exact BK114.out) hb); replace BK133 := Aside0.mk (blk_below (g := gb133) (o := .cells #[.string (rdOf ByteArray.empty t115 0), .int .i64 t121, .int .i64 t124, .int .i64 x12_3, .string t128] 24 (0, 0)) (by refine blk_put (cs := #[.string (rdOf ByteArray.empty t115 0), .int .i64 t121, .int .i64 t124, .int .i64 x12_3, .string (⟨#[]⟩ : ByteArray)]) ?_ 4 _ rfl; refine blk_put (cs := #[.string (rdOf ByteArray.empty t115 0), .int .i64 t121, .int .i64 t124, .int .i64 0, .string (⟨#[]⟩ : ByteArray)]) ?_ 3 _ rfl; refine blk_put (cs := #[.string (rdOf ByteArray.empty t115 0), .int .i64 t121, .int .i64 0, .int .i64 0, .string (⟨#[]⟩ : ByteArray)]) ?_ 2 _ rfl; refine blk_put (cs := #[.string (rdOf ByteArray.empty t115 0), .int .i64 0, .int .i64 0, .int .i64 0, .string (⟨#[]⟩ : ByteArray)]) ?_ 1 _ rfl; refine blk_put (cs := #[.string (⟨#[]⟩ : ByteArray), .int .i64 0, .int .i64 0, .int .i64 0, .string (⟨#[]⟩ : ByteArray)]) ?_ 0 _ rfl; exact BK133.out) hb); replace HB := hb1 HB hb; (try clear hb); obtain ⟨hcz52_0, hcz52_1, hcz52_2, hcz52_3, hcz52_4, hfz52_0, hfz52_1, hfz52_2, hfz52_3, hfz52_4⟩ := cf5 BK114))
                 refine bodyPost_ret (results_ct rfl _ _ gb114 24 #[.string (⟨#[]⟩ : ByteArray), .int .i64 0, .int .i64 0, .int .i64 0, .string (⟨#[]⟩ : ByteArray)] (0, 0) _ rfl (by refine blk_put (cs := #[.string (⟨#[]⟩ : ByteArray), .int .i64 0, .int .i64 0, .int .i64 0, .string x115004_3]) ?_ 4 _ rfl; refine blk_put (cs := #[.string (⟨#[]⟩ : ByteArray), .int .i64 0, .int .i64 0, .int .i64 x115003_3, .string x115004_3]) ?_ 3 _ rfl; refine blk_put (cs := #[.string (⟨#[]⟩ : ByteArray), .int .i64 0, .int .i64 x115002_3, .int .i64 x115003_3, .string x115004_3]) ?_ 2 _ rfl; refine blk_put (cs := #[.string (⟨#[]⟩ : ByteArray), .int .i64 x115001_3, .int .i64 x115002_3, .int .i64 x115003_3, .string x115004_3]) ?_ 1 _ rfl; refine blk_put (cs := #[.string x115000_3, .int .i64 x115001_3, .int .i64 x115002_3, .int .i64 x115003_3, .string x115004_3]) ?_ 0 _ rfl; exact BK114.out) Tryd.underlying24 rfl (by kernel_rfl)) rfl ?_
                 exact ⟨by rfl, by repeat (with_reducible first | exact HB.out | refine below_set ?_ GE114.out)⟩
               ·rw [if_neg c35] at H
                exact absurd H (by simp)
              ·have H' := Aside0.mk H
               clear H
               go_wp2_with (first | (refine callA (some 66) Tryd.func13 #[.int .i64 x12_3] ?_; (with_reducible refine (note_Name.calls x12_3 t130 _ A29.out).mono ?_); rintro e w53 ⟨rfl, hb⟩; refine ⟨_, rfl, ?_⟩; replace HO_4 := Kd.rb1 HO_4 hb; replace BK114 := bk1 BK114 hb; replace HB := hb1 HB hb; (try clear hb)) | (refine callA (some 71) Tryd.func13 #[.int .i64 x12_3] ?_; (with_reducible refine (note_Name.calls x12_3 t131 _ A33.out).mono ?_); rintro e w54 ⟨rfl, hb⟩; refine ⟨_, rfl, ?_⟩; replace HO_4 := Kd.rb1 HO_4 hb; replace BK114 := bk1 BK114 hb; replace HB := hb1 HB hb; (try clear hb)))
               go_roundg k3
               case measure => have := HJ2.out; have := HJ19.out; have := HK3.out; omega
               case rel => exact ⟨(wrap64 (x12_3 + 1)), (x115000_3), (x115001_3), (x115002_3), (x115003_3), (x115004_3), (by rfl), H', ⟨by have := HJ2.out; have := HJ19.out; have := HK3.out; omega⟩, ⟨by exact HO_4.out⟩, ⟨by exact BK114.out⟩, ⟨by repeat (with_reducible exact HB.out)⟩⟩
       ·rw [if_neg c18] at H
        exact absurd H (by simp)
      ·rw [if_neg c17] at H
       exact absurd H (by simp)
     ·rw [if_neg c15] at H
      exact absurd H (by simp)
    ·rw [if_neg c13] at H
     exact absurd H (by simp)
end Go.Proofs.YtlamgdibnnmbmaaDoor.PRead
end
section
namespace Go.Proofs.YtlamgdibnnmbmaaDoor.PRead
open Go.RowKit Go.Proofs.YtlamgdibnnmbmaaDoorW.PrintWords Go.Proofs.YtlamgdibnnmbmaaDoorW.PrintLast Go.Proofs.YtlamgdibnnmbmaaDoorW.PrintMore
attribute [local go_sem] max2_int min2_int max_two min_two max_three min_three max_four min_four
set_option linter.unusedVariables false
set_option linter.unusedSimpArgs false
mutual
def maskref1_within.l0 : Nat → ByteArray → Int → Int → ByteArray → Int → Int → Option (Bool)
 | 0, _, _, _, _, _, _ => none
 | k + 1, x0, x1, x2, x3, x12, x13 => if x13 < x12 then (if 0 ≤ x13 then (if x13 < (x0.size : Int) then (if (bt x0 x13) < x1 then (maskref1_within.j1 k x0 x1 x2 x3 x13 x12 x13 true) else (maskref1_within.j1 k x0 x1 x2 x3 x13 x12 x13 (decide ((bt x0 x13) > x2)))) else (none)) else (none)) else (some true)
def maskref1_within.j1 : Nat → ByteArray → Int → Int → ByteArray → Int → Int → Int → Bool → Option (Bool)
 | 0, _, _, _, _, _, _, _, _ => none
 | k + 1, x0, x1, x2, x3, x9, x12, x13, x27 => if x27 = true then (some false) else (maskref1_within.l1 k x0 x1 x2 x3 x9 x12 x13 (x3.size : Int) 0)
def maskref1_within.l1 : Nat → ByteArray → Int → Int → ByteArray → Int → Int → Int → Int → Int → Option (Bool)
 | 0, _, _, _, _, _, _, _, _, _ => none
 | k + 1, x0, x1, x2, x3, x9, x12, x13, x29, x30 => if x30 < x29 then (if 0 ≤ x9 then (if x9 < (x0.size : Int) then (if 0 ≤ x30 then (if x30 < (x3.size : Int) then (if (bt x0 x9) = (bt x3 x30) then (some false) else (maskref1_within.l1 k x0 x1 x2 x3 x9 x12 x13 x29 (wrap64 (x30 + 1)))) else (none)) else (none)) else (none)) else (none)) else (maskref1_within.l0 k x0 x1 x2 x3 x12 (wrap64 (x13 + 1)))
end
def maskref1_within.f (k : Nat) (a0 : ByteArray) (a1 : Int) (a2 : Int) (a3 : ByteArray) : Option (Bool) := maskref1_within.l0 k a0 a1 a2 a3 (a0.size : Int) 0
set_option maxHeartbeats 8000000 in
set_option maxRecDepth 100000 in
theorem maskref1_within.calls (k : Nat) (a0 : ByteArray) (a1 : Int) (a2 : Int) (a3 : ByteArray) (r : Bool) (w : World) (h : maskref1_within.f k a0 a1 a2 a3 = some r) :
  Calls Tryd.prog 38 #[.string a0, .int .u8 a1, .int .u8 a2, .string a3] w fun e w' => e = .returned (.bool r) ∧ Drawn0 w w' := by
 have H := h
 clear h
 unfold maskref1_within.f at H
 have H' := Aside0.mk H
 clear H
 go_enter Tryd.func38, Tryd.ntmps38
 go_wp2
 go_loopg [13] k (fun kq v13 w' => ∃ (x13_1 : Int), v13 = .int .i64 x13_1 ∧ Aside0 (maskref1_within.l0 kq a0 a1 a2 a3 (a0.size : Int) x13_1 = some r) ∧ Aside0 (kq ≤ k) ∧ Drawn0 w w')
 case atStart => exact ⟨(0), (by rfl), H', ⟨Nat.le_refl _⟩, by repeat (exact Drawn0.refl _)⟩
 case round =>
  clear H'
  obtain ⟨x13_1, rfl, HA, HK1, ⟨m1, rfl⟩⟩ := hrel
  cases gk with
  | zero => exact absurd HA.out (by simp [maskref1_within.l0])
  | succ k1 =>
   have H := HA.out
   clear HA
   simp only [maskref1_within.l0] at H
   replace H := iD H; rcases H with ⟨c5b0, H⟩ | ⟨c5b0, H⟩
   ·have HC6 := Aside0.mk H
    clear H
    go_upto_region 4 with (fail)
    go_cut [27] (fun v27 wc => ∃ (kq : Nat) (x27_5 : Bool), v27 = .bool x27_5 ∧ Aside0 (maskref1_within.j1 kq a0 a1 a2 a3 x13_1 (a0.size : Int) x13_1 x27_5 = some r) ∧ Aside0 (kq ≤ k1) ∧ Drawn0 w wc)
    case first =>
     have H := HC6.out
     clear HC6
     replace H := iN H; obtain ⟨c7b0, H⟩ := H
     (skip)
     replace H := iN H; obtain ⟨c8b0, H⟩ := H
     replace H := iD H; rcases H with ⟨c10b0, H⟩ | ⟨c10b0, H⟩
     ·have H' := Aside0.mk H
      clear H
      have p9 : 0 ≤ (x13_1 : Int) := of_decide_eq_true (by (with_reducible assumption))
      have q9 : x13_1 < (a0.size : Int) := of_decide_eq_true (by (with_reducible assumption))
      have hx9 := bt_at a0 x13_1
      replace p9 := eq_true p9
      replace q9 := eq_true q9
      go_wp2
      go_meet
      case rel => exact ⟨_, (true), (by rfl), H', ⟨by have := HK1.out; omega⟩, by repeat (first | exact Drawn0.refl _ | apply Drawn0.step)⟩
     ·have H' := Aside0.mk H
      clear H
      have p9 : 0 ≤ (x13_1 : Int) := of_decide_eq_true (by (with_reducible assumption))
      have q9 : x13_1 < (a0.size : Int) := of_decide_eq_true (by (with_reducible assumption))
      have hx9 := bt_at a0 x13_1
      replace p9 := eq_true p9
      replace q9 := eq_true q9
      have p11 : 0 ≤ (x13_1 : Int) := of_decide_eq_true (by (with_reducible assumption))
      have q11 : x13_1 < (a0.size : Int) := of_decide_eq_true (by (with_reducible assumption))
      have hx11 := bt_at a0 x13_1
      replace p11 := eq_true p11
      replace q11 := eq_true q11
      go_wp2
      go_meet
      case rel => exact ⟨_, (decide ((bt a0 x13_1) > a2)), (by rfl), H', ⟨by have := HK1.out; omega⟩, by repeat (first | exact Drawn0.refl _ | apply Drawn0.step)⟩
    case rest =>
     clear HC6
     (try clear c5b0)
     obtain ⟨kq, x27_5, rfl, HA, HJ5, ⟨mc5, rfl⟩⟩ := hcut
     cases kq with
     | zero => exact absurd HA.out (by simp [maskref1_within.j1])
     | succ kj5 =>
      have H := HA.out
      clear HA
      simp only [maskref1_within.j1] at H
      replace H := iB H; rcases H with ⟨rfl, H⟩ | ⟨rfl, H⟩
      ·obtain rfl := Option.some.inj H
       go_wp2
       go_ret
       exact ⟨by rfl, by repeat (first | exact Drawn0.refl _ | apply Drawn0.step)⟩
      ·have H' := Aside0.mk H
       clear H
       go_wp2
       go_loopg [30] kj5 (fun kq v30 w' => ∃ (x30_3 : Int), v30 = .int .i64 x30_3 ∧ Aside0 (maskref1_within.l1 kq a0 a1 a2 a3 x13_1 (a0.size : Int) x13_1 (a3.size : Int) x30_3 = some r) ∧ Aside0 (kq ≤ kj5) ∧ Drawn0 w w')
       case atStart => exact ⟨(0), (by rfl), H', ⟨Nat.le_refl _⟩, by repeat (first | exact Drawn0.refl _ | apply Drawn0.step)⟩
       case round =>
        clear H'
        obtain ⟨x30_3, rfl, HA, HK3, ⟨m3, rfl⟩⟩ := hrel
        cases gk with
        | zero => exact absurd HA.out (by simp [maskref1_within.l1])
        | succ k3 =>
         have H := HA.out
         clear HA
         simp only [maskref1_within.l1] at H
         replace H := iD H; rcases H with ⟨c13b0, H⟩ | ⟨c13b0, H⟩
         ·replace H := iN H; obtain ⟨c14b0, H⟩ := H
          replace H := iN H; obtain ⟨c15b0, H⟩ := H
          replace H := iN H; obtain ⟨c17b0, H⟩ := H
          replace H := iN H; obtain ⟨c18b0, H⟩ := H
          replace H := iE H; rcases H with ⟨c20b0, c20b1, H⟩ | ⟨c20, c20b0, c20b1, H⟩
          ·obtain rfl := Option.some.inj H
           have p16 : 0 ≤ (x13_1 : Int) := of_decide_eq_true (by (with_reducible assumption))
           have q16 : x13_1 < (a0.size : Int) := of_decide_eq_true (by (with_reducible assumption))
           have hx16 := bt_at a0 x13_1
           replace p16 := eq_true p16
           replace q16 := eq_true q16
           have p19 : 0 ≤ (x30_3 : Int) := of_decide_eq_true (by (with_reducible assumption))
           have q19 : x30_3 < (a3.size : Int) := of_decide_eq_true (by (with_reducible assumption))
           have hx19 := bt_at a3 x30_3
           replace p19 := eq_true p19
           replace q19 := eq_true q19
           go_wp2
           repeat (go_quiet (fail); try go_wp2)
           go_ret
           exact ⟨by rfl, by repeat (first | exact Drawn0.refl _ | apply Drawn0.step)⟩
          ·have H' := Aside0.mk H
           clear H
           have p16 : 0 ≤ (x13_1 : Int) := of_decide_eq_true (by (with_reducible assumption))
           have q16 : x13_1 < (a0.size : Int) := of_decide_eq_true (by (with_reducible assumption))
           have hx16 := bt_at a0 x13_1
           replace p16 := eq_true p16
           replace q16 := eq_true q16
           have p19 : 0 ≤ (x30_3 : Int) := of_decide_eq_true (by (with_reducible assumption))
           have q19 : x30_3 < (a3.size : Int) := of_decide_eq_true (by (with_reducible assumption))
           have hx19 := bt_at a3 x30_3
           replace p19 := eq_true p19
           replace q19 := eq_true q19
           go_wp2
           repeat (go_quiet (fail); try go_wp2)
           go_roundg k3
           case measure => have := HK1.out; have := HJ5.out; have := HK3.out; omega
           case rel => exact ⟨(wrap64 (x30_3 + 1)), (by rfl), H', ⟨by have := HK1.out; have := HJ5.out; have := HK3.out; omega⟩, by repeat (first | exact Drawn0.refl _ | apply Drawn0.step)⟩
         ·have H' := Aside0.mk H
          clear H
          go_wp2
          go_roundg k3
          case measure => have := HK1.out; have := HJ5.out; have := HK3.out; omega
          case rel => exact ⟨(wrap64 (x13_1 + 1)), (by rfl), H', ⟨by have := HK1.out; have := HJ5.out; have := HK3.out; omega⟩, by repeat (first | exact Drawn0.refl _ | apply Drawn0.step)⟩
   ·obtain rfl := Option.some.inj H
    go_wp2
    go_ret
    exact ⟨by rfl, by repeat (first | exact Drawn0.refl _ | apply Drawn0.step)⟩
end Go.Proofs.YtlamgdibnnmbmaaDoor.PRead
end
section
namespace Go.Proofs.YtlamgdibnnmbmaaDoor.PRead
open Go.RowKit Go.Proofs.YtlamgdibnnmbmaaDoorW.PrintWords Go.Proofs.YtlamgdibnnmbmaaDoorW.PrintLast Go.Proofs.YtlamgdibnnmbmaaDoorW.PrintMore
attribute [local go_sem] max2_int min2_int max_two min_two max_three min_three max_four min_four
set_option linter.unusedVariables false
set_option linter.unusedSimpArgs false
def maskref1_FileName.f (k : Nat) (a0 : ByteArray) : Option (Bool) := if (a0.size : Int) ≥ 1 then (if (a0.size : Int) ≤ 60 then ((maskref1_within.f k a0 33 126 (⟨#[58, 34]⟩ : ByteArray)).bind fun t135 => (some t135)) else (some false)) else (some false)
set_option maxHeartbeats 8000000 in
set_option maxRecDepth 100000 in
theorem maskref1_FileName.calls (k : Nat) (a0 : ByteArray) (r : Bool) (w : World) (h : maskref1_FileName.f k a0 = some r) :
  Calls Tryd.prog 12 #[.string a0] w fun e w' => e = .returned (.bool r) ∧ Drawn0 w w' := by
 have H := h
 clear h
 unfold maskref1_FileName.f at H
 by_cases c2 : (a0.size : Int) ≥ 1
 ·rw [if_pos c2] at H
  have c2b0 : decide (1 ≤ (a0.size : Int)) = true := decide_eq_true c2
  have c2b1 : decide (1 ≤ a0.size) = true := decide_eq_true (by omega)
  clear c2
  by_cases c3 : (a0.size : Int) ≤ 60
  ·rw [if_pos c3] at H
   have c3b0 : decide ((a0.size : Int) ≤ 60) = true := decide_eq_true c3
   have c3b1 : decide (a0.size ≤ 60) = true := decide_eq_true (by omega)
   clear c3
   replace H := bN H; obtain ⟨t135, A4, H⟩ := H
   obtain rfl := Option.some.inj H
   go_enter Tryd.func12, Tryd.ntmps12
   go_wp2_with ((go_at_call 38; (with_reducible refine (maskref1_within.calls k a0 33 126 (⟨#[58, 34]⟩ : ByteArray) t135 _ A4.out).mono ?_); rintro e w' ⟨rfl, ⟨nd, rfl⟩⟩))
   go_ret
   exact ⟨by rfl, by repeat (first | exact Drawn0.refl _ | apply Drawn0.step)⟩
  ·rw [if_neg c3] at H
   have c3b0 : decide ((a0.size : Int) ≤ 60) = false := decide_eq_false c3
   have c3b1 : decide (a0.size ≤ 60) = false := decide_eq_false (by omega)
   clear c3
   obtain rfl := Option.some.inj H
   go_enter Tryd.func12, Tryd.ntmps12
   go_wp2
   go_ret
   exact ⟨by rfl, by repeat (exact Drawn0.refl _)⟩
 ·rw [if_neg c2] at H
  have c2b0 : decide (1 ≤ (a0.size : Int)) = false := decide_eq_false c2
  have c2b1 : decide (1 ≤ a0.size) = false := decide_eq_false (by omega)
  clear c2
  obtain rfl := Option.some.inj H
  go_enter Tryd.func12, Tryd.ntmps12
  go_wp2
  go_ret
  exact ⟨by rfl, by repeat (exact Drawn0.refl _)⟩
end Go.Proofs.YtlamgdibnnmbmaaDoor.PRead
end
section
namespace Go.Proofs.YtlamgdibnnmbmaaDoor.PRead
open Go.RowKit Go.Proofs.YtlamgdibnnmbmaaDoorW.PrintWords Go.Proofs.YtlamgdibnnmbmaaDoorW.PrintLast Go.Proofs.YtlamgdibnnmbmaaDoorW.PrintMore
attribute [local go_sem] max2_int min2_int max_two min_two max_three min_three max_four min_four
set_option linter.unusedVariables false
set_option linter.unusedSimpArgs false
def maskref1_NoteFault.j0 : Nat → Bool → ByteArray → Int → Int → Int → ByteArray → Option (Int)
 | 0, _, _, _, _, _, _ => none
 | k + 1, x8, x137000, x137001, x137002, x137003, x137004 => if x8 = true then (some 2) else (if (x137004.size : Int) > 200 then (some 4) else ((maskref1_within.f k x137004 32 126 (⟨#[]⟩ : ByteArray)).bind fun t138 => (if t138 = true then (some 0) else (some 4))))
def maskref1_NoteFault.f (k : Nat) (a0_0 : ByteArray) (a0_1 : Int) (a0_2 : Int) (a0_3 : Int) (a0_4 : ByteArray) : Option (Int) := (maskref1_FileName.f k a0_0).bind fun t137 => (if t137 = true then (if a0_1 < 1 then (maskref1_NoteFault.j0 k true a0_0 a0_1 a0_2 a0_3 a0_4) else (if a0_1 > 16000 then (maskref1_NoteFault.j0 k true a0_0 a0_1 a0_2 a0_3 a0_4) else (if a0_2 < 1 then (maskref1_NoteFault.j0 k true a0_0 a0_1 a0_2 a0_3 a0_4) else (if a0_2 > 16001 then (maskref1_NoteFault.j0 k true a0_0 a0_1 a0_2 a0_3 a0_4) else (if a0_3 < 1 then (maskref1_NoteFault.j0 k true a0_0 a0_1 a0_2 a0_3 a0_4) else (maskref1_NoteFault.j0 k (decide (a0_3 > 22)) a0_0 a0_1 a0_2 a0_3 a0_4)))))) else (some 9))
set_option maxHeartbeats 8000000 in
set_option maxRecDepth 100000 in
theorem maskref1_NoteFault.calls (k : Nat) (a0_0 : ByteArray) (a0_1 : Int) (a0_2 : Int) (a0_3 : Int) (a0_4 : ByteArray) (r : Int) (w : World) (h : maskref1_NoteFault.f k a0_0 a0_1 a0_2 a0_3 a0_4 = some r) :
  Calls Tryd.prog 8 #[.agg #[.string a0_0, .int .i64 a0_1, .int .i64 a0_2, .int .i64 a0_3, .string a0_4]] w fun e w' => e = .returned (.int .i64 r) ∧ Below w.heap.size w w' := by
 have hu24 := Tryd.underlying24
 have HB := Aside0.mk (Below.refl w.heap.size w)
 have H := h
 clear h
 unfold maskref1_NoteFault.f at H
 replace H := bN H; obtain ⟨t137, A2, H⟩ := H
 replace H := iB H; rcases H with ⟨rfl, H⟩ | ⟨rfl, H⟩
 ·have HC4 := Aside0.mk H
  clear H
  go_enter Tryd.func8, Tryd.ntmps8
  go_upto_region 3 with (first | (refine boxA HB 1 #[.string a0_0, .int .i64 a0_1, .int .i64 a0_2, .int .i64 a0_3, .string a0_4] 24 ?_; clear HB; intro gb136 w5 BK136 GE136 hg hb HB; clear hb hg; obtain ⟨hcz6_0, hcz6_1, hcz6_2, hcz6_3, hcz6_4, hfz6_0, hfz6_1, hfz6_2, hfz6_3, hfz6_4⟩ := cf5 BK136) | (refine callA (some 6) Tryd.func12 #[.string a0_0] ?_; (with_reducible refine (maskref1_FileName.calls k a0_0 true _ A2.out).mono ?_); rintro e w' ⟨rfl, ⟨nd, rfl⟩⟩; refine ⟨_, rfl, ?_⟩))
  go_cut [8] (fun v8 wc => ∃ (kq : Nat) (x8_3 : Bool), v8 = .bool x8_3 ∧ Aside0 (maskref1_NoteFault.j0 kq x8_3 a0_0 a0_1 a0_2 a0_3 a0_4 = some r) ∧ Aside0 (kq ≤ k) ∧ Aside0 (wc.heap[gb136]? = some (.cells #[.string a0_0, .int .i64 a0_1, .int .i64 a0_2, .int .i64 a0_3, .string a0_4] 24 (0, 0))) ∧ Aside0 (Below w.heap.size w wc))
  case first =>
   have H := HC4.out
   clear HC4
   replace H := iD H; rcases H with ⟨c7b0, H⟩ | ⟨c7b0, H⟩
   ·(skip)
    have H' := Aside0.mk H
    clear H
    obtain ⟨hcz8_0, hcz8_1, hcz8_2, hcz8_3, hcz8_4, hfz8_0, hfz8_1, hfz8_2, hfz8_3, hfz8_4⟩ := cf5 BK136
    go_wp2
    go_meet
    case rel => exact ⟨_, (true), (by rfl), H', ⟨by omega⟩, ⟨by (with_reducible repeat (refine blk_drewN ?_ _)); exact BK136.out⟩, ⟨by repeat (with_reducible first | exact HB.out | apply pw_below_drewN)⟩⟩
   ·(skip)
    replace H := iD H; rcases H with ⟨c9b0, H⟩ | ⟨c9b0, H⟩
    ·replace c9b0 : decide (16000 < a0_1) = true := c9b0
     have H' := Aside0.mk H
     clear H
     obtain ⟨hcz10_0, hcz10_1, hcz10_2, hcz10_3, hcz10_4, hfz10_0, hfz10_1, hfz10_2, hfz10_3, hfz10_4⟩ := cf5 BK136
     go_wp2
     go_meet
     case rel => exact ⟨_, (true), (by rfl), H', ⟨by omega⟩, ⟨by (with_reducible repeat (refine blk_drewN ?_ _)); exact BK136.out⟩, ⟨by repeat (with_reducible first | exact HB.out | apply pw_below_drewN)⟩⟩
    ·replace c9b0 : decide (16000 < a0_1) = false := c9b0
     replace H := iD H; rcases H with ⟨c11b0, H⟩ | ⟨c11b0, H⟩
     ·have H' := Aside0.mk H
      clear H
      obtain ⟨hcz12_0, hcz12_1, hcz12_2, hcz12_3, hcz12_4, hfz12_0, hfz12_1, hfz12_2, hfz12_3, hfz12_4⟩ := cf5 BK136
      go_wp2
      go_meet
      case rel => exact ⟨_, (true), (by rfl), H', ⟨by omega⟩, ⟨by (with_reducible repeat (refine blk_drewN ?_ _)); exact BK136.out⟩, ⟨by repeat (with_reducible first | exact HB.out | apply pw_below_drewN)⟩⟩
     ·replace H := iD H; rcases H with ⟨c13b0, H⟩ | ⟨c13b0, H⟩
      ·replace c13b0 : decide (16001 < a0_2) = true := c13b0
       have H' := Aside0.mk H
       clear H
       obtain ⟨hcz14_0, hcz14_1, hcz14_2, hcz14_3, hcz14_4, hfz14_0, hfz14_1, hfz14_2, hfz14_3, hfz14_4⟩ := cf5 BK136
       go_wp2
       go_meet
       case rel => exact ⟨_, (true), (by rfl), H', ⟨by omega⟩, ⟨by (with_reducible repeat (refine blk_drewN ?_ _)); exact BK136.out⟩, ⟨by repeat (with_reducible first | exact HB.out | apply pw_below_drewN)⟩⟩
      ·replace c13b0 : decide (16001 < a0_2) = false := c13b0
       replace H := iD H; rcases H with ⟨c15b0, H⟩ | ⟨c15b0, H⟩
       ·have H' := Aside0.mk H
        clear H
        obtain ⟨hcz16_0, hcz16_1, hcz16_2, hcz16_3, hcz16_4, hfz16_0, hfz16_1, hfz16_2, hfz16_3, hfz16_4⟩ := cf5 BK136
        go_wp2
        go_meet
        case rel => exact ⟨_, (true), (by rfl), H', ⟨by omega⟩, ⟨by (with_reducible repeat (refine blk_drewN ?_ _)); exact BK136.out⟩, ⟨by repeat (with_reducible first | exact HB.out | apply pw_below_drewN)⟩⟩
       ·have H' := Aside0.mk H
        clear H
        obtain ⟨hcz17_0, hcz17_1, hcz17_2, hcz17_3, hcz17_4, hfz17_0, hfz17_1, hfz17_2, hfz17_3, hfz17_4⟩ := cf5 BK136
        go_wp2
        go_meet
        case rel => exact ⟨_, (decide (a0_3 > 22)), (by rfl), H', ⟨by omega⟩, ⟨by (with_reducible repeat (refine blk_drewN ?_ _)); exact BK136.out⟩, ⟨by repeat (with_reducible first | exact HB.out | apply pw_below_drewN)⟩⟩
  case rest =>
   clear HC4
   (try clear hcz6_0 hcz6_1 hcz6_2 hcz6_3 hcz6_4); (try clear hfz6_0 hfz6_1 hfz6_2 hfz6_3 hfz6_4)
   obtain ⟨kq, x8_3, rfl, HA, HJ3, BK136, HB⟩ := hcut
   cases kq with
   | zero => exact absurd HA.out (by simp [maskref1_NoteFault.j0])
   | succ kj3 =>
    have H := HA.out
    clear HA
    simp only [maskref1_NoteFault.j0] at H
    replace H := iB H; rcases H with ⟨rfl, H⟩ | ⟨rfl, H⟩
    ·obtain rfl := Option.some.inj H
     go_wp2
     go_ret
     exact ⟨by rfl, by repeat (with_reducible exact HB.out)⟩
    ·by_cases c19 : (a0_4.size : Int) > 200
     ·rw [if_pos c19] at H
      have c19b0 : decide (200 < (a0_4.size : Int)) = true := decide_eq_true c19
      have c19b1 : decide (200 < a0_4.size) = true := decide_eq_true (by omega)
      clear c19
      obtain rfl := Option.some.inj H
      obtain ⟨hcz20_0, hcz20_1, hcz20_2, hcz20_3, hcz20_4, hfz20_0, hfz20_1, hfz20_2, hfz20_3, hfz20_4⟩ := cf5 BK136
      go_wp2
      go_ret
      exact ⟨by rfl, by repeat (with_reducible exact HB.out)⟩
     ·rw [if_neg c19] at H
      have c19b0 : decide (200 < (a0_4.size : Int)) = false := decide_eq_false c19
      have c19b1 : decide (200 < a0_4.size) = false := decide_eq_false (by omega)
      clear c19
      replace H := bN H; obtain ⟨t138, A21, H⟩ := H
      replace H := iB H; rcases H with ⟨rfl, H⟩ | ⟨rfl, H⟩
      ·obtain rfl := Option.some.inj H
       obtain ⟨hcz23_0, hcz23_1, hcz23_2, hcz23_3, hcz23_4, hfz23_0, hfz23_1, hfz23_2, hfz23_3, hfz23_4⟩ := cf5 BK136
       go_wp2_with ((go_at_call 38; (with_reducible refine (maskref1_within.calls kj3 a0_4 32 126 (⟨#[]⟩ : ByteArray) true _ A21.out).mono ?_); rintro e w' ⟨rfl, ⟨nd, rfl⟩⟩))
       go_ret
       exact ⟨by rfl, by repeat (with_reducible first | exact HB.out | apply pw_below_drewN)⟩
      ·obtain rfl := Option.some.inj H
       obtain ⟨hcz24_0, hcz24_1, hcz24_2, hcz24_3, hcz24_4, hfz24_0, hfz24_1, hfz24_2, hfz24_3, hfz24_4⟩ := cf5 BK136
       go_wp2_with ((go_at_call 38; (with_reducible refine (maskref1_within.calls kj3 a0_4 32 126 (⟨#[]⟩ : ByteArray) false _ A21.out).mono ?_); rintro e w' ⟨rfl, ⟨nd, rfl⟩⟩))
       go_ret
       exact ⟨by rfl, by repeat (with_reducible first | exact HB.out | apply pw_below_drewN)⟩
 ·obtain rfl := Option.some.inj H
  go_enter Tryd.func8, Tryd.ntmps8
  go_wp2_with (first | (refine boxA HB 1 #[.string a0_0, .int .i64 a0_1, .int .i64 a0_2, .int .i64 a0_3, .string a0_4] 24 ?_; clear HB; intro gb136 w25 BK136 GE136 hg hb HB; clear hb hg; obtain ⟨hcz26_0, hcz26_1, hcz26_2, hcz26_3, hcz26_4, hfz26_0, hfz26_1, hfz26_2, hfz26_3, hfz26_4⟩ := cf5 BK136) | (refine callA (some 6) Tryd.func12 #[.string a0_0] ?_; (with_reducible refine (maskref1_FileName.calls k a0_0 false _ A2.out).mono ?_); rintro e w' ⟨rfl, ⟨nd, rfl⟩⟩; refine ⟨_, rfl, ?_⟩))
  go_ret
  exact ⟨by rfl, by repeat (with_reducible first | exact HB.out | apply pw_below_drewN)⟩
end Go.Proofs.YtlamgdibnnmbmaaDoor.PRead
end
section
namespace Go.Proofs.YtlamgdibnnmbmaaDoor.PRead
open Go.RowKit Go.Proofs.YtlamgdibnnmbmaaDoorW.PrintWords Go.Proofs.YtlamgdibnnmbmaaDoorW.PrintLast Go.Proofs.YtlamgdibnnmbmaaDoorW.PrintMore
attribute [local go_sem] max2_int min2_int max_two min_two max_three min_three max_four min_four
set_option linter.unusedVariables false
set_option linter.unusedSimpArgs false
mutual
def maskref1_NoteWord.l0 : Nat → Int → Int → Int → Int → Option (ByteArray)
 | 0, _, _, _, _ => none
 | k + 1, x0, x3, x4, x5 => if x5 ≤ 130 then (if x5 < 130 then (if 0 ≤ x5 then (maskref1_NoteWord.j1 k x0 x3 x4 x5 ((bt (⟨#[32, 97, 114, 103, 117, 109, 101, 110, 116, 32, 114, 97, 110, 103, 101, 32, 108, 97, 114, 103, 101, 32, 102, 111, 114, 109, 32, 111, 114, 100, 101, 114, 32, 116, 119, 105, 99, 101, 32, 117, 110, 107, 110, 111, 119, 110, 32, 116, 121, 112, 101, 32, 110, 97, 109, 101, 32, 115, 121, 110, 116, 97, 120, 32, 115, 104, 111, 114, 116, 32, 115, 117, 109, 32, 115, 116, 97, 116, 101, 32, 102, 117, 108, 108, 32, 99, 108, 97, 115, 104, 32, 108, 111, 115, 116, 32, 108, 111, 111, 112, 32, 111, 112, 101, 110, 32, 99, 111, 110, 115, 116, 97, 110, 116, 32, 119, 105, 100, 116, 104, 32, 116, 105, 109, 101, 32, 114, 117, 108, 101]⟩ : ByteArray) x5) != 32)) else (none)) else (maskref1_NoteWord.j1 k x0 x3 x4 x5 false)) else (some (⟨#[]⟩ : ByteArray))
def maskref1_NoteWord.j1 : Nat → Int → Int → Int → Int → Bool → Option (ByteArray)
 | 0, _, _, _, _, _ => none
 | k + 1, x0, x3, x4, x5, x16 => if x16 = true then (maskref1_NoteWord.l0 k x0 x3 x4 (wrap64 (x5 + 1))) else (if x3 = x0 then (if 0 ≤ x4 then (if x4 ≤ x5 then (if x5 ≤ 130 then (some ((⟨#[32, 97, 114, 103, 117, 109, 101, 110, 116, 32, 114, 97, 110, 103, 101, 32, 108, 97, 114, 103, 101, 32, 102, 111, 114, 109, 32, 111, 114, 100, 101, 114, 32, 116, 119, 105, 99, 101, 32, 117, 110, 107, 110, 111, 119, 110, 32, 116, 121, 112, 101, 32, 110, 97, 109, 101, 32, 115, 121, 110, 116, 97, 120, 32, 115, 104, 111, 114, 116, 32, 115, 117, 109, 32, 115, 116, 97, 116, 101, 32, 102, 117, 108, 108, 32, 99, 108, 97, 115, 104, 32, 108, 111, 115, 116, 32, 108, 111, 111, 112, 32, 111, 112, 101, 110, 32, 99, 111, 110, 115, 116, 97, 110, 116, 32, 119, 105, 100, 116, 104, 32, 116, 105, 109, 101, 32, 114, 117, 108, 101]⟩ : ByteArray).extract (x4 : Int).toNat (x5 : Int).toNat)) else (none)) else (none)) else (none)) else (maskref1_NoteWord.l0 k x0 (wrap64 (x3 + 1)) (wrap64 (x5 + 1)) (wrap64 (x5 + 1))))
end
def maskref1_NoteWord.f (k : Nat) (a0 : Int) : Option (ByteArray) := maskref1_NoteWord.l0 k a0 0 0 0
set_option maxHeartbeats 8000000 in
set_option maxRecDepth 100000 in
theorem maskref1_NoteWord.calls (k : Nat) (a0 : Int) (r : ByteArray) (w : World) (h : maskref1_NoteWord.f k a0 = some r) :
  Calls Tryd.prog 14 #[.int .i64 a0] w fun e w' => e = .returned (.string r) ∧ Drawn0 w w' := by
 have H := h
 clear h
 unfold maskref1_NoteWord.f at H
 have H' := Aside0.mk H
 clear H
 go_enter Tryd.func14, Tryd.ntmps14
 go_wp2
 go_loopg [3, 4, 5] k (fun kq v3 v4 v5 w' => ∃ (x3_1 : Int) (x4_1 : Int) (x5_1 : Int), v3 = .int .i64 x3_1 ∧ v4 = .int .i64 x4_1 ∧ v5 = .int .i64 x5_1 ∧ Aside0 (maskref1_NoteWord.l0 kq a0 x3_1 x4_1 x5_1 = some r) ∧ Aside0 (kq ≤ k) ∧ Drawn0 w w')
 case atStart => exact ⟨(0), (0), (0), (by rfl), (by rfl), (by rfl), H', ⟨Nat.le_refl _⟩, by repeat (exact Drawn0.refl _)⟩
 case round =>
  clear H'
  try clear c1
  obtain ⟨x3_1, x4_1, x5_1, rfl, rfl, rfl, HA, HK1, ⟨m1, rfl⟩⟩ := hrel
  cases gk with
  | zero => exact absurd HA.out (by simp [maskref1_NoteWord.l0])
  | succ k1 =>
   have H := HA.out
   clear HA
   simp only [maskref1_NoteWord.l0] at H
   replace H := iD H; rcases H with ⟨c2b0, H⟩ | ⟨c2b0, H⟩
   ·have HC3 := Aside0.mk H
    clear H
    go_upto_region 6 with (fail)
    go_cut [16] (fun v16 wc => ∃ (kq : Nat) (x16_2 : Bool), v16 = .bool x16_2 ∧ Aside0 (maskref1_NoteWord.j1 kq a0 x3_1 x4_1 x5_1 x16_2 = some r) ∧ Aside0 (kq ≤ k1) ∧ Drawn0 w wc)
    case first =>
     have H := HC3.out
     clear HC3
     replace H := iD H; rcases H with ⟨c4b0, H⟩ | ⟨c4b0, H⟩
     ·(skip)
      replace H := iN H; obtain ⟨c5b0, H⟩ := H
      have H' := Aside0.mk H
      clear H
      have p6 : 0 ≤ (x5_1 : Int) := of_decide_eq_true (by (with_reducible assumption))
      have q6 : x5_1 < (130 : Int) := of_decide_eq_true (by (with_reducible assumption))
      have hx6 := bt_at (⟨#[32, 97, 114, 103, 117, 109, 101, 110, 116, 32, 114, 97, 110, 103, 101, 32, 108, 97, 114, 103, 101, 32, 102, 111, 114, 109, 32, 111, 114, 100, 101, 114, 32, 116, 119, 105, 99, 101, 32, 117, 110, 107, 110, 111, 119, 110, 32, 116, 121, 112, 101, 32, 110, 97, 109, 101, 32, 115, 121, 110, 116, 97, 120, 32, 115, 104, 111, 114, 116, 32, 115, 117, 109, 32, 115, 116, 97, 116, 101, 32, 102, 117, 108, 108, 32, 99, 108, 97, 115, 104, 32, 108, 111, 115, 116, 32, 108, 111, 111, 112, 32, 111, 112, 101, 110, 32, 99, 111, 110, 115, 116, 97, 110, 116, 32, 119, 105, 100, 116, 104, 32, 116, 105, 109, 101, 32, 114, 117, 108, 101]⟩ : ByteArray) x5_1
      replace p6 := eq_true p6
      replace q6 := eq_true q6
      go_wp2
      go_meet
      case rel => exact ⟨_, (((bt (⟨#[32, 97, 114, 103, 117, 109, 101, 110, 116, 32, 114, 97, 110, 103, 101, 32, 108, 97, 114, 103, 101, 32, 102, 111, 114, 109, 32, 111, 114, 100, 101, 114, 32, 116, 119, 105, 99, 101, 32, 117, 110, 107, 110, 111, 119, 110, 32, 116, 121, 112, 101, 32, 110, 97, 109, 101, 32, 115, 121, 110, 116, 97, 120, 32, 115, 104, 111, 114, 116, 32, 115, 117, 109, 32, 115, 116, 97, 116, 101, 32, 102, 117, 108, 108, 32, 99, 108, 97, 115, 104, 32, 108, 111, 115, 116, 32, 108, 111, 111, 112, 32, 111, 112, 101, 110, 32, 99, 111, 110, 115, 116, 97, 110, 116, 32, 119, 105, 100, 116, 104, 32, 116, 105, 109, 101, 32, 114, 117, 108, 101]⟩ : ByteArray) x5_1) != 32)), (by rfl), H', ⟨by have := HK1.out; omega⟩, by repeat (first | exact Drawn0.refl _ | apply Drawn0.step)⟩
     ·(skip)
      have H' := Aside0.mk H
      clear H
      go_wp2
      go_meet
      case rel => exact ⟨_, (false), (by rfl), H', ⟨by have := HK1.out; omega⟩, by repeat (first | exact Drawn0.refl _ | apply Drawn0.step)⟩
    case rest =>
     clear HC3
     (try clear c2b0)
     obtain ⟨kq, x16_2, rfl, HA, HJ2, ⟨mc2, rfl⟩⟩ := hcut
     cases kq with
     | zero => exact absurd HA.out (by simp [maskref1_NoteWord.j1])
     | succ kj2 =>
      have H := HA.out
      clear HA
      simp only [maskref1_NoteWord.j1] at H
      replace H := iB H; rcases H with ⟨rfl, H⟩ | ⟨rfl, H⟩
      ·have H' := Aside0.mk H
       clear H
       go_wp2
       go_roundg kj2
       case measure => have := HK1.out; have := HJ2.out; omega
       case rel => exact ⟨(x3_1), (x4_1), (wrap64 (x5_1 + 1)), (by rfl), (by rfl), (by rfl), H', ⟨by have := HK1.out; have := HJ2.out; omega⟩, by repeat (first | exact Drawn0.refl _ | apply Drawn0.step)⟩
      ·replace H := iE H; rcases H with ⟨c8b0, c8b1, H⟩ | ⟨c8, c8b0, c8b1, H⟩
       ·by_cases c9 : 0 ≤ x4_1
        ·rw [if_pos c9] at H
         have c9b0 := eq_true c9
         have c9b1 : decide (0 ≤ x4_1) = true := decide_eq_true c9
         clear c9
         by_cases c10 : x4_1 ≤ x5_1
         ·rw [if_pos c10] at H
          have c10b0 := eq_true c10
          have c10b1 : decide (x4_1 ≤ x5_1) = true := decide_eq_true c10
          clear c10
          by_cases c11 : x5_1 ≤ 130
          ·rw [if_pos c11] at H
           have c11b0 := eq_true c11
           have c11b1 : decide (x5_1 ≤ 130) = true := decide_eq_true c11
           clear c11
           obtain rfl := Option.some.inj H
           go_wp2
           go_ret
           exact ⟨by rfl, by repeat (first | exact Drawn0.refl _ | apply Drawn0.step)⟩
          ·rw [if_neg c11] at H
           exact absurd H (by simp)
         ·rw [if_neg c10] at H
          exact absurd H (by simp)
        ·rw [if_neg c9] at H
         exact absurd H (by simp)
       ·have H' := Aside0.mk H
        clear H
        go_wp2
        go_roundg kj2
        case measure => have := HK1.out; have := HJ2.out; omega
        case rel => exact ⟨(wrap64 (x3_1 + 1)), (wrap64 (x5_1 + 1)), (wrap64 (x5_1 + 1)), (by rfl), (by rfl), (by rfl), H', ⟨by have := HK1.out; have := HJ2.out; omega⟩, by repeat (first | exact Drawn0.refl _ | apply Drawn0.step)⟩
   ·obtain rfl := Option.some.inj H
    go_wp2
    go_ret
    exact ⟨by rfl, by repeat (first | exact Drawn0.refl _ | apply Drawn0.step)⟩
end Go.Proofs.YtlamgdibnnmbmaaDoor.PRead
end
section
namespace Go.Proofs.YtlamgdibnnmbmaaDoor.PRead
open Go.RowKit Go.Proofs.YtlamgdibnnmbmaaDoorW.PrintWords Go.Proofs.YtlamgdibnnmbmaaDoorW.PrintLast Go.Proofs.YtlamgdibnnmbmaaDoorW.PrintMore
attribute [local go_sem] max2_int min2_int max_two min_two max_three min_three max_four min_four
set_option linter.unusedVariables false
set_option linter.unusedSimpArgs false
mutual
def maskref1_plainNumber.j0 : Nat → ByteArray → Bool → Option (Int × Bool)
 | 0, _, _ => none
 | k + 1, x0, x22 => if x22 = true then (some (0, false)) else (maskref1_plainNumber.l0 k x0 0 (x0.size : Int) 0)
def maskref1_plainNumber.l0 : Nat → ByteArray → Int → Int → Int → Option (Int × Bool)
 | 0, _, _, _, _ => none
 | k + 1, x0, x4, x24, x25 => if x25 < x24 then (if 0 ≤ x25 then (if x25 < (x0.size : Int) then (maskref1_plainNumber.l0 k x0 (mn (wrap64 ((wrap64 (10 * x4)) + (((bt x0 x25) - 48) % 256))) 1000000) x24 (wrap64 (x25 + 1))) else (none)) else (none)) else (some (x4, true))
end
def maskref1_plainNumber.f (k : Nat) (a0 : ByteArray) : Option (Int × Bool) := if a0.toList = ([] : List UInt8) then (maskref1_plainNumber.j0 k a0 true) else (if (a0.size : Int) > 1 then (if 0 < (a0.size : Int) then (if (bt a0 0) = 48 then (maskref1_plainNumber.j0 k a0 true) else ((maskref1_within.f k a0 48 57 (⟨#[]⟩ : ByteArray)).bind fun t139 => (maskref1_plainNumber.j0 k a0 (!t139)))) else (none)) else ((maskref1_within.f k a0 48 57 (⟨#[]⟩ : ByteArray)).bind fun t140 => (maskref1_plainNumber.j0 k a0 (!t140))))
set_option maxHeartbeats 8000000 in
set_option maxRecDepth 100000 in
theorem maskref1_plainNumber.calls (k : Nat) (a0 : ByteArray) (r1 : Int) (r2 : Bool) (w : World) (h : maskref1_plainNumber.f k a0 = some (r1, r2)) :
  Calls Tryd.prog 67 #[.string a0] w fun e w' => e = .returned (.tuple #[.int .i64 r1, .bool r2]) ∧ Below w.heap.size w w' := by
 have HB := Aside0.mk (Below.refl w.heap.size w)
 have H := h
 clear h
 unfold maskref1_plainNumber.f at H
 have HC2 := Aside0.mk H
 clear H
 go_enter Tryd.func67, Tryd.ntmps67
 go_upto_region 1 with (fail)
 go_cut [22] (fun v22 wc => ∃ (kq : Nat) (x22_1 : Bool), v22 = .bool x22_1 ∧ Aside0 (maskref1_plainNumber.j0 kq a0 x22_1 = some (r1, r2)) ∧ Aside0 (kq ≤ k) ∧ Aside0 (Below w.heap.size w wc))
 case first =>
  have H := HC2.out
  clear HC2
  replace H := iE H; rcases H with ⟨c3b0, c3b1, H⟩ | ⟨c3, c3b0, c3b1, H⟩
  ·(skip)
   have H' := Aside0.mk H
   clear H
   go_wp2
   go_meet
   case rel => exact ⟨_, (true), (by rfl), H', ⟨by omega⟩, ⟨by repeat (with_reducible exact HB.out)⟩⟩
  ·(skip)
   by_cases c4 : (a0.size : Int) > 1
   ·rw [if_pos c4] at H
    have c4b0 : decide (1 < (a0.size : Int)) = true := decide_eq_true c4
    have c4b1 : decide (1 < a0.size) = true := decide_eq_true (by omega)
    clear c4
    by_cases c5 : 0 < (a0.size : Int)
    ·rw [if_pos c5] at H
     have c5b0 : decide (0 < (a0.size : Int)) = true := decide_eq_true c5
     have c5b1 : decide (0 < a0.size) = true := decide_eq_true (by omega)
     clear c5
     replace H := iE H; rcases H with ⟨c7b0, c7b1, H⟩ | ⟨c7, c7b0, c7b1, H⟩
     ·have H' := Aside0.mk H
      clear H
      have p6 : 0 ≤ (0 : Int) := (by omega)
      have q6 : 0 < a0.size := (by have : (0 : Int) < (a0.size : Int) := of_decide_eq_true (by (with_reducible assumption)); omega)
      have hx6 : ∀ h : 0 < a0.size, ((a0[0]'h).toNat : Int) = bt a0 0 := bt_at a0 0
      clear p6
      have qi6 : (0 < (a0.size : Int)) = True := eq_true (of_decide_eq_true (by (with_reducible assumption)))
      replace q6 := eq_true q6
      go_wp2
      go_meet
      case rel => exact ⟨_, (true), (by rfl), H', ⟨by omega⟩, ⟨by repeat (with_reducible exact HB.out)⟩⟩
     ·replace H := bN H; obtain ⟨t139, A8, H⟩ := H
      have H' := Aside0.mk H
      clear H
      have p6 : 0 ≤ (0 : Int) := (by omega)
      have q6 : 0 < a0.size := (by have : (0 : Int) < (a0.size : Int) := of_decide_eq_true (by (with_reducible assumption)); omega)
      have hx6 : ∀ h : 0 < a0.size, ((a0[0]'h).toNat : Int) = bt a0 0 := bt_at a0 0
      clear p6
      have qi6 : (0 < (a0.size : Int)) = True := eq_true (of_decide_eq_true (by (with_reducible assumption)))
      replace q6 := eq_true q6
      go_wp2_with ((go_at_call 38; (with_reducible refine (maskref1_within.calls k a0 48 57 (⟨#[]⟩ : ByteArray) t139 _ A8.out).mono ?_); rintro e w' ⟨rfl, ⟨nd, rfl⟩⟩))
      go_meet
      case rel => exact ⟨_, (!t139), (by rfl), H', ⟨by omega⟩, ⟨by repeat (with_reducible first | exact HB.out | apply pw_below_drewN)⟩⟩
    ·rw [if_neg c5] at H
     exact absurd H (by simp)
   ·rw [if_neg c4] at H
    have c4b0 : decide (1 < (a0.size : Int)) = false := decide_eq_false c4
    have c4b1 : decide (1 < a0.size) = false := decide_eq_false (by omega)
    clear c4
    replace H := bN H; obtain ⟨t140, A9, H⟩ := H
    have H' := Aside0.mk H
    clear H
    go_wp2_with ((go_at_call 38; (with_reducible refine (maskref1_within.calls k a0 48 57 (⟨#[]⟩ : ByteArray) t140 _ A9.out).mono ?_); rintro e w' ⟨rfl, ⟨nd, rfl⟩⟩))
    go_meet
    case rel => exact ⟨_, (!t140), (by rfl), H', ⟨by omega⟩, ⟨by repeat (with_reducible first | exact HB.out | apply pw_below_drewN)⟩⟩
 case rest =>
  clear HC2
  obtain ⟨kq, x22_1, rfl, HA, HJ1, HB⟩ := hcut
  cases kq with
  | zero => exact absurd HA.out (by simp [maskref1_plainNumber.j0])
  | succ kj1 =>
   have H := HA.out
   clear HA
   simp only [maskref1_plainNumber.j0] at H
   replace H := iB H; rcases H with ⟨rfl, H⟩ | ⟨rfl, H⟩
   ·replace H := s2 H; obtain ⟨rfl, rfl⟩ := H
    go_wp2
    go_ret2
    exact ⟨by rfl, by repeat (with_reducible exact HB.out)⟩
   ·have H' := Aside0.mk H
    clear H
    go_wp2
    go_loopg [4, 25] kj1 (fun kq v4 v25 w' => ∃ (x4_2 : Int) (x25_2 : Int), v4 = .int .i64 x4_2 ∧ v25 = .int .i64 x25_2 ∧ Aside0 (maskref1_plainNumber.l0 kq a0 x4_2 (a0.size : Int) x25_2 = some (r1, r2)) ∧ Aside0 (kq ≤ kj1) ∧ Aside0 (Below w.heap.size w w'))
    case atStart => exact ⟨(0), (0), (by rfl), (by rfl), H', ⟨Nat.le_refl _⟩, ⟨by repeat (with_reducible exact HB.out)⟩⟩
    case round =>
     clear H'
     obtain ⟨x4_2, x25_2, rfl, rfl, HA, HK2, HB⟩ := hrel
     cases gk with
     | zero => exact absurd HA.out (by simp [maskref1_plainNumber.l0])
     | succ k2 =>
      have H := HA.out
      clear HA
      simp only [maskref1_plainNumber.l0] at H
      replace H := iD H; rcases H with ⟨c11b0, H⟩ | ⟨c11b0, H⟩
      ·replace H := iN H; obtain ⟨c12b0, H⟩ := H
       replace H := iN H; obtain ⟨c13b0, H⟩ := H
       obtain ⟨ji15, hji15⟩ : ∃ j_ : Int, (mn (wrap64 ((wrap64 (10 * x4_2)) + (((bt a0 x25_2) - 48) % 256))) 1000000) = j_ := ⟨_, rfl⟩
       replace H : (maskref1_plainNumber.l0 k2 a0 ji15 (a0.size : Int) (wrap64 (x25_2 + 1))) = some (r1, r2) := by (rw [hji15] at H; exact H)
       have hji15_ : (if 1000000 < (wrap64 ((wrap64 (10 * x4_2)) + (((bt a0 x25_2) - 48) % 256))) then 1000000 else (wrap64 ((wrap64 (10 * x4_2)) + (((bt a0 x25_2) - 48) % 256)))) = ji15 := hji15
       have H' := Aside0.mk H
       clear H
       have p14 : 0 ≤ (x25_2 : Int) := of_decide_eq_true (by (with_reducible assumption))
       have q14 : x25_2 < (a0.size : Int) := of_decide_eq_true (by (with_reducible assumption))
       have hx14 := bt_at a0 x25_2
       replace p14 := eq_true p14
       replace q14 := eq_true q14
       go_wp2
       go_roundg k2
       case measure => have := HJ1.out; have := HK2.out; omega
       case rel => exact ⟨(ji15), (wrap64 (x25_2 + 1)), (by rfl), (by rfl), H', ⟨by have := HJ1.out; have := HK2.out; omega⟩, ⟨by repeat (with_reducible exact HB.out)⟩⟩
      ·replace H := s2 H; obtain ⟨rfl, rfl⟩ := H
       go_wp2
       go_ret2
       exact ⟨by rfl, by repeat (with_reducible exact HB.out)⟩
end Go.Proofs.YtlamgdibnnmbmaaDoor.PRead
end
section
namespace Go.Proofs.YtlamgdibnnmbmaaDoor.PRead
open Go.RowKit Go.Proofs.YtlamgdibnnmbmaaDoorW.PrintWords Go.Proofs.YtlamgdibnnmbmaaDoorW.PrintLast Go.Proofs.YtlamgdibnnmbmaaDoorW.PrintMore
attribute [local go_sem] max2_int min2_int max_two min_two max_three min_three max_four min_four
set_option linter.unusedVariables false
set_option linter.unusedSimpArgs false
mutual
def maskref1_NoteRead.l0 : Nat → ByteArray → Int → Int → Int → ByteArray → Int → Int → Int → ByteArray → Option (ByteArray × Int × Int × Int × ByteArray × Int)
 | 0, _, _, _, _, _, _, _, _, _ => none
 | k + 1, x0, x5, x6, x7, x143000, x143001, x143002, x143003, x143004 => if x7 < (x0.size : Int) then (maskref1_NoteRead.j1 k x0 x5 x6 x7 (decide (x5 < 3)) x143000 x143001 x143002 x143003 x143004) else (maskref1_NoteRead.j1 k x0 x5 x6 x7 false x143000 x143001 x143002 x143003 x143004)
def maskref1_NoteRead.j1 : Nat → ByteArray → Int → Int → Int → Bool → ByteArray → Int → Int → Int → ByteArray → Option (ByteArray × Int × Int × Int × ByteArray × Int)
 | 0, _, _, _, _, _, _, _, _, _, _ => none
 | k + 1, x0, x5, x6, x7, x23, x143000, x143001, x143002, x143003, x143004 => if x23 = true then (if 0 ≤ x7 then (if x7 < (x0.size : Int) then (if (bt x0 x7) = 58 then (if 0 ≤ x6 then (if x6 ≤ x7 then (if x7 ≤ (x0.size : Int) then (if x5 = 0 then (maskref1_NoteRead.l0 k x0 (wrap64 (x5 + 1)) (wrap64 (x7 + 1)) (wrap64 (x7 + 1)) (x0.extract (x6 : Int).toNat (x7 : Int).toNat) x143001 x143002 x143003 x143004) else ((maskref1_plainNumber.f k (x0.extract (x6 : Int).toNat (x7 : Int).toNat)).bind fun bt143 => (if bt143.2 = true then (if x5 = 1 then (maskref1_NoteRead.l0 k x0 (wrap64 (x5 + 1)) (wrap64 (x7 + 1)) (wrap64 (x7 + 1)) x143000 bt143.1 x143002 x143003 x143004) else (maskref1_NoteRead.l0 k x0 (wrap64 (x5 + 1)) (wrap64 (x7 + 1)) (wrap64 (x7 + 1)) x143000 x143001 bt143.1 x143003 x143004)) else (some ((⟨#[]⟩ : ByteArray), 0, 0, 0, (⟨#[]⟩ : ByteArray), 10))))) else (none)) else (none)) else (none)) else (maskref1_NoteRead.l0 k x0 x5 x6 (wrap64 (x7 + 1)) x143000 x143001 x143002 x143003 x143004)) else (none)) else (none)) else (if x5 < 3 then (maskref1_NoteRead.j2 k x0 x6 true x143000 x143001 x143002 x143003 x143004) else (if x6 ≥ (x0.size : Int) then (maskref1_NoteRead.j2 k x0 x6 true x143000 x143001 x143002 x143003 x143004) else (if 0 ≤ x6 then (if x6 < (x0.size : Int) then (maskref1_NoteRead.j2 k x0 x6 ((bt x0 x6) != 32) x143000 x143001 x143002 x143003 x143004) else (none)) else (none))))
def maskref1_NoteRead.j2 : Nat → ByteArray → Int → Bool → ByteArray → Int → Int → Int → ByteArray → Option (ByteArray × Int × Int × Int × ByteArray × Int)
 | 0, _, _, _, _, _, _, _, _ => none
 | k + 1, x0, x6, x70, x143000, x143001, x143002, x143003, x143004 => if x70 = true then (some ((⟨#[]⟩ : ByteArray), 0, 0, 0, (⟨#[]⟩ : ByteArray), 10)) else (if 0 ≤ (wrap64 (x6 + 1)) then (if (wrap64 (x6 + 1)) ≤ (x0.size : Int) then (maskref1_NoteRead.l1 k (x0.extract ((wrap64 (x6 + 1)) : Int).toNat x0.size) 0 x143000 x143001 x143002 x143003 x143004) else (none)) else (none))
def maskref1_NoteRead.j4 : Nat → ByteArray → Int → ByteArray → Int → Int → Int → ByteArray → Option (ByteArray × Int × Int × Int × ByteArray × Int)
 | 0, _, _, _, _, _, _, _ => none
 | k + 1, x11, x12, x143000, x143001, x143002, x143003, x143004 => if x12 < (x11.size : Int) then (if 0 ≤ (wrap64 (x12 + 1)) then (if (wrap64 (x12 + 1)) ≤ (x11.size : Int) then (if (x11.extract ((wrap64 (x12 + 1)) : Int).toNat x11.size).toList = ([] : List UInt8) then (some ((⟨#[]⟩ : ByteArray), 0, 0, 0, (⟨#[]⟩ : ByteArray), 10)) else (maskref1_NoteRead.j5 k x11 x12 x143000 x143001 x143002 x143003 (x11.extract ((wrap64 (x12 + 1)) : Int).toNat x11.size))) else (none)) else (none)) else (maskref1_NoteRead.j5 k x11 x12 x143000 x143001 x143002 x143003 x143004)
def maskref1_NoteRead.j5 : Nat → ByteArray → Int → ByteArray → Int → Int → Int → ByteArray → Option (ByteArray × Int × Int × Int × ByteArray × Int)
 | 0, _, _, _, _, _, _, _ => none
 | k + 1, x11, x12, x143000, x143001, x143002, x143003, x143004 => maskref1_NoteRead.l2 k x11 x12 1 x143000 x143001 x143002 x143003 x143004
def maskref1_NoteRead.l2 : Nat → ByteArray → Int → Int → ByteArray → Int → Int → Int → ByteArray → Option (ByteArray × Int × Int × Int × ByteArray × Int)
 | 0, _, _, _, _, _, _, _, _ => none
 | k + 1, x11, x12, x13, x143000, x143001, x143002, x143003, x143004 => if x13 ≤ 22 then ((maskref1_NoteWord.f k x13).bind fun t145 => (if 0 ≤ x12 then (if x12 ≤ (x11.size : Int) then (if t145.toList = (x11.extract 0 (x12 : Int).toNat).toList then (maskref1_NoteRead.l2 k x11 x12 (wrap64 (x13 + 1)) x143000 x143001 x143002 x13 x143004) else (maskref1_NoteRead.l2 k x11 x12 (wrap64 (x13 + 1)) x143000 x143001 x143002 x143003 x143004)) else (none)) else (none))) else (if x143003 = 0 then (some ((⟨#[]⟩ : ByteArray), 0, 0, 0, (⟨#[]⟩ : ByteArray), 10)) else ((maskref1_NoteFault.f k x143000 x143001 x143002 x143003 x143004).bind fun t146 => (if t146 = 0 then (some (x143000, x143001, x143002, x143003, x143004, 0)) else (some ((⟨#[]⟩ : ByteArray), 0, 0, 0, (⟨#[]⟩ : ByteArray), t146)))))
def maskref1_NoteRead.l1 : Nat → ByteArray → Int → ByteArray → Int → Int → Int → ByteArray → Option (ByteArray × Int × Int × Int × ByteArray × Int)
 | 0, _, _, _, _, _, _, _ => none
 | k + 1, x11, x12, x143000, x143001, x143002, x143003, x143004 => if x12 < (x11.size : Int) then (if 0 ≤ x12 then (if (bt x11 x12) = 32 then (maskref1_NoteRead.j4 k x11 x12 x143000 x143001 x143002 x143003 x143004) else (maskref1_NoteRead.l1 k x11 (wrap64 (x12 + 1)) x143000 x143001 x143002 x143003 x143004)) else (none)) else (maskref1_NoteRead.j4 k x11 x12 x143000 x143001 x143002 x143003 x143004)
end
def maskref1_NoteRead.f (k : Nat) (a0 : ByteArray) : Option (ByteArray × Int × Int × Int × ByteArray × Int) := maskref1_NoteRead.l0 k a0 0 0 0 (⟨#[]⟩ : ByteArray) 0 0 0 (⟨#[]⟩ : ByteArray)
set_option maxHeartbeats 8000000 in
set_option maxRecDepth 100000 in
theorem maskref1_NoteRead.calls (k : Nat) (a0 : ByteArray) (r1 : ByteArray) (r2 : Int) (r3 : Int) (r4 : Int) (r5 : ByteArray) (r6 : Int) (w : World) (h : maskref1_NoteRead.f k a0 = some (r1, r2, r3, r4, r5, r6)) :
  Calls Tryd.prog 37 #[.string a0] w fun e w' => e = .returned (.tuple #[.agg #[.string r1, .int .i64 r2, .int .i64 r3, .int .i64 r4, .string r5], .int .i64 r6]) ∧ Below w.heap.size w w' := by
 have hu24 := Tryd.underlying24
 have HB := Aside0.mk (Below.refl w.heap.size w)
 have H := h
 clear h
 unfold maskref1_NoteRead.f at H
 have H' := Aside0.mk H
 clear H
 go_enter Tryd.func37, Tryd.ntmps37
 go_wp2_with (first | ((with_reducible refine gate_dst (N := 2) rfl ?_); (try (refine gate_guard (by rfl) ?_; dsimp only)); refine boxA HB 2 #[.string (⟨#[]⟩ : ByteArray), .int .i64 0, .int .i64 0, .int .i64 0, .string (⟨#[]⟩ : ByteArray)] 24 ?_; clear HB; intro gb141 w2 BK141 GE141 hg hb HB; clear hb hg) | ((with_reducible refine gate_dst (N := 4) rfl ?_); (try (refine gate_guard (by rfl) ?_; dsimp only)); refine boxA HB 4 #[.string (⟨#[]⟩ : ByteArray), .int .i64 0, .int .i64 0, .int .i64 0, .string (⟨#[]⟩ : ByteArray)] 24 ?_; clear HB; intro gb142 w3 BK142 GE142 hg hb HB; have NB141_142 := Aside0.mk ((by rw [hg]; exact Nat.ne_of_lt (blk_lt (g := gb141) (o := .cells #[.string (⟨#[]⟩ : ByteArray), .int .i64 0, .int .i64 0, .int .i64 0, .string (⟨#[]⟩ : ByteArray)] 24 (0, 0)) BK141.out) : gb141 ≠ gb142)); have NB142_141 := Aside0.mk ((by rw [hg]; exact Nat.ne_of_gt (blk_lt (g := gb141) (o := .cells #[.string (⟨#[]⟩ : ByteArray), .int .i64 0, .int .i64 0, .int .i64 0, .string (⟨#[]⟩ : ByteArray)] 24 (0, 0)) BK141.out) : gb142 ≠ gb141)); replace BK141 := bk1 BK141 hb; clear hb hg; have hnb4 := NB142_141.out; have hnc4 := NB141_142.out; obtain ⟨hcz5_0, hcz5_1, hcz5_2, hcz5_3, hcz5_4, hfz5_0, hfz5_1, hfz5_2, hfz5_3, hfz5_4⟩ := cf5 BK142))
 go_loopg [5, 6, 7] k (fun kq v5 v6 v7 w' => ∃ (x5_1 : Int) (x6_1 : Int) (x7_1 : Int) (x142000_1 : ByteArray) (x142001_1 : Int) (x142002_1 : Int) (x142003_1 : Int) (x142004_1 : ByteArray) (x143000_1 : ByteArray) (x143001_1 : Int) (x143002_1 : Int), v5 = .int .i64 x5_1 ∧ v6 = .int .i64 x6_1 ∧ v7 = .int .i64 x7_1 ∧ Aside0 (maskref1_NoteRead.l0 kq a0 x5_1 x6_1 x7_1 x143000_1 x143001_1 x143002_1 0 (⟨#[]⟩ : ByteArray) = some (r1, r2, r3, r4, r5, r6)) ∧ Aside0 (kq ≤ k) ∧ Aside0 (w'.heap[gb141]? = some (.cells #[.string x142000_1, .int .i64 x142001_1, .int .i64 x142002_1, .int .i64 x142003_1, .string x142004_1] 24 (0, 0))) ∧ Aside0 (w'.heap[gb142]? = some (.cells #[.string x143000_1, .int .i64 x143001_1, .int .i64 x143002_1, .int .i64 0, .string (⟨#[]⟩ : ByteArray)] 24 (0, 0))) ∧ Aside0 (Below w.heap.size w w'))
 case atStart => exact ⟨(0), (0), (0), (⟨#[]⟩ : ByteArray), (0), (0), (0), (⟨#[]⟩ : ByteArray), (⟨#[]⟩ : ByteArray), (0), (0), (by rfl), (by rfl), (by rfl), H', ⟨Nat.le_refl _⟩, ⟨by refine blk_far ?_ NB141_142.out _; refine blk_far ?_ NB141_142.out _; refine blk_far ?_ NB141_142.out _; refine blk_far ?_ NB141_142.out _; refine blk_far ?_ NB141_142.out _; exact BK141.out⟩, ⟨by refine blk_put (cs := #[.string (⟨#[]⟩ : ByteArray), .int .i64 0, .int .i64 0, .int .i64 0, .string (⟨#[]⟩ : ByteArray)]) ?_ 4 _ rfl; refine blk_put (cs := #[.string (⟨#[]⟩ : ByteArray), .int .i64 0, .int .i64 0, .int .i64 0, .string (⟨#[]⟩ : ByteArray)]) ?_ 3 _ rfl; refine blk_put (cs := #[.string (⟨#[]⟩ : ByteArray), .int .i64 0, .int .i64 0, .int .i64 0, .string (⟨#[]⟩ : ByteArray)]) ?_ 2 _ rfl; refine blk_put (cs := #[.string (⟨#[]⟩ : ByteArray), .int .i64 0, .int .i64 0, .int .i64 0, .string (⟨#[]⟩ : ByteArray)]) ?_ 1 _ rfl; refine blk_put (cs := #[.string (⟨#[]⟩ : ByteArray), .int .i64 0, .int .i64 0, .int .i64 0, .string (⟨#[]⟩ : ByteArray)]) ?_ 0 _ rfl; exact BK142.out⟩, ⟨by repeat (with_reducible first | exact HB.out | refine below_set ?_ GE142.out)⟩⟩
 case round =>
  clear H'
  (try clear hcz5_0 hcz5_1 hcz5_2 hcz5_3 hcz5_4 hfz5_0 hfz5_1 hfz5_2 hfz5_3 hfz5_4)
  obtain ⟨x5_1, x6_1, x7_1, x142000_1, x142001_1, x142002_1, x142003_1, x142004_1, x143000_1, x143001_1, x143002_1, rfl, rfl, rfl, HA, HK1, BK141, BK142, HB⟩ := hrel
  cases gk with
  | zero => exact absurd HA.out (by simp [maskref1_NoteRead.l0])
  | succ k1 =>
   have H := HA.out
   clear HA
   simp only [maskref1_NoteRead.l0] at H
   have HC6 := Aside0.mk H
   clear H
   go_upto_region 5 with (fail)
   go_cut [23] (fun v23 wc => ∃ (kq : Nat) (x23_5 : Bool), v23 = .bool x23_5 ∧ Aside0 (maskref1_NoteRead.j1 kq a0 x5_1 x6_1 x7_1 x23_5 x143000_1 x143001_1 x143002_1 0 (⟨#[]⟩ : ByteArray) = some (r1, r2, r3, r4, r5, r6)) ∧ Aside0 (kq ≤ k1) ∧ Aside0 (wc.heap[gb141]? = some (.cells #[.string x142000_1, .int .i64 x142001_1, .int .i64 x142002_1, .int .i64 x142003_1, .string x142004_1] 24 (0, 0))) ∧ Aside0 (wc.heap[gb142]? = some (.cells #[.string x143000_1, .int .i64 x143001_1, .int .i64 x143002_1, .int .i64 0, .string (⟨#[]⟩ : ByteArray)] 24 (0, 0))) ∧ Aside0 (Below w.heap.size w wc))
   case first =>
    have H := HC6.out
    clear HC6
    replace H := iD H; rcases H with ⟨c7b0, H⟩ | ⟨c7b0, H⟩
    ·(skip)
     have H' := Aside0.mk H
     clear H
     go_wp2
     go_meet
     case rel => exact ⟨_, (decide (x5_1 < 3)), (by rfl), H', ⟨by have := HK1.out; omega⟩, ⟨by exact BK141.out⟩, ⟨by exact BK142.out⟩, ⟨by repeat (with_reducible exact HB.out)⟩⟩
    ·(skip)
     have H' := Aside0.mk H
     clear H
     go_wp2
     go_meet
     case rel => exact ⟨_, (false), (by rfl), H', ⟨by have := HK1.out; omega⟩, ⟨by exact BK141.out⟩, ⟨by exact BK142.out⟩, ⟨by repeat (with_reducible exact HB.out)⟩⟩
   case rest =>
    clear HC6
    obtain ⟨kq, x23_5, rfl, HA, HJ5, BK141, BK142, HB⟩ := hcut
    cases kq with
    | zero => exact absurd HA.out (by simp [maskref1_NoteRead.j1])
    | succ kj5 =>
     have H := HA.out
     clear HA
     simp only [maskref1_NoteRead.j1] at H
     replace H := iB H; rcases H with ⟨rfl, H⟩ | ⟨rfl, H⟩
     ·replace H := iN H; obtain ⟨c9b0, H⟩ := H
      replace H := iN H; obtain ⟨c10b0, H⟩ := H
      replace H := iE H; rcases H with ⟨c12b0, c12b1, H⟩ | ⟨c12, c12b0, c12b1, H⟩
      ·by_cases c13 : 0 ≤ x6_1
       ·rw [if_pos c13] at H
        have c13b0 := eq_true c13
        have c13b1 : decide (0 ≤ x6_1) = true := decide_eq_true c13
        clear c13
        by_cases c14 : x6_1 ≤ x7_1
        ·rw [if_pos c14] at H
         have c14b0 := eq_true c14
         have c14b1 : decide (x6_1 ≤ x7_1) = true := decide_eq_true c14
         clear c14
         by_cases c15 : x7_1 ≤ (a0.size : Int)
         ·rw [if_pos c15] at H
          have c15b0 := eq_true c15
          have c15b1 : decide (x7_1 ≤ (a0.size : Int)) = true := decide_eq_true c15
          clear c15
          replace H := iE H; rcases H with ⟨c16b0, c16b1, H⟩ | ⟨c16, c16b0, c16b1, H⟩
          ·have H' := Aside0.mk H
           clear H
           have p11 : 0 ≤ (x7_1 : Int) := of_decide_eq_true (by (with_reducible assumption))
           have q11 : x7_1 < (a0.size : Int) := of_decide_eq_true (by (with_reducible assumption))
           have hx11 := bt_at a0 x7_1
           replace p11 := eq_true p11
           replace q11 := eq_true q11
           have hnb17 := NB142_141.out
           have hnc17 := NB141_142.out
           obtain ⟨hcz18_0, hcz18_1, hcz18_2, hcz18_3, hcz18_4, hfz18_0, hfz18_1, hfz18_2, hfz18_3, hfz18_4⟩ := cf5 BK142
           go_wp2
           go_roundg kj5
           case measure => have := HK1.out; have := HJ5.out; omega
           case rel => exact ⟨(wrap64 (x5_1 + 1)), (wrap64 (x7_1 + 1)), (wrap64 (x7_1 + 1)), (x142000_1), (x142001_1), (x142002_1), (x142003_1), (x142004_1), (a0.extract (x6_1 : Int).toNat (x7_1 : Int).toNat), (x143001_1), (x143002_1), (by (with_reducible rfl)), (by (with_reducible rfl)), (by (with_reducible rfl)), H', ⟨by have := HK1.out; have := HJ5.out; omega⟩, ⟨by refine blk_far ?_ NB141_142.out _; exact BK141.out⟩, ⟨by refine blk_put (cs := #[.string x143000_1, .int .i64 x143001_1, .int .i64 x143002_1, .int .i64 0, .string (⟨#[]⟩ : ByteArray)]) ?_ 0 _ rfl; exact BK142.out⟩, ⟨by repeat (with_reducible first | exact HB.out | refine below_set ?_ GE142.out)⟩⟩
          ·replace H := bN H; obtain ⟨⟨t143, t144⟩, A19, H⟩ := H; dsimp only at H
           replace H := iB H; rcases H with ⟨rfl, H⟩ | ⟨rfl, H⟩
           ·replace H := iE H; rcases H with ⟨c21b0, c21b1, H⟩ | ⟨c21, c21b0, c21b1, H⟩
            ·have H' := Aside0.mk H
             clear H
             have p11 : 0 ≤ (x7_1 : Int) := of_decide_eq_true (by (with_reducible assumption))
             have q11 : x7_1 < (a0.size : Int) := of_decide_eq_true (by (with_reducible assumption))
             have hx11 := bt_at a0 x7_1
             replace p11 := eq_true p11
             replace q11 := eq_true q11
             go_wp2_with ((go_at_call 67; (with_reducible refine (maskref1_plainNumber.calls kj5 (a0.extract (x6_1 : Int).toNat (x7_1 : Int).toNat) t143 true _ A19.out).mono ?_); rintro e w22 ⟨rfl, hb⟩; replace BK141 := bk1 BK141 hb; replace BK142 := bk1 BK142 hb; replace HB := hb1 HB hb; (try clear hb); have hnb23 := NB142_141.out; have hnc23 := NB141_142.out; obtain ⟨hcz24_0, hcz24_1, hcz24_2, hcz24_3, hcz24_4, hfz24_0, hfz24_1, hfz24_2, hfz24_3, hfz24_4⟩ := cf5 BK142))
             go_roundg kj5
             case measure => have := HK1.out; have := HJ5.out; omega
             case rel => exact ⟨(wrap64 (x5_1 + 1)), (wrap64 (x7_1 + 1)), (wrap64 (x7_1 + 1)), (x142000_1), (x142001_1), (x142002_1), (x142003_1), (x142004_1), (x143000_1), (t143), (x143002_1), (by rfl), (by rfl), (by rfl), H', ⟨by have := HK1.out; have := HJ5.out; omega⟩, ⟨by refine blk_far ?_ NB141_142.out _; exact BK141.out⟩, ⟨by refine blk_put (cs := #[.string x143000_1, .int .i64 x143001_1, .int .i64 x143002_1, .int .i64 0, .string (⟨#[]⟩ : ByteArray)]) ?_ 1 _ rfl; exact BK142.out⟩, ⟨by repeat (with_reducible first | exact HB.out | refine below_set ?_ GE142.out)⟩⟩
            ·have H' := Aside0.mk H
             clear H
             have p11 : 0 ≤ (x7_1 : Int) := of_decide_eq_true (by (with_reducible assumption))
             have q11 : x7_1 < (a0.size : Int) := of_decide_eq_true (by (with_reducible assumption))
             have hx11 := bt_at a0 x7_1
             replace p11 := eq_true p11
             replace q11 := eq_true q11
             go_wp2_with ((go_at_call 67; (with_reducible refine (maskref1_plainNumber.calls kj5 (a0.extract (x6_1 : Int).toNat (x7_1 : Int).toNat) t143 true _ A19.out).mono ?_); rintro e w25 ⟨rfl, hb⟩; replace BK141 := bk1 BK141 hb; replace BK142 := bk1 BK142 hb; replace HB := hb1 HB hb; (try clear hb); have hnb26 := NB142_141.out; have hnc26 := NB141_142.out; obtain ⟨hcz27_0, hcz27_1, hcz27_2, hcz27_3, hcz27_4, hfz27_0, hfz27_1, hfz27_2, hfz27_3, hfz27_4⟩ := cf5 BK142))
             go_roundg kj5
             case measure => have := HK1.out; have := HJ5.out; omega
             case rel => exact ⟨(wrap64 (x5_1 + 1)), (wrap64 (x7_1 + 1)), (wrap64 (x7_1 + 1)), (x142000_1), (x142001_1), (x142002_1), (x142003_1), (x142004_1), (x143000_1), (x143001_1), (t143), (by rfl), (by rfl), (by rfl), H', ⟨by have := HK1.out; have := HJ5.out; omega⟩, ⟨by refine blk_far ?_ NB141_142.out _; exact BK141.out⟩, ⟨by refine blk_put (cs := #[.string x143000_1, .int .i64 x143001_1, .int .i64 x143002_1, .int .i64 0, .string (⟨#[]⟩ : ByteArray)]) ?_ 2 _ rfl; exact BK142.out⟩, ⟨by repeat (with_reducible first | exact HB.out | refine below_set ?_ GE142.out)⟩⟩
           ·simp only [Option.some.injEq, Prod.mk.injEq] at H
            obtain ⟨rfl, rfl, rfl, rfl, rfl, rfl⟩ := H
            have p11 : 0 ≤ (x7_1 : Int) := of_decide_eq_true (by (with_reducible assumption))
            have q11 : x7_1 < (a0.size : Int) := of_decide_eq_true (by (with_reducible assumption))
            have hx11 := bt_at a0 x7_1
            replace p11 := eq_true p11
            replace q11 := eq_true q11
            go_wp2_with ((go_at_call 67; (with_reducible refine (maskref1_plainNumber.calls kj5 (a0.extract (x6_1 : Int).toNat (x7_1 : Int).toNat) t143 false _ A19.out).mono ?_); rintro e w28 ⟨rfl, hb⟩; replace BK141 := bk1 BK141 hb; replace BK142 := bk1 BK142 hb; replace HB := hb1 HB hb; (try clear hb); have hnb29 := NB141_142.out; have hnc29 := NB142_141.out; obtain ⟨hcz30_0, hcz30_1, hcz30_2, hcz30_3, hcz30_4, hfz30_0, hfz30_1, hfz30_2, hfz30_3, hfz30_4⟩ := cf5 BK141))
            refine bodyPost_ret (results_ct rfl _ _ gb141 24 #[.string (⟨#[]⟩ : ByteArray), .int .i64 0, .int .i64 0, .int .i64 0, .string (⟨#[]⟩ : ByteArray)] (0, 0) _ rfl (by refine blk_put (cs := #[.string (⟨#[]⟩ : ByteArray), .int .i64 0, .int .i64 0, .int .i64 0, .string x142004_1]) ?_ 4 _ rfl; refine blk_put (cs := #[.string (⟨#[]⟩ : ByteArray), .int .i64 0, .int .i64 0, .int .i64 x142003_1, .string x142004_1]) ?_ 3 _ rfl; refine blk_put (cs := #[.string (⟨#[]⟩ : ByteArray), .int .i64 0, .int .i64 x142002_1, .int .i64 x142003_1, .string x142004_1]) ?_ 2 _ rfl; refine blk_put (cs := #[.string (⟨#[]⟩ : ByteArray), .int .i64 x142001_1, .int .i64 x142002_1, .int .i64 x142003_1, .string x142004_1]) ?_ 1 _ rfl; refine blk_put (cs := #[.string x142000_1, .int .i64 x142001_1, .int .i64 x142002_1, .int .i64 x142003_1, .string x142004_1]) ?_ 0 _ rfl; exact BK141.out) Tryd.underlying24 rfl (by kernel_rfl)) rfl ?_
            exact ⟨by rfl, by repeat (with_reducible first | exact HB.out | refine below_set ?_ GE141.out)⟩
         ·rw [if_neg c15] at H
          exact absurd H (by simp)
        ·rw [if_neg c14] at H
         exact absurd H (by simp)
       ·rw [if_neg c13] at H
        exact absurd H (by simp)
      ·have H' := Aside0.mk H
       clear H
       have p11 : 0 ≤ (x7_1 : Int) := of_decide_eq_true (by (with_reducible assumption))
       have q11 : x7_1 < (a0.size : Int) := of_decide_eq_true (by (with_reducible assumption))
       have hx11 := bt_at a0 x7_1
       replace p11 := eq_true p11
       replace q11 := eq_true q11
       go_wp2
       go_roundg kj5
       case measure => have := HK1.out; have := HJ5.out; omega
       case rel => exact ⟨(x5_1), (x6_1), (wrap64 (x7_1 + 1)), (x142000_1), (x142001_1), (x142002_1), (x142003_1), (x142004_1), (x143000_1), (x143001_1), (x143002_1), (by rfl), (by rfl), (by rfl), H', ⟨by have := HK1.out; have := HJ5.out; omega⟩, ⟨by exact BK141.out⟩, ⟨by exact BK142.out⟩, ⟨by repeat (with_reducible exact HB.out)⟩⟩
     ·have HC31 := Aside0.mk H
      clear H
      go_upto_region 20 with (fail)
      go_cut [70] (fun v70 wc => ∃ (kq : Nat) (x70_30 : Bool), v70 = .bool x70_30 ∧ Aside0 (maskref1_NoteRead.j2 kq a0 x6_1 x70_30 x143000_1 x143001_1 x143002_1 0 (⟨#[]⟩ : ByteArray) = some (r1, r2, r3, r4, r5, r6)) ∧ Aside0 (kq ≤ kj5) ∧ Aside0 (wc.heap[gb141]? = some (.cells #[.string x142000_1, .int .i64 x142001_1, .int .i64 x142002_1, .int .i64 x142003_1, .string x142004_1] 24 (0, 0))) ∧ Aside0 (wc.heap[gb142]? = some (.cells #[.string x143000_1, .int .i64 x143001_1, .int .i64 x143002_1, .int .i64 0, .string (⟨#[]⟩ : ByteArray)] 24 (0, 0))) ∧ Aside0 (Below w.heap.size w wc))
      case first =>
       have H := HC31.out
       clear HC31
       replace H := iD H; rcases H with ⟨c32b0, H⟩ | ⟨c32b0, H⟩
       ·(skip)
        have H' := Aside0.mk H
        clear H
        go_wp2
        go_meet
        case rel => exact ⟨_, (true), (by rfl), H', ⟨by have := HK1.out; have := HJ5.out; omega⟩, ⟨by exact BK141.out⟩, ⟨by exact BK142.out⟩, ⟨by repeat (with_reducible exact HB.out)⟩⟩
       ·(skip)
        replace H := iD H; rcases H with ⟨c33b0, H⟩ | ⟨c33b0, H⟩
        ·replace c33b0 : decide ((a0.size : Int) ≤ x6_1) = true := c33b0
         have H' := Aside0.mk H
         clear H
         go_wp2
         go_meet
         case rel => exact ⟨_, (true), (by rfl), H', ⟨by have := HK1.out; have := HJ5.out; omega⟩, ⟨by exact BK141.out⟩, ⟨by exact BK142.out⟩, ⟨by repeat (with_reducible exact HB.out)⟩⟩
        ·replace c33b0 : decide ((a0.size : Int) ≤ x6_1) = false := c33b0
         replace H := iN H; obtain ⟨c34b0, H⟩ := H
         replace H := iN H; obtain ⟨c35b0, H⟩ := H
         have H' := Aside0.mk H
         clear H
         have p36 : 0 ≤ (x6_1 : Int) := of_decide_eq_true (by (with_reducible assumption))
         have q36 : x6_1 < (a0.size : Int) := of_decide_eq_true (by (with_reducible assumption))
         have hx36 := bt_at a0 x6_1
         replace p36 := eq_true p36
         replace q36 := eq_true q36
         go_wp2
         go_meet
         case rel => exact ⟨_, ((bt a0 x6_1) != 32), (by rfl), H', ⟨by have := HK1.out; have := HJ5.out; omega⟩, ⟨by exact BK141.out⟩, ⟨by exact BK142.out⟩, ⟨by repeat (with_reducible exact HB.out)⟩⟩
      case rest =>
       clear HC31
       obtain ⟨kq, x70_30, rfl, HA, HJ30, BK141, BK142, HB⟩ := hcut
       cases kq with
       | zero => exact absurd HA.out (by simp [maskref1_NoteRead.j2])
       | succ kj30 =>
        have H := HA.out
        clear HA
        simp only [maskref1_NoteRead.j2] at H
        replace H := iB H; rcases H with ⟨rfl, H⟩ | ⟨rfl, H⟩
        ·simp only [Option.some.injEq, Prod.mk.injEq] at H
         obtain ⟨rfl, rfl, rfl, rfl, rfl, rfl⟩ := H
         have hnb38 := NB141_142.out
         have hnc38 := NB142_141.out
         obtain ⟨hcz39_0, hcz39_1, hcz39_2, hcz39_3, hcz39_4, hfz39_0, hfz39_1, hfz39_2, hfz39_3, hfz39_4⟩ := cf5 BK141
         go_wp2
         refine bodyPost_ret (results_ct rfl _ _ gb141 24 #[.string (⟨#[]⟩ : ByteArray), .int .i64 0, .int .i64 0, .int .i64 0, .string (⟨#[]⟩ : ByteArray)] (0, 0) _ rfl (by refine blk_put (cs := #[.string (⟨#[]⟩ : ByteArray), .int .i64 0, .int .i64 0, .int .i64 0, .string x142004_1]) ?_ 4 _ rfl; refine blk_put (cs := #[.string (⟨#[]⟩ : ByteArray), .int .i64 0, .int .i64 0, .int .i64 x142003_1, .string x142004_1]) ?_ 3 _ rfl; refine blk_put (cs := #[.string (⟨#[]⟩ : ByteArray), .int .i64 0, .int .i64 x142002_1, .int .i64 x142003_1, .string x142004_1]) ?_ 2 _ rfl; refine blk_put (cs := #[.string (⟨#[]⟩ : ByteArray), .int .i64 x142001_1, .int .i64 x142002_1, .int .i64 x142003_1, .string x142004_1]) ?_ 1 _ rfl; refine blk_put (cs := #[.string x142000_1, .int .i64 x142001_1, .int .i64 x142002_1, .int .i64 x142003_1, .string x142004_1]) ?_ 0 _ rfl; exact BK141.out) Tryd.underlying24 rfl (by kernel_rfl)) rfl ?_
         exact ⟨by rfl, by repeat (with_reducible first | exact HB.out | refine below_set ?_ GE141.out)⟩
        ·obtain ⟨ji40, hji40⟩ : ∃ j_ : Int, (wrap64 (x6_1 + 1)) = j_ := ⟨_, rfl⟩
         replace H : (if 0 ≤ (ji40) then (if (ji40) ≤ (a0.size : Int) then (maskref1_NoteRead.l1 kj30 (a0.extract ((ji40) : Int).toNat a0.size) 0 x143000_1 x143001_1 x143002_1 0 (⟨#[]⟩ : ByteArray)) else (none)) else (none)) = some (r1, r2, r3, r4, r5, r6) := by (rw [hji40] at H; exact H)
         have hji40w : (IntKind.i64.wrap (x6_1 + 1)) = ji40 := (i64_w _).trans hji40
         obtain ⟨jx40, hjx40⟩ : ∃ j_ : ByteArray, a0.extract (ji40 : Int).toNat a0.size = j_ := ⟨_, rfl⟩
         rw [hjx40] at H
         by_cases c41 : 0 ≤ (ji40)
         ·rw [if_pos c41] at H
          have c41b0 := eq_true c41
          have c41b1 : decide (0 ≤ (ji40)) = true := decide_eq_true c41
          clear c41
          by_cases c42 : (ji40) ≤ (a0.size : Int)
          ·rw [if_pos c42] at H
           have c42b0 := eq_true c42
           have c42b1 : decide ((ji40) ≤ (a0.size : Int)) = true := decide_eq_true c42
           clear c42
           have HC43 := Aside0.mk H
           clear H
           go_upto_block 3 with (fail)
           go_cut [12] (fun v12 wc => ∃ (kq : Nat) (x12_42 : Int), v12 = .int .i64 x12_42 ∧ Aside0 (maskref1_NoteRead.j4 kq jx40 x12_42 x143000_1 x143001_1 x143002_1 0 (⟨#[]⟩ : ByteArray) = some (r1, r2, r3, r4, r5, r6)) ∧ Aside0 (kq ≤ kj30) ∧ Aside0 (wc.heap[gb141]? = some (.cells #[.string x142000_1, .int .i64 x142001_1, .int .i64 x142002_1, .int .i64 x142003_1, .string x142004_1] 24 (0, 0))) ∧ Aside0 (wc.heap[gb142]? = some (.cells #[.string x143000_1, .int .i64 x143001_1, .int .i64 x143002_1, .int .i64 0, .string (⟨#[]⟩ : ByteArray)] 24 (0, 0))) ∧ Aside0 (Below w.heap.size w wc))
           case first =>
            have H := HC43.out
            clear HC43
            have H' := Aside0.mk H
            clear H
            go_wp2
            go_loopg [12] kj30 (fun kq v12 w' => ∃ (x12_4 : Int), v12 = .int .i64 x12_4 ∧ Aside0 (maskref1_NoteRead.l1 kq jx40 x12_4 x143000_1 x143001_1 x143002_1 0 (⟨#[]⟩ : ByteArray) = some (r1, r2, r3, r4, r5, r6)) ∧ Aside0 (kq ≤ kj30) ∧ Aside0 (w'.heap[gb141]? = some (.cells #[.string x142000_1, .int .i64 x142001_1, .int .i64 x142002_1, .int .i64 x142003_1, .string x142004_1] 24 (0, 0))) ∧ Aside0 (w'.heap[gb142]? = some (.cells #[.string x143000_1, .int .i64 x143001_1, .int .i64 x143002_1, .int .i64 0, .string (⟨#[]⟩ : ByteArray)] 24 (0, 0))) ∧ Aside0 (Below w.heap.size w w'))
            case atStart => exact ⟨(0), (by rfl), H', ⟨Nat.le_refl _⟩, ⟨by exact BK141.out⟩, ⟨by exact BK142.out⟩, ⟨by repeat (with_reducible exact HB.out)⟩⟩
            case round =>
             clear H'
             (try clear c41b0); (try clear c41b1); (try clear c42b0); (try clear c42b1)
             obtain ⟨x12_4, rfl, HA, HK4, BK141, BK142, HB⟩ := hrel
             cases gk with
             | zero => exact absurd HA.out (by simp [maskref1_NoteRead.l1])
             | succ k4 =>
              have H := HA.out
              clear HA
              simp only [maskref1_NoteRead.l1] at H
              replace H := iD H; rcases H with ⟨c44b0, H⟩ | ⟨c44b0, H⟩
              ·(skip)
               replace H := iN H; obtain ⟨c45b0, H⟩ := H
               replace H := iE H; rcases H with ⟨c47b0, c47b1, H⟩ | ⟨c47, c47b0, c47b1, H⟩
               ·have H' := Aside0.mk H
                clear H
                have p46 : 0 ≤ (x12_4 : Int) := of_decide_eq_true (by (with_reducible assumption))
                have q46 : x12_4 < (jx40.size : Int) := of_decide_eq_true (by (with_reducible assumption))
                have hx46 := bt_at jx40 x12_4
                replace p46 := eq_true p46
                replace q46 := eq_true q46
                go_wp2
                go_meet
                case rel => exact ⟨_, (x12_4), (by rfl), H', ⟨by have := HK1.out; have := HJ5.out; have := HJ30.out; have := HK4.out; omega⟩, ⟨by exact BK141.out⟩, ⟨by exact BK142.out⟩, ⟨by repeat (with_reducible exact HB.out)⟩⟩
               ·have H' := Aside0.mk H
                clear H
                have p46 : 0 ≤ (x12_4 : Int) := of_decide_eq_true (by (with_reducible assumption))
                have q46 : x12_4 < (jx40.size : Int) := of_decide_eq_true (by (with_reducible assumption))
                have hx46 := bt_at jx40 x12_4
                replace p46 := eq_true p46
                replace q46 := eq_true q46
                go_wp2
                go_roundg k4
                case measure => have := HK1.out; have := HJ5.out; have := HJ30.out; have := HK4.out; omega
                case rel => exact ⟨(wrap64 (x12_4 + 1)), (by rfl), H', ⟨by have := HK1.out; have := HJ5.out; have := HJ30.out; have := HK4.out; omega⟩, ⟨by exact BK141.out⟩, ⟨by exact BK142.out⟩, ⟨by repeat (with_reducible exact HB.out)⟩⟩
              ·(skip)
               have H' := Aside0.mk H
               clear H
               go_wp2
               go_meet
               case rel => exact ⟨_, (x12_4), (by rfl), H', ⟨by have := HK1.out; have := HJ5.out; have := HJ30.out; have := HK4.out; omega⟩, ⟨by exact BK141.out⟩, ⟨by exact BK142.out⟩, ⟨by repeat (with_reducible exact HB.out)⟩⟩
           case rest =>
            clear HC43
            (try clear c41b0); (try clear c41b1); (try clear c42b0); (try clear c42b1)
            obtain ⟨kq, x12_42, rfl, HA, HJ42, BK141, BK142, HB⟩ := hcut
            cases kq with
            | zero => exact absurd HA.out (by simp [maskref1_NoteRead.j4])
            | succ kj42 =>
             have H := HA.out
             clear HA
             simp only [maskref1_NoteRead.j4] at H
             have HC48 := Aside0.mk H
             clear H
             go_upto_if 91 with (fail)
             go_cut [] (fun wc => ∃ (kq : Nat) (x142000_47 : ByteArray) (x142001_47 : Int) (x142002_47 : Int) (x142003_47 : Int) (x142004_47 : ByteArray) (x143004_47 : ByteArray), Aside0 (maskref1_NoteRead.j5 kq jx40 x12_42 x143000_1 x143001_1 x143002_1 0 x143004_47 = some (r1, r2, r3, r4, r5, r6)) ∧ Aside0 (kq ≤ kj42) ∧ Aside0 (wc.heap[gb141]? = some (.cells #[.string x142000_47, .int .i64 x142001_47, .int .i64 x142002_47, .int .i64 x142003_47, .string x142004_47] 24 (0, 0))) ∧ Aside0 (wc.heap[gb142]? = some (.cells #[.string x143000_1, .int .i64 x143001_1, .int .i64 x143002_1, .int .i64 0, .string x143004_47] 24 (0, 0))) ∧ Aside0 (Below w.heap.size w wc))
             case first =>
              have H := HC48.out
              clear HC48
              replace H := iD H; rcases H with ⟨c49b0, H⟩ | ⟨c49b0, H⟩
              ·(rw [c49b0])
               obtain ⟨ji50, hji50⟩ : ∃ j_ : Int, (wrap64 (x12_42 + 1)) = j_ := ⟨_, rfl⟩
               replace H : (if 0 ≤ (ji50) then (if (ji50) ≤ (jx40.size : Int) then (if (jx40.extract ((ji50) : Int).toNat jx40.size).toList = ([] : List UInt8) then (some ((⟨#[]⟩ : ByteArray), 0, 0, 0, (⟨#[]⟩ : ByteArray), 10)) else (maskref1_NoteRead.j5 kj42 jx40 x12_42 x143000_1 x143001_1 x143002_1 0 (jx40.extract ((ji50) : Int).toNat jx40.size))) else (none)) else (none)) = some (r1, r2, r3, r4, r5, r6) := by (rw [hji50] at H; exact H)
               have hji50w : (IntKind.i64.wrap (x12_42 + 1)) = ji50 := (i64_w _).trans hji50
               by_cases c51 : 0 ≤ (ji50)
               ·rw [if_pos c51] at H
                have c51b0 := eq_true c51
                have c51b1 : decide (0 ≤ (ji50)) = true := decide_eq_true c51
                clear c51
                by_cases c52 : (ji50) ≤ (jx40.size : Int)
                ·rw [if_pos c52] at H
                 have c52b0 := eq_true c52
                 have c52b1 : decide ((ji50) ≤ (jx40.size : Int)) = true := decide_eq_true c52
                 clear c52
                 replace H := iE H; rcases H with ⟨c53b0, c53b1, H⟩ | ⟨c53, c53b0, c53b1, H⟩
                 ·simp only [Option.some.injEq, Prod.mk.injEq] at H
                  obtain ⟨rfl, rfl, rfl, rfl, rfl, rfl⟩ := H
                  have hnb54 := NB142_141.out
                  have hnc54 := NB141_142.out
                  obtain ⟨hcz55_0, hcz55_1, hcz55_2, hcz55_3, hcz55_4, hfz55_0, hfz55_1, hfz55_2, hfz55_3, hfz55_4⟩ := cf5 BK142
                  obtain ⟨hcz56_0, hcz56_1, hcz56_2, hcz56_3, hcz56_4, hfz56_0, hfz56_1, hfz56_2, hfz56_3, hfz56_4⟩ := cf5 BK141
                  go_wp2
                  refine bodyPost_ret (results_ct rfl _ _ gb141 24 #[.string (⟨#[]⟩ : ByteArray), .int .i64 0, .int .i64 0, .int .i64 0, .string (⟨#[]⟩ : ByteArray)] (0, 0) _ rfl (by refine blk_put (cs := #[.string (⟨#[]⟩ : ByteArray), .int .i64 0, .int .i64 0, .int .i64 0, .string x142004_1]) ?_ 4 _ rfl; refine blk_put (cs := #[.string (⟨#[]⟩ : ByteArray), .int .i64 0, .int .i64 0, .int .i64 x142003_1, .string x142004_1]) ?_ 3 _ rfl; refine blk_put (cs := #[.string (⟨#[]⟩ : ByteArray), .int .i64 0, .int .i64 x142002_1, .int .i64 x142003_1, .string x142004_1]) ?_ 2 _ rfl; refine blk_put (cs := #[.string (⟨#[]⟩ : ByteArray), .int .i64 x142001_1, .int .i64 x142002_1, .int .i64 x142003_1, .string x142004_1]) ?_ 1 _ rfl; refine blk_put (cs := #[.string x142000_1, .int .i64 x142001_1, .int .i64 x142002_1, .int .i64 x142003_1, .string x142004_1]) ?_ 0 _ rfl; refine blk_far ?_ NB141_142.out _; exact BK141.out) Tryd.underlying24 rfl (by kernel_rfl)) rfl ?_
                  exact ⟨by rfl, by repeat (with_reducible first | exact HB.out | refine below_set ?_ GE141.out | refine below_set ?_ GE142.out)⟩
                 ·have H' := Aside0.mk H
                  clear H
                  have hnb57 := NB142_141.out
                  have hnc57 := NB141_142.out
                  obtain ⟨hcz58_0, hcz58_1, hcz58_2, hcz58_3, hcz58_4, hfz58_0, hfz58_1, hfz58_2, hfz58_3, hfz58_4⟩ := cf5 BK142
                  go_wp2
                  go_meet
                  case rel => exact ⟨_, (x142000_1), (x142001_1), (x142002_1), (x142003_1), (x142004_1), (jx40.extract ((ji50) : Int).toNat jx40.size), H', ⟨by have := HK1.out; have := HJ5.out; have := HJ30.out; have := HJ42.out; omega⟩, ⟨by refine blk_far ?_ NB141_142.out _; exact BK141.out⟩, ⟨by refine blk_put (cs := #[.string x143000_1, .int .i64 x143001_1, .int .i64 x143002_1, .int .i64 0, .string (⟨#[]⟩ : ByteArray)]) ?_ 4 _ rfl; exact BK142.out⟩, ⟨by repeat (with_reducible first | exact HB.out | refine below_set ?_ GE142.out)⟩⟩
                ·rw [if_neg c52] at H
                 exact absurd H (by simp)
               ·rw [if_neg c51] at H
                exact absurd H (by simp)
              ·(rw [c49b0])
               have H' := Aside0.mk H
               clear H
               go_wp2
               go_meet
               case rel => exact ⟨_, (x142000_1), (x142001_1), (x142002_1), (x142003_1), (x142004_1), (⟨#[]⟩ : ByteArray), H', ⟨by have := HK1.out; have := HJ5.out; have := HJ30.out; have := HJ42.out; omega⟩, ⟨by exact BK141.out⟩, ⟨by exact BK142.out⟩, ⟨by repeat (with_reducible exact HB.out)⟩⟩
             case rest =>
              clear HC48
              obtain ⟨kq, x142000_47, x142001_47, x142002_47, x142003_47, x142004_47, x143004_47, HA, HJ47, BK141, BK142, HB⟩ := hcut
              cases kq with
              | zero => exact absurd HA.out (by simp [maskref1_NoteRead.j5])
              | succ kj47 =>
               have H := HA.out
               clear HA
               simp only [maskref1_NoteRead.j5] at H
               have H' := Aside0.mk H
               clear H
               go_wp2
               go_loopg [13] kj47 (fun kq v13 w' => ∃ (x13_6 : Int) (x143003_6 : Int), v13 = .int .i64 x13_6 ∧ Aside0 (maskref1_NoteRead.l2 kq jx40 x12_42 x13_6 x143000_1 x143001_1 x143002_1 x143003_6 x143004_47 = some (r1, r2, r3, r4, r5, r6)) ∧ Aside0 (kq ≤ kj47) ∧ Aside0 (w'.heap[gb141]? = some (.cells #[.string x142000_47, .int .i64 x142001_47, .int .i64 x142002_47, .int .i64 x142003_47, .string x142004_47] 24 (0, 0))) ∧ Aside0 (w'.heap[gb142]? = some (.cells #[.string x143000_1, .int .i64 x143001_1, .int .i64 x143002_1, .int .i64 x143003_6, .string x143004_47] 24 (0, 0))) ∧ Aside0 (Below w.heap.size w w'))
               case atStart => exact ⟨(1), (0), (by rfl), H', ⟨Nat.le_refl _⟩, ⟨by exact BK141.out⟩, ⟨by exact BK142.out⟩, ⟨by repeat (with_reducible exact HB.out)⟩⟩
               case round =>
                clear H'
                obtain ⟨x13_6, x143003_6, rfl, HA, HK6, BK141, BK142, HB⟩ := hrel
                cases gk with
                | zero => exact absurd HA.out (by simp [maskref1_NoteRead.l2])
                | succ k6 =>
                 have H := HA.out
                 clear HA
                 simp only [maskref1_NoteRead.l2] at H
                 replace H := iD H; rcases H with ⟨c59b0, H⟩ | ⟨c59b0, H⟩
                 ·replace H := bN H; obtain ⟨t145, A60, H⟩ := H
                  by_cases c61 : 0 ≤ x12_42
                  ·rw [if_pos c61] at H
                   have c61b0 := eq_true c61
                   have c61b1 : decide (0 ≤ x12_42) = true := decide_eq_true c61
                   clear c61
                   by_cases c62 : x12_42 ≤ (jx40.size : Int)
                   ·rw [if_pos c62] at H
                    have c62b0 := eq_true c62
                    have c62b1 : decide (x12_42 ≤ (jx40.size : Int)) = true := decide_eq_true c62
                    clear c62
                    replace H := iE H; rcases H with ⟨c63b0, c63b1, H⟩ | ⟨c63, c63b0, c63b1, H⟩
                    ·have H' := Aside0.mk H
                     clear H
                     go_wp2
                     repeat (go_quiet ((go_at_call 14; (with_reducible refine (maskref1_NoteWord.calls k6 x13_6 t145 _ A60.out).mono ?_); rintro e w' ⟨rfl, ⟨nd, rfl⟩⟩; (try exact ⟨rfl, _, World.drewN_drewN _ _ _⟩); have hnb64 := NB142_141.out; have hnc64 := NB141_142.out; obtain ⟨hcz65_0, hcz65_1, hcz65_2, hcz65_3, hcz65_4, hfz65_0, hfz65_1, hfz65_2, hfz65_3, hfz65_4⟩ := cf5 BK142)); try go_wp2)
                     go_roundg k6
                     case measure => have := HK1.out; have := HJ5.out; have := HJ30.out; have := HJ42.out; have := HJ47.out; have := HK6.out; omega
                     case rel => exact ⟨(wrap64 (x13_6 + 1)), (x13_6), (by rfl), H', ⟨by have := HK1.out; have := HJ5.out; have := HJ30.out; have := HJ42.out; have := HJ47.out; have := HK6.out; omega⟩, ⟨by refine blk_far ?_ NB141_142.out _; (with_reducible repeat (refine blk_drewN ?_ _)); exact BK141.out⟩, ⟨by refine blk_put (cs := #[.string x143000_1, .int .i64 x143001_1, .int .i64 x143002_1, .int .i64 x143003_6, .string x143004_47]) ?_ 3 _ rfl; (with_reducible repeat (refine blk_drewN ?_ _)); exact BK142.out⟩, ⟨by repeat (with_reducible first | exact HB.out | apply pw_below_drewN | refine below_set ?_ GE142.out)⟩⟩
                    ·have H' := Aside0.mk H
                     clear H
                     go_wp2
                     repeat (go_quiet ((go_at_call 14; (with_reducible refine (maskref1_NoteWord.calls k6 x13_6 t145 _ A60.out).mono ?_); rintro e w' ⟨rfl, ⟨nd, rfl⟩⟩; (try exact ⟨rfl, _, World.drewN_drewN _ _ _⟩))); try go_wp2)
                     go_roundg k6
                     case measure => have := HK1.out; have := HJ5.out; have := HJ30.out; have := HJ42.out; have := HJ47.out; have := HK6.out; omega
                     case rel => exact ⟨(wrap64 (x13_6 + 1)), (x143003_6), (by rfl), H', ⟨by have := HK1.out; have := HJ5.out; have := HJ30.out; have := HJ42.out; have := HJ47.out; have := HK6.out; omega⟩, ⟨by (with_reducible repeat (refine blk_drewN ?_ _)); exact BK141.out⟩, ⟨by (with_reducible repeat (refine blk_drewN ?_ _)); exact BK142.out⟩, ⟨by repeat (with_reducible first | exact HB.out | apply pw_below_drewN)⟩⟩
                   ·rw [if_neg c62] at H
                    exact absurd H (by simp)
                  ·rw [if_neg c61] at H
                   exact absurd H (by simp)
                 ·replace H := iE H; rcases H with ⟨c66b0, c66b1, H⟩ | ⟨c66, c66b0, c66b1, H⟩
                  ·simp only [Option.some.injEq, Prod.mk.injEq] at H
                   obtain ⟨rfl, rfl, rfl, rfl, rfl, rfl⟩ := H
                   have hnb67 := NB142_141.out
                   have hnc67 := NB141_142.out
                   obtain ⟨hcz68_0, hcz68_1, hcz68_2, hcz68_3, hcz68_4, hfz68_0, hfz68_1, hfz68_2, hfz68_3, hfz68_4⟩ := cf5 BK142
                   obtain ⟨hcz69_0, hcz69_1, hcz69_2, hcz69_3, hcz69_4, hfz69_0, hfz69_1, hfz69_2, hfz69_3, hfz69_4⟩ := cf5 BK141
                   go_wp2
                   refine bodyPost_ret (results_ct rfl _ _ gb141 24 #[.string (⟨#[]⟩ : ByteArray), .int .i64 0, .int .i64 0, .int .i64 0, .string (⟨#[]⟩ : ByteArray)] (0, 0) _ rfl (by refine blk_put (cs := #[.string (⟨#[]⟩ : ByteArray), .int .i64 0, .int .i64 0, .int .i64 0, .string x142004_47]) ?_ 4 _ rfl; refine blk_put (cs := #[.string (⟨#[]⟩ : ByteArray), .int .i64 0, .int .i64 0, .int .i64 x142003_47, .string x142004_47]) ?_ 3 _ rfl; refine blk_put (cs := #[.string (⟨#[]⟩ : ByteArray), .int .i64 0, .int .i64 x142002_47, .int .i64 x142003_47, .string x142004_47]) ?_ 2 _ rfl; refine blk_put (cs := #[.string (⟨#[]⟩ : ByteArray), .int .i64 x142001_47, .int .i64 x142002_47, .int .i64 x142003_47, .string x142004_47]) ?_ 1 _ rfl; refine blk_put (cs := #[.string x142000_47, .int .i64 x142001_47, .int .i64 x142002_47, .int .i64 x142003_47, .string x142004_47]) ?_ 0 _ rfl; exact BK141.out) Tryd.underlying24 rfl (by kernel_rfl)) rfl ?_
                   exact ⟨by rfl, by repeat (with_reducible first | exact HB.out | refine below_set ?_ GE141.out)⟩
                  ·replace H := bN H; obtain ⟨t146, A70, H⟩ := H
                   replace H := iE H; rcases H with ⟨c71b0, c71b1, H⟩ | ⟨c71, c71b0, c71b1, H⟩
                   ·simp only [Option.some.injEq, Prod.mk.injEq] at H
                    obtain ⟨rfl, rfl, rfl, rfl, rfl, rfl⟩ := H
                    have hnb72 := NB142_141.out
                    have hnc72 := NB141_142.out
                    obtain ⟨hcz73_0, hcz73_1, hcz73_2, hcz73_3, hcz73_4, hfz73_0, hfz73_1, hfz73_2, hfz73_3, hfz73_4⟩ := cf5 BK142
                    go_wp2_with ((go_at_call 8; (with_reducible refine (maskref1_NoteFault.calls k6 x143000_1 x143001_1 x143002_1 x143003_6 x143004_47 t146 _ A70.out).mono ?_); rintro e w74 ⟨rfl, hb⟩; replace BK141 := bk1 BK141 hb; replace BK142 := bk1 BK142 hb; replace HB := hb1 HB hb; (try clear hb); obtain ⟨hcz75_0, hcz75_1, hcz75_2, hcz75_3, hcz75_4, hfz75_0, hfz75_1, hfz75_2, hfz75_3, hfz75_4⟩ := cf5 BK142; obtain ⟨hcz76_0, hcz76_1, hcz76_2, hcz76_3, hcz76_4, hfz76_0, hfz76_1, hfz76_2, hfz76_3, hfz76_4⟩ := cf5 BK141))
                    refine bodyPost_ret (results_ct rfl _ _ gb141 24 #[.string x143000_1, .int .i64 x143001_1, .int .i64 x143002_1, .int .i64 x143003_6, .string x143004_47] (0, 0) _ rfl (by refine blk_put (cs := #[.string x143000_1, .int .i64 x143001_1, .int .i64 x143002_1, .int .i64 x143003_6, .string x142004_47]) ?_ 4 _ rfl; refine blk_put (cs := #[.string x143000_1, .int .i64 x143001_1, .int .i64 x143002_1, .int .i64 x142003_47, .string x142004_47]) ?_ 3 _ rfl; refine blk_put (cs := #[.string x143000_1, .int .i64 x143001_1, .int .i64 x142002_47, .int .i64 x142003_47, .string x142004_47]) ?_ 2 _ rfl; refine blk_put (cs := #[.string x143000_1, .int .i64 x142001_47, .int .i64 x142002_47, .int .i64 x142003_47, .string x142004_47]) ?_ 1 _ rfl; refine blk_put (cs := #[.string x142000_47, .int .i64 x142001_47, .int .i64 x142002_47, .int .i64 x142003_47, .string x142004_47]) ?_ 0 _ rfl; exact BK141.out) Tryd.underlying24 rfl (by kernel_rfl)) rfl ?_
                    exact ⟨by rfl, by repeat (with_reducible first | exact HB.out | refine below_set ?_ GE141.out)⟩
                   ·simp only [Option.some.injEq, Prod.mk.injEq] at H
                    obtain ⟨rfl, rfl, rfl, rfl, rfl, rfl⟩ := H
                    have hnb77 := NB142_141.out
                    have hnc77 := NB141_142.out
                    obtain ⟨hcz78_0, hcz78_1, hcz78_2, hcz78_3, hcz78_4, hfz78_0, hfz78_1, hfz78_2, hfz78_3, hfz78_4⟩ := cf5 BK142
                    go_wp2_with ((go_at_call 8; (with_reducible refine (maskref1_NoteFault.calls k6 x143000_1 x143001_1 x143002_1 x143003_6 x143004_47 t146 _ A70.out).mono ?_); rintro e w79 ⟨rfl, hb⟩; replace BK141 := bk1 BK141 hb; replace BK142 := bk1 BK142 hb; replace HB := hb1 HB hb; (try clear hb); obtain ⟨hcz80_0, hcz80_1, hcz80_2, hcz80_3, hcz80_4, hfz80_0, hfz80_1, hfz80_2, hfz80_3, hfz80_4⟩ := cf5 BK141))
                    refine bodyPost_ret (results_ct rfl _ _ gb141 24 #[.string (⟨#[]⟩ : ByteArray), .int .i64 0, .int .i64 0, .int .i64 0, .string (⟨#[]⟩ : ByteArray)] (0, 0) _ rfl (by refine blk_put (cs := #[.string (⟨#[]⟩ : ByteArray), .int .i64 0, .int .i64 0, .int .i64 0, .string x142004_47]) ?_ 4 _ rfl; refine blk_put (cs := #[.string (⟨#[]⟩ : ByteArray), .int .i64 0, .int .i64 0, .int .i64 x142003_47, .string x142004_47]) ?_ 3 _ rfl; refine blk_put (cs := #[.string (⟨#[]⟩ : ByteArray), .int .i64 0, .int .i64 x142002_47, .int .i64 x142003_47, .string x142004_47]) ?_ 2 _ rfl; refine blk_put (cs := #[.string (⟨#[]⟩ : ByteArray), .int .i64 x142001_47, .int .i64 x142002_47, .int .i64 x142003_47, .string x142004_47]) ?_ 1 _ rfl; refine blk_put (cs := #[.string x142000_47, .int .i64 x142001_47, .int .i64 x142002_47, .int .i64 x142003_47, .string x142004_47]) ?_ 0 _ rfl; exact BK141.out) Tryd.underlying24 rfl (by kernel_rfl)) rfl ?_
                    exact ⟨by rfl, by repeat (with_reducible first | exact HB.out | refine below_set ?_ GE141.out)⟩
          ·rw [if_neg c42] at H
           exact absurd H (by simp)
         ·rw [if_neg c41] at H
          exact absurd H (by simp)
end Go.Proofs.YtlamgdibnnmbmaaDoor.PRead
end
section
namespace Go.Proofs.YtlamgdibnnmbmaaDoor.PRead
open Go.RowKit Go.Proofs.YtlamgdibnnmbmaaDoorW.PrintWords Go.Proofs.YtlamgdibnnmbmaaDoorW.PrintLast Go.Proofs.YtlamgdibnnmbmaaDoorW.PrintMore
attribute [local go_sem] max2_int min2_int max_two min_two max_three min_three max_four min_four
set_option linter.unusedVariables false
set_option linter.unusedSimpArgs false
attribute [local go_sem high] eqA24
def masklaw1_NoteReads.j0 : Nat → ByteArray → Bool → Option (Bool)
 | 0, _, _ => none
 | k + 1, x0, x13 => if x13 = true then ((masklaw1_told.f k).bind fun t148 => (some t148)) else ((note_Read.f k x0).bind fun bt149 => ((maskref1_NoteRead.f k x0).bind fun bt156 => (if (bt149.1.toList == bt156.1.toList && (bt149.2.1 == bt156.2.1 && (bt149.2.2.1 == bt156.2.2.1 && (bt149.2.2.2.1 == bt156.2.2.2.1 && (bt149.2.2.2.2.1.toList == bt156.2.2.2.2.1.toList))))) = true then (some (bt149.2.2.2.2.2 == bt156.2.2.2.2.2)) else (some false))))
def masklaw1_NoteReads.f (k : Nat) (a0 : ByteArray) : Option (Bool) := (masklaw1_told.f k).bind fun t147 => (if t147 = true then (masklaw1_NoteReads.j0 k a0 (decide ((a0.size : Int) > 1000))) else (masklaw1_NoteReads.j0 k a0 true))
set_option maxHeartbeats 8000000 in
set_option maxRecDepth 100000 in
theorem masklaw1_NoteReads.calls (k : Nat) (a0 : ByteArray) (r : Bool) (w : World) (h : masklaw1_NoteReads.f k a0 = some r) (hG : Glob w) :
  Calls Tryd.prog 7 #[.string a0] w fun e w' => e = .returned (.bool r) ∧ Below w.heap.size w w' := by
 have HG := Aside0.mk hG
 clear hG
 have hu24 := Tryd.underlying24
 have HB := Aside0.mk (Below.refl w.heap.size w)
 have H := h
 clear h
 unfold masklaw1_NoteReads.f at H
 have HC2 := Aside0.mk H
 clear H
 go_enter Tryd.func7, Tryd.ntmps7
 go_upto_region 1 with (fail)
 go_cut [13] (fun v13 wc => ∃ (kq : Nat) (x13_1 : Bool), v13 = .bool x13_1 ∧ Aside0 (masklaw1_NoteReads.j0 kq a0 x13_1 = some r) ∧ Aside0 (kq ≤ k) ∧ Aside0 (Below w.heap.size w wc))
 case first =>
  have H := HC2.out
  clear HC2
  replace H := bN H; obtain ⟨t147, A3, H⟩ := H
  replace H := iB H; rcases H with ⟨rfl, H⟩ | ⟨rfl, H⟩
  ·have H' := Aside0.mk H
   clear H
   go_wp2_with (((with_reducible refine gate_callee (f := 10) rfl ?_); refine goesL_ (some 7) rfl rfl Tryd.func10 (by kernel_rfl) rfl #[] rfl (by (try simp only [List.map_toArray, List.map_cons, List.map_nil]); done) ?_; (with_reducible refine (masklaw1_told.calls k  true _ A3.out).mono ?_); rintro e w5 ⟨rfl, hb⟩; refine ⟨_, rfl, ?_⟩; replace HB := hb1 HB hb; (try clear hb)))
   go_meet
   case rel => exact ⟨_, (decide ((a0.size : Int) > 1000)), (by rfl), H', ⟨by omega⟩, ⟨by repeat (with_reducible exact HB.out)⟩⟩
  ·have H' := Aside0.mk H
   clear H
   go_wp2_with (((with_reducible refine gate_callee (f := 10) rfl ?_); refine goesL_ (some 7) rfl rfl Tryd.func10 (by kernel_rfl) rfl #[] rfl (by (try simp only [List.map_toArray, List.map_cons, List.map_nil]); done) ?_; (with_reducible refine (masklaw1_told.calls k  false _ A3.out).mono ?_); rintro e w6 ⟨rfl, hb⟩; refine ⟨_, rfl, ?_⟩; replace HB := hb1 HB hb; (try clear hb)))
   go_meet
   case rel => exact ⟨_, (true), (by rfl), H', ⟨by omega⟩, ⟨by repeat (with_reducible exact HB.out)⟩⟩
 case rest =>
  clear HC2
  obtain ⟨kq, x13_1, rfl, HA, HJ1, HB⟩ := hcut
  cases kq with
  | zero => exact absurd HA.out (by simp [masklaw1_NoteReads.j0])
  | succ kj1 =>
   have H := HA.out
   clear HA
   simp only [masklaw1_NoteReads.j0] at H
   replace H := iB H; rcases H with ⟨rfl, H⟩ | ⟨rfl, H⟩
   ·replace H := bN H; obtain ⟨t148, A8, H⟩ := H
    obtain rfl := Option.some.inj H
    go_wp2_with (((with_reducible refine gate_callee (f := 10) rfl ?_); refine goesL_ (some 14) rfl rfl Tryd.func10 (by kernel_rfl) rfl #[] rfl (by (try simp only [List.map_toArray, List.map_cons, List.map_nil]); done) ?_; (with_reducible refine (masklaw1_told.calls kj1  t148 _ A8.out).mono ?_); rintro e w9 ⟨rfl, hb⟩; refine ⟨_, rfl, ?_⟩; replace HB := hb1 HB hb; (try clear hb)))
    go_ret
    exact ⟨by rfl, by repeat (with_reducible exact HB.out)⟩
   ·replace H := bN H; obtain ⟨⟨t149, t150, t151, t152, t153, t154⟩, A10, H⟩ := H; dsimp only at H
    replace H := bN H; obtain ⟨⟨t156, t157, t158, t159, t160, t161⟩, A11, H⟩ := H; dsimp only at H
    by_cases c12 : (t149.toList == t156.toList && (t150 == t157 && (t151 == t158 && (t152 == t159 && (t153.toList == t160.toList))))) = true
    ·rw [if_pos c12] at H
     have c12b0 : (t149.toList == t156.toList && (t150 == t157 && (t151 == t158 && (t152 == t159 && (t153.toList == t160.toList))))) = true := c12
     (try (have c12b1 : decide (t149.toList = t156.toList && (t150 == t157 && (t151 == t158 && (t152 == t159 && (t153.toList == t160.toList))))) = true := by simpa using c12))
     (try (have c12b2 : (t149.toList == t156.toList && (t150 == t157 && (t151 == t158 && (t152 == t159 && (t153.toList == t160.toList))))) = true := by simpa using c12))
     clear c12
     obtain rfl := Option.some.inj H
     go_wp2_with (first | (refine callA (some 17) Tryd.func36 #[.string a0] ?_; (with_reducible refine (note_Read.calls kj1 a0 t149 t150 t151 t152 t153 t154 _ A10.out ?side90).mono ?_); (case side90 => exact HG.out.below HB.out); rintro e w13 ⟨rfl, hb⟩; refine ⟨_, rfl, ?_⟩; replace HB := hb1 HB hb; (try clear hb)) | ((with_reducible refine gate_dst (N := 3) rfl ?_); (try (refine gate_guard (by rfl) ?_; dsimp only)); refine boxA HB 3 #[.string (⟨#[]⟩ : ByteArray), .int .i64 0, .int .i64 0, .int .i64 0, .string (⟨#[]⟩ : ByteArray)] 24 ?_; clear HB; intro gb155 w14 BK155 GE155 hg hb HB; clear hb hg; obtain ⟨hcz15_0, hcz15_1, hcz15_2, hcz15_3, hcz15_4, hfz15_0, hfz15_1, hfz15_2, hfz15_3, hfz15_4⟩ := cf5 BK155) | (refine callA (some 22) Tryd.func37 #[.string a0] ?_; (with_reducible refine (maskref1_NoteRead.calls kj1 a0 t156 t157 t158 t159 t160 t161 _ A11.out).mono ?_); rintro e w16 ⟨rfl, hb⟩; refine ⟨_, rfl, ?_⟩; replace BK155 := Aside0.mk (blk_below (g := gb155) (o := .cells #[.string t149, .int .i64 t150, .int .i64 t151, .int .i64 t152, .string t153] 24 (0, 0)) (by refine blk_put (cs := #[.string t149, .int .i64 t150, .int .i64 t151, .int .i64 t152, .string (⟨#[]⟩ : ByteArray)]) ?_ 4 _ rfl; refine blk_put (cs := #[.string t149, .int .i64 t150, .int .i64 t151, .int .i64 0, .string (⟨#[]⟩ : ByteArray)]) ?_ 3 _ rfl; refine blk_put (cs := #[.string t149, .int .i64 t150, .int .i64 0, .int .i64 0, .string (⟨#[]⟩ : ByteArray)]) ?_ 2 _ rfl; refine blk_put (cs := #[.string t149, .int .i64 0, .int .i64 0, .int .i64 0, .string (⟨#[]⟩ : ByteArray)]) ?_ 1 _ rfl; refine blk_put (cs := #[.string (⟨#[]⟩ : ByteArray), .int .i64 0, .int .i64 0, .int .i64 0, .string (⟨#[]⟩ : ByteArray)]) ?_ 0 _ rfl; exact BK155.out) hb); replace HB := hb1 HB hb; (try clear hb)) | ((with_reducible refine gate_dst (N := 5) rfl ?_); (try (refine gate_guard (by rfl) ?_; dsimp only)); refine boxA HB 5 #[.string (⟨#[]⟩ : ByteArray), .int .i64 0, .int .i64 0, .int .i64 0, .string (⟨#[]⟩ : ByteArray)] 24 ?_; clear HB; intro gb162 w17 BK162 GE162 hg hb HB; have NB155_162 := nbA BK155 hg; have NB162_155 := nbB BK155 hg; replace BK155 := bk1 BK155 hb; clear hb hg; have hnb18 := NB162_155.out; have hnc18 := NB155_162.out; obtain ⟨hcz19_0, hcz19_1, hcz19_2, hcz19_3, hcz19_4, hfz19_0, hfz19_1, hfz19_2, hfz19_3, hfz19_4⟩ := cf5 BK162; obtain ⟨hcz20_0, hcz20_1, hcz20_2, hcz20_3, hcz20_4, hfz20_0, hfz20_1, hfz20_2, hfz20_3, hfz20_4⟩ := cf5 BK155))
     go_ret
     exact ⟨by rfl, by repeat (with_reducible first | exact HB.out | refine below_set ?_ GE162.out)⟩
    ·rw [if_neg c12] at H
     have c12b0 : (t149.toList == t156.toList && (t150 == t157 && (t151 == t158 && (t152 == t159 && (t153.toList == t160.toList))))) = false := by simpa using c12
     (try (have c12b1 : decide (t149.toList = t156.toList && (t150 == t157 && (t151 == t158 && (t152 == t159 && (t153.toList == t160.toList))))) = false := by simpa using c12))
     (try (have c12b2 : (t149.toList == t156.toList && (t150 == t157 && (t151 == t158 && (t152 == t159 && (t153.toList == t160.toList))))) = false := by simpa using c12))
     (try (have c12b3 : ¬ (t149.toList = t156.toList && (t150 == t157 && (t151 == t158 && (t152 == t159 && (t153.toList == t160.toList))))) := by simpa using c12))
     clear c12
     obtain rfl := Option.some.inj H
     go_wp2_with (first | (refine callA (some 17) Tryd.func36 #[.string a0] ?_; (with_reducible refine (note_Read.calls kj1 a0 t149 t150 t151 t152 t153 t154 _ A10.out ?side90).mono ?_); (case side90 => exact HG.out.below HB.out); rintro e w21 ⟨rfl, hb⟩; refine ⟨_, rfl, ?_⟩; replace HB := hb1 HB hb; (try clear hb)) | ((with_reducible refine gate_dst (N := 3) rfl ?_); (try (refine gate_guard (by rfl) ?_; dsimp only)); refine boxA HB 3 #[.string (⟨#[]⟩ : ByteArray), .int .i64 0, .int .i64 0, .int .i64 0, .string (⟨#[]⟩ : ByteArray)] 24 ?_; clear HB; intro gb155 w22 BK155 GE155 hg hb HB; clear hb hg; obtain ⟨hcz23_0, hcz23_1, hcz23_2, hcz23_3, hcz23_4, hfz23_0, hfz23_1, hfz23_2, hfz23_3, hfz23_4⟩ := cf5 BK155) | (refine callA (some 22) Tryd.func37 #[.string a0] ?_; (with_reducible refine (maskref1_NoteRead.calls kj1 a0 t156 t157 t158 t159 t160 t161 _ A11.out).mono ?_); rintro e w24 ⟨rfl, hb⟩; refine ⟨_, rfl, ?_⟩; replace BK155 := Aside0.mk (blk_below (g := gb155) (o := .cells #[.string t149, .int .i64 t150, .int .i64 t151, .int .i64 t152, .string t153] 24 (0, 0)) (by refine blk_put (cs := #[.string t149, .int .i64 t150, .int .i64 t151, .int .i64 t152, .string (⟨#[]⟩ : ByteArray)]) ?_ 4 _ rfl; refine blk_put (cs := #[.string t149, .int .i64 t150, .int .i64 t151, .int .i64 0, .string (⟨#[]⟩ : ByteArray)]) ?_ 3 _ rfl; refine blk_put (cs := #[.string t149, .int .i64 t150, .int .i64 0, .int .i64 0, .string (⟨#[]⟩ : ByteArray)]) ?_ 2 _ rfl; refine blk_put (cs := #[.string t149, .int .i64 0, .int .i64 0, .int .i64 0, .string (⟨#[]⟩ : ByteArray)]) ?_ 1 _ rfl; refine blk_put (cs := #[.string (⟨#[]⟩ : ByteArray), .int .i64 0, .int .i64 0, .int .i64 0, .string (⟨#[]⟩ : ByteArray)]) ?_ 0 _ rfl; exact BK155.out) hb); replace HB := hb1 HB hb; (try clear hb)) | ((with_reducible refine gate_dst (N := 5) rfl ?_); (try (refine gate_guard (by rfl) ?_; dsimp only)); refine boxA HB 5 #[.string (⟨#[]⟩ : ByteArray), .int .i64 0, .int .i64 0, .int .i64 0, .string (⟨#[]⟩ : ByteArray)] 24 ?_; clear HB; intro gb162 w25 BK162 GE162 hg hb HB; have NB155_162 := nbA BK155 hg; have NB162_155 := nbB BK155 hg; replace BK155 := bk1 BK155 hb; clear hb hg; have hnb26 := NB162_155.out; have hnc26 := NB155_162.out; obtain ⟨hcz27_0, hcz27_1, hcz27_2, hcz27_3, hcz27_4, hfz27_0, hfz27_1, hfz27_2, hfz27_3, hfz27_4⟩ := cf5 BK162; obtain ⟨hcz28_0, hcz28_1, hcz28_2, hcz28_3, hcz28_4, hfz28_0, hfz28_1, hfz28_2, hfz28_3, hfz28_4⟩ := cf5 BK155))
     go_ret
     exact ⟨by rfl, by repeat (with_reducible first | exact HB.out | refine below_set ?_ GE162.out)⟩
end Go.Proofs.YtlamgdibnnmbmaaDoor.PRead
end
