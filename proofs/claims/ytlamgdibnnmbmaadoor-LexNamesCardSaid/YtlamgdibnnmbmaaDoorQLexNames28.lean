/- Part 29 of the proof of LexNamesCardSaid: The law LexNames: for all arguments it returns true; each argument reads behind the call as it read before. Out of the plain theorem of YtlamgdibnnmbmaaDoorPureLexNames and the printed contract. -/
import Derived.Test.YtlamgdibnnmbmaaDoorQLexNames27
section
namespace Go.Proofs.YtlamgdibnnmbmaaDoor.PLex
open Go.RowKit Go.Proofs.YtlamgdibnnmbmaaDoorW.PrintWords Go.Proofs.YtlamgdibnnmbmaaDoorW.PrintLast Go.Proofs.YtlamgdibnnmbmaaDoorW.PrintMore
set_option linter.unusedVariables false
set_option linter.unusedSimpArgs false
theorem words_eq : lex_Words.f = some WORDS := rfl
theorem signs_eq : lex_Signs.f = some SIGNS := rfl
@[reducible] def SW (gt : Nat) (u : ByteArray) (w1 : World) : World → Prop := fun w' => w'.cell? ⟨gt, 3, none⟩ = some (.string u) ∧ Below w1.heap.size w1 w'
theorem SW.below {gt : Nat} {u : ByteArray} {w1 W W' : World} (h : SW gt u w1 W) (hb : Below W.heap.size W W') : SW gt u w1 W' :=
  ⟨(hb.cell (World.block_lt_of_cell? W _ h.1)).trans h.1, ⟨hb.os.trans h.2.os, hb.tape.trans h.2.tape, hb.output.trans h.2.output, Nat.le_trans h.2.size hb.size, fun k hk => (hb.block k (Nat.lt_of_lt_of_le hk h.2.size)).trans (h.2.block k hk)⟩⟩
theorem big_ways {n rn : Nat} {er : Int} (he : er = if 40 < n then 3 else 0) (hr : rn = if 40 < n then 0 else n) :
    (decide (40 < n) = true ∧ decide ((40 : Int) < (n : Int)) = true ∧ er = 3 ∧ rn = 0) ∨ (decide (40 < n) = false ∧ decide ((40 : Int) < (n : Int)) = false ∧ er = 0 ∧ rn = n) := by
  by_cases h : 40 < n
  · rw [if_pos h] at he hr; exact .inl ⟨decide_eq_true h, decide_eq_true (by omega), he, hr⟩
  · rw [if_neg h] at he hr; exact .inr ⟨decide_eq_false h, decide_eq_false (by omega), he, hr⟩
set_option maxHeartbeats 2000000 in
set_option maxRecDepth 100000 in
theorem token_letter (k : Nat) (T : ByteArray) (g gt : Nat) (s : Sc) (t : S63) (w : World) (hs : s.Ok T) (hlt : s.at_ < T.size) (hb : Blk w g T s) (ht : TBlk w gt t) (hne : g ≠ gt)
    (hl : letterP (T[s.at_]'hlt) = true) (er : Int) (rn k1 n : Nat) (hk : k1 = runTo T wordP s.at_) (hn : s.at_ + n = k1) (hkl : k1 ≤ T.size) (her : er = if 40 < n then 3 else 0) (hrn : rn = if 40 < n then 0 else n)
    (r1 : Int) (r2 : Bool) (kd : Int) (hkd : kd = if r2 then 2 else 1) (hbs : slices_BinarySearch_string_string.f k WORDS (T.extract s.at_ k1) = some (r1, r2)) :
    Calls Tryd.prog 80 #[.pointer (some ⟨g, 0, none⟩), .pointer (some ⟨gt, 0, none⟩)] w (LeftR gt t (er, rn, { t with f0 := kd, f3 := T.extract s.at_ k1 }) w) := by
  have mixed : Tryd.prog.follows .mixedOrders = true := by kernel_rfl
  have hc0 : w.cell? ⟨g, 0, none⟩ = some (.string T) := (blk_cell hb 0).trans rfl
  have hc1 : w.cell? ⟨g, 1, none⟩ = some (.int .i64 s.at_) := (blk_cell hb 1).trans rfl
  have i0 : (0 : Int) ≤ (s.at_ : Int) := nn_int
  have i1 := lt_int hlt
  have hL := fun W => letter_walk (T[s.at_]'hlt) W
  rw [hl] at hL
  have HL := Aside0.mk hL
  have hR : ∀ q, Calls Tryd.prog 104 #[.pointer (some ⟨g, 0, none⟩), .int .i64 0, .func (.func 106) #[] #[]] (w.drewN q) fun e w' => e = .returned (.int .i64 (n : Int)) ∧ ∃ j, w' = w.drewN j := by
    intro q
    refine (run_walk T wordP 106 Tryd.f106 Tryd.func106 (by kernel_rfl) rfl word_walk g 0 s (w.drewN q) hs (Nat.le_of_succ_le (small1 hs)) hb).mono fun e w' ⟨h1, j, h2⟩ => ⟨?_, q + j, by rw [h2, World.drewN_drewN]⟩
    rw [h1, Nat.add_zero, ← hk, ← hn, Nat.add_sub_cancel_left]
  have HR := Aside0.mk hR
  obtain ⟨hz0, hz1, hz2, hz3, hz4, hz5, hz6, hz7, hz8⟩ := sq_cells9 ht
  obtain ⟨hf0, hf1, hf2, hf3, hf4, hf5, hf6, hf7, hf8⟩ := sq_frozen9 ht
  have HT := Aside0.mk ht
  have iw := add_num hn hkl hs.size
  have ik0 : (0 : Int) ≤ (k1 : Int) := nn_int
  have ik1 : (s.at_ : Int) ≤ (k1 : Int) := le_int (by rw [← hn]; exact Nat.le_add_right _ _)
  have ik2 : (k1 : Int) ≤ (T.size : Int) := le_int hkl
  have HNE := Aside0.mk hne
  have hgt2 := Ne.symm hne
  have HE := Aside0.mk (And.intro her (And.intro hrn hkd))
  generalize hu : T.extract s.at_ k1 = u at *
  have HU := Aside0.mk hu
  have hcut : ∀ w : World, Calls Tryd.prog 26 #[] w fun e w' => ∃ A c, e = .returned (.slice A WORDS.length c) ∧ WORDS.length ≤ c ∧ Kd.C Kd.string w' A WORDS.length WORDS ∧ Below w.heap.size w w' := fun w =>
    (lex_Words.calls WORDS w words_eq).mono fun e w' ⟨v, h1, h2, h3⟩ => by
      obtain ⟨A, c, rfl, h4, h5⟩ := Kd.R_reads h2
      exact ⟨A, c, h1, h4, h5, h3⟩
  have HC := Aside0.mk hcut
  have HBS := Aside0.mk hbs
  clear hkd hL hR hl hb ht hs her hrn hn hk hcut hbs
  go_enter Tryd.func80, Tryd.ntmps80
  go_wp2_with fail
  go_quiet (fail)
  go_wp2_with (first | (go_at_call 53; (with_reducible refine (HL.out _).mono ?_); rintro e w2 ⟨rfl, rfl⟩) | (go_at_call 104; (with_reducible refine (HR.out _).mono ?_); rintro e w2 ⟨rfl, q3, rfl⟩))
  have hgt1 := HNE.out
  have hS0 : w.cell? ⟨g, 0, none⟩ = some (.string T) ∧ w.cell? ⟨g, 1, none⟩ = some (.int .i64 s.at_) := ⟨hc0, hc1⟩
  go_region_held3 (fun w' => w'.cell? ⟨g, 0, none⟩ = some (.string T) ∧ w'.cell? ⟨g, 1, none⟩ = some (.int .i64 s.at_)) (go_keep) (fail)
  rename_i hHeld
  have hU3 : TBlk (((w.drewN (q3 + 1)).setCell { block := gt, off := 0 } (.int .i64 1)).setCell { block := gt, off := 3 } (.string u)) gt { t with f0 := 1, f3 := u } := blk_put (blk_put (w := w.drewN (q3 + 1)) HT.out 0 _ rfl) 3 _ rfl
  have hM3 : Mut gt w (((w.drewN (q3 + 1)).setCell { block := gt, off := 0 } (.int .i64 1)).setCell { block := gt, off := 3 } (.string u)) := (((Mut.refl gt w).drewN _).put 0 _).put 3 _
  have HU3 := Aside0.mk hU3
  have HM3 := Aside0.mk hM3
  have hu3 := (sq_cells9 hU3).2.2.2.1
  clear hU3 hM3 hS0 hc0 hc1 hz0 hz1 hz2 hz3 hz4 hz5 hz6 hz7 hz8 hf0 hf1 hf2 hf3 hf4 hf5 hf6 hf7 hf8 hHeld
  generalize (((w.drewN (q3 + 1)).setCell { block := gt, off := 0 } (.int .i64 1)).setCell { block := gt, off := 3 } (.string u)) = w3 at *
  go_wp2_with fail
  have hS0 : SW gt u w3 w3.drew := ⟨hu3, below_drew1 (Below.refl _ _)⟩
  go_region_held3 (fun w' => w'.cell? ⟨gt, 3, none⟩ = some (.string u) ∧ Below w3.heap.size w3 w') (first | exact hS0 | exact SW.below hS0 (by assumption) | exact SW.below (SW.below hS0 (by assumption)) (by assumption)) (first | (go_at_call 26; refine (HC.out _).mono ?_; rintro e w4 ⟨A, c, rfl, hcl, hC, hB4⟩) | (go_at_call 55; refine (slices_BinarySearch_string_string.calls k _ _ WORDS u r1 r2 _ (by assumption) (by assumption) HBS.out).mono ?_; rintro e w5 ⟨rfl, hD5⟩; have hB5 := hD5.below))
  rename_i hHeld
  have hU5 : TBlk w5 gt { t with f0 := 1, f3 := u } := (hHeld.2.block gt (blk_lt HU3.out)).trans HU3.out
  have HU5 := Aside0.mk hU5
  have HM5 := Aside0.mk (HM3.out.below hHeld.2)
  clear hS0 hu3 hHeld hB5 hD5 hB4 hC hcl
  obtain ⟨hz0, hz1, hz2, hz3, hz4, hz5, hz6, hz7, hz8⟩ := sq_cells9 hU5
  obtain ⟨hf0, hf1, hf2, hf3, hf4, hf5, hf6, hf7, hf8⟩ := sq_frozen9 hU5
  clear hU5
  have h40 : (decide (40 < n) = true ∧ decide ((40 : Int) < (n : Int)) = true ∧ er = 3 ∧ rn = 0) ∨ (decide (40 < n) = false ∧ decide ((40 : Int) < (n : Int)) = false ∧ er = 0 ∧ rn = n) := big_ways HE.out.1 HE.out.2.1
  have hkd := HE.out.2.2
  cases r2 <;> rcases h40 with ⟨d1, d2, hE, hr⟩ | ⟨d1, d2, hE, hr⟩
  all_goals as_aux_lemma =>
    subst hE hr hkd
    go_wp2_with fail
    refine bodyPost_ret (results_tmp2 rfl _ _ _) rfl ?_
    first
      | exact ⟨rfl, HM5.out, _, HU5.out, rfl, rfl, fun h => absurd (show (3 : Int) = 0 from h) (by decide)⟩
      | exact ⟨rfl, HM5.out, _, HU5.out, rfl, rfl, fun _ => rfl⟩
      | exact ⟨rfl, HM5.out.put 0 _, _, blk_put HU5.out 0 _ rfl, rfl, rfl, fun h => absurd (show (3 : Int) = 0 from h) (by decide)⟩
      | exact ⟨rfl, HM5.out.put 0 _, { t with f0 := 2, f3 := u }, blk_put HU5.out 0 _ rfl, rfl, rfl, fun _ => rfl⟩
end Go.Proofs.YtlamgdibnnmbmaaDoor.PLex
end
