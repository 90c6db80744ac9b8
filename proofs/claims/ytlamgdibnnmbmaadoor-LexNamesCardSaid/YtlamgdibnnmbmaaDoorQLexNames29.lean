/- Part 30 of the proof of LexNamesCardSaid: The law LexNames: for all arguments it returns true; each argument reads behind the call as it read before. Out of the plain theorem of YtlamgdibnnmbmaaDoorPureLexNames and the printed contract. -/
import Derived.Test.YtlamgdibnnmbmaaDoorQLexNames28
section
namespace Go.Proofs.YtlamgdibnnmbmaaDoor.PLex
open Go.RowKit Go.Proofs.YtlamgdibnnmbmaaDoorW.PrintWords Go.Proofs.YtlamgdibnnmbmaaDoorW.PrintLast Go.Proofs.YtlamgdibnnmbmaaDoorW.PrintMore
set_option linter.unusedVariables false
set_option linter.unusedSimpArgs false
def signR (T : ByteArray) (a : Nat) (t : S63) (l : List ByteArray) : Int × Nat × S63 :=
  match l.find? (fun p => Lib.hasPrefix (tail T a).data.toList p.data.toList) with
  | some p => (0, p.size, { t with f0 := 5, f3 := p })
  | none => (10, 0, t)
theorem signR_yes {T : ByteArray} {a : Nat} {t : S63} {l : List ByteArray} {p : ByteArray} (h : Lib.hasPrefix (tail T a).data.toList p.data.toList = true) : signR T a t (p :: l) = (0, p.size, { t with f0 := 5, f3 := p }) := by
  unfold signR; rw [List.find?_cons_of_pos (by exact h)]
theorem signR_no {T : ByteArray} {a : Nat} {t : S63} {l : List ByteArray} {p : ByteArray} (h : Lib.hasPrefix (tail T a).data.toList p.data.toList = false) : signR T a t (p :: l) = signR T a t l := by
  unfold signR; rw [List.find?_cons_of_neg (by simp [h])]
theorem drop_at {l : List ByteArray} {i : Nat} (h : i < l.length) : l.drop i = rdOf ByteArray.empty l (i : Int) :: l.drop (i + 1) := by
  rw [List.drop_eq_getElem_cons h]
  congr 1
  show _ = l.getD (i : Int).toNat ByteArray.empty
  rw [Int.toNat_natCast, List.getD_eq_getElem?_getD, List.getElem?_eq_getElem h]; rfl
set_option maxHeartbeats 2000000 in
set_option maxRecDepth 100000 in
theorem token_sign (T : ByteArray) (g gt : Nat) (s : Sc) (t : S63) (w : World) (hs : s.Ok T) (hlt : s.at_ < T.size) (hb : Blk w g T s) (ht : TBlk w gt t) (hne : g ≠ gt)
    (hl : letterP (T[s.at_]'hlt) = false) (hf : figureP (T[s.at_]'hlt) = false) (h34 : (((T[s.at_]'hlt).toNat : Int) == 34) = false) (h92 : (((T[s.at_]'hlt).toNat : Int) == 92) = false)
    (r : Int × Nat × S63) (hr : signR T s.at_ t SIGNS = r) :
    Calls Tryd.prog 80 #[.pointer (some ⟨g, 0, none⟩), .pointer (some ⟨gt, 0, none⟩)] w (LeftR gt t r w) := by
  have mixed : Tryd.prog.follows .mixedOrders = true := by kernel_rfl
  have hc0 : w.cell? ⟨g, 0, none⟩ = some (.string T) := (blk_cell hb 0).trans rfl
  have hc1 : w.cell? ⟨g, 1, none⟩ = some (.int .i64 s.at_) := (blk_cell hb 1).trans rfl
  have i0 : (0 : Int) ≤ (s.at_ : Int) := nn_int
  have i1 := lt_int hlt
  have hL := fun W => letter_walk (T[s.at_]'hlt) W
  have hF := fun W => figure_walk (T[s.at_]'hlt) W
  rw [hl] at hL
  rw [hf] at hF
  have HL := Aside0.mk hL
  have HF := Aside0.mk hF
  have hcut : ∀ w : World, Calls Tryd.prog 28 #[] w fun e w' => ∃ A c, e = .returned (.slice A SIGNS.length c) ∧ SIGNS.length ≤ c ∧ Kd.C Kd.string w' A SIGNS.length SIGNS ∧ Below w.heap.size w w' := fun w =>
    (lex_Signs.calls SIGNS w signs_eq).mono fun e w' ⟨v, h1, h2, h3⟩ => by
      obtain ⟨A, c, rfl, h4, h5⟩ := Kd.R_reads h2
      exact ⟨A, c, h1, h4, h5, h3⟩
  have HC := Aside0.mk hcut
  have HT := Aside0.mk ht
  have HB := Aside0.mk hb
  have HS := Aside0.mk hs
  have HR := Aside0.mk hr
  clear hL hF hl hf hb ht hs hcut hr
  go_enter Tryd.func80, Tryd.ntmps80
  go_wp2_with fail
  go_quiet (fail)
  go_wp2_with (first | (go_at_call 53; (with_reducible refine (HL.out _).mono ?_); rintro e w2 ⟨rfl, rfl⟩) | (go_at_call 54; (with_reducible refine (HF.out _).mono ?_); rintro e w2 ⟨rfl, rfl⟩) | (go_at_call 28; (with_reducible refine (HC.out _).mono ?_); rintro e w4 ⟨A, c, rfl, hcl, hC, hB4⟩))
  have hb4 : Blk w4 g T s := (hB4.block g (blk_lt HB.out)).trans HB.out
  have ht4 : TBlk w4 gt t := (hB4.block gt (blk_lt HT.out)).trans HT.out
  have HM4 := Aside0.mk (((Mut.refl gt w).drewN nq).below hB4)
  have HHas := Aside0.mk (fun (q : Nat) (p : ByteArray) => has_walk T p g s (w4.drewN q) HS.out hb4)
  have HT4 := Aside0.mk ht4
  have HCC := Aside0.mk hC
  clear hB4 hb4 ht4 hC hc0 hc1 hcl
  go_loopg [147] (SIGNS.length + 1) (fun kq v147 w' => ∃ (i : Nat), v147 = .int .i64 i ∧ Aside0 (i ≤ SIGNS.length) ∧ Aside0 (SIGNS.length - i + 1 ≤ kq) ∧ Aside0 (signR T s.at_ t (SIGNS.drop i) = r) ∧ Aside0 (∃ q, w' = w4.drewN q))
  case atStart => exact ⟨0, rfl, ⟨Nat.zero_le _⟩, ⟨Nat.le_refl _⟩, ⟨HR.out⟩, ⟨0, rfl⟩⟩
  case round =>
    obtain ⟨i, rfl, HI, HQ, HRR, HWD⟩ := hrel
    obtain ⟨q, rfl⟩ := HWD.out
    by_cases hin : i < SIGNS.length
    · have hd : decide (i < SIGNS.length) = true := decide_eq_true hin
      have hd2 : decide ((i : Int) < (SIGNS.length : Int)) = true := decide_eq_true (lt_int hin)
      obtain ⟨ad, eA, hx⟩ := Kd.at_string HCC.out (i : Int) nn_int (lt_int hin)
      subst eA
      rw [Int.toNat_natCast] at hx
      have hdr := drop_at hin
      generalize hp : rdOf ByteArray.empty SIGNS (i : Int) = p at hx hdr
      have j0 : (0 : Int) ≤ (i : Int) := nn_int
      have j1 := lt_int hin
      have HH := Aside0.mk (fun q => HHas.out q p)
      have hnext : Lib.hasPrefix (tail T s.at_).data.toList p.data.toList = true ∧ r = (0, p.size, { t with f0 := 5, f3 := p }) ∨ Lib.hasPrefix (tail T s.at_).data.toList p.data.toList = false ∧ signR T s.at_ t (SIGNS.drop (i + 1)) = r := by
        have h := HRR.out
        rw [hdr] at h
        cases hb : Lib.hasPrefix (tail T s.at_).data.toList p.data.toList
        · rw [signR_no hb] at h; exact .inr ⟨rfl, h⟩
        · rw [signR_yes hb] at h; exact .inl ⟨rfl, h.symm⟩
      have HDR := Aside0.mk hdr
      clear hdr hp
      have hS39 : SIGNS.length ≤ 1000 := by decide
      have hws := Aside0.mk (wrap_succ hin (Nat.le_trans hS39 (by decide)))
      rcases hnext with ⟨hyes, hR2⟩ | ⟨hno, hR2⟩
      · rw [hyes] at HH
        obtain ⟨hz0, hz1, hz2, hz3, hz4, hz5, hz6, hz7, hz8⟩ := sq_cells9 HT4.out
        obtain ⟨hf0, hf1, hf2, hf3, hf4, hf5, hf6, hf7, hf8⟩ := sq_frozen9 HT4.out
        go_wp2_with (first | (go_at_call 103; (with_reducible refine (HH.out _).mono ?_); rintro e w5 ⟨rfl, q5, rfl⟩))
        refine bodyPost_ret (results_tmp2 rfl _ _ _) rfl ?_
        rw [hR2]
        exact ⟨rfl, ((HM4.out.drewN _).put 0 _).put 3 _, { t with f0 := 5, f3 := p }, blk_put (blk_put (w := w4.drewN (q + q5)) HT4.out 0 _ rfl) 3 _ rfl, rfl, rfl, fun _ => rfl⟩
      · rw [hno] at HH
        have HR2 := Aside0.mk hR2
        clear hR2
        go_wp2_with (first | (go_at_call 103; (with_reducible refine (HH.out _).mono ?_); rintro e w5 ⟨rfl, q5, rfl⟩))
        go_roundg (SIGNS.length - (i + 1) + 1)
        case measure => exact m_i hin HQ.out
        case rel => exact ⟨i + 1, by first | rfl | exact congrArg _ hws.out, ⟨hin⟩, ⟨Nat.le_refl _⟩, HR2, ⟨by first | exact ⟨_, rfl⟩ | exact dn ⟨_, rfl⟩ _⟩⟩
    · have hR2 : r = (10, 0, t) := by
        have h := HRR.out
        rw [List.drop_eq_nil_of_le (Nat.le_of_not_lt hin)] at h
        exact h.symm
      have hd : decide (i < SIGNS.length) = false := decide_eq_false hin
      have hd2 : decide ((i : Int) < (SIGNS.length : Int)) = false := decide_eq_false (by omega)
      go_wp2_with fail
      refine bodyPost_ret (results_tmp2 rfl _ _ _) rfl ?_
      rw [hR2]
      exact ⟨rfl, HM4.out.drewN _, t, HT4.out, rfl, rfl, fun _ => rfl⟩
theorem token_walk (k : Nat) (T : ByteArray) (g gt : Nat) (s : Sc) (t : S63) (w : World) (m : Int) (hg : 0 < g) (hgt : 0 < gt) (hm : w.cell? ⟨0, 0, none⟩ = some (.int .i64 m)) (hs : s.Ok T) (hb : Blk w g T s) (ht : TBlk w gt t) (hne : g ≠ gt)
    (r : Int × Nat × S63) (h : tokF k T s.at_ t = some r) :
    Calls Tryd.prog 80 #[.pointer (some ⟨g, 0, none⟩), .pointer (some ⟨gt, 0, none⟩)] w (LeftR gt t r w) := by
  unfold tokF at h
  split at h
  · rename_i hlt
    split at h
    · rename_i hl
      obtain ⟨⟨r1, r2⟩, hbs, h⟩ := Option.bind_eq_some_iff.1 h
      injection h with h
      subst h
      have hge := runTo_ge T wordP _ s.at_ (Nat.le_refl _)
      have hle := runTo_le T wordP _ s.at_ (Nat.le_refl _)
      have := hs.at_
      exact token_letter k T g gt s t w hs hlt hb ht hne hl _ _ _ (runTo T wordP s.at_ - s.at_) rfl (by omega) (by omega) rfl rfl r1 r2 _ rfl hbs
    · rename_i hl
      have hl := Bool.eq_false_iff.2 hl
      split at h
      · rename_i hf
        exact token_figure k T g gt s t w m hg hgt hm hs hlt hb ht hne hl hf r h
      · rename_i hf
        have hf := Bool.eq_false_iff.2 hf
        split at h
        · rename_i h34
          injection h with h
          subst h
          exact token_text T g gt s t w hs hlt hb ht hne hl hf h34
        · rename_i h34
          have h34 := Bool.eq_false_iff.2 h34
          split at h
          · rename_i h92
            injection h with h
            subst h
            have hge := runTo_ge T quoteP _ (s.at_ + 1) (Nat.le_refl _)
            have hle := runTo_le T quoteP _ (s.at_ + 1) (Nat.le_refl _)
            exact token_quoted T g gt s t w hs hlt hb ht hne hl hf h92 _ _ _ (runTo T quoteP (s.at_ + 1) - s.at_) rfl (by omega) (by omega) (by omega) rfl rfl
          · rename_i h92
            have h92 := Bool.eq_false_iff.2 h92
            refine token_sign T g gt s t w hs hlt hb ht hne hl hf h34 h92 r ?_
            unfold signR
            split at h <;> (rename_i hf; injection h with h; rw [hf]; exact h)
  · cases h
end Go.Proofs.YtlamgdibnnmbmaaDoor.PLex
end
