/- Part 22 of the proof of LexNamesCardSaid: The law LexNames: for all arguments it returns true; each argument reads behind the call as it read before. Out of the plain theorem of YtlamgdibnnmbmaaDoorPureLexNames and the printed contract. -/
import Derived.Test.YtlamgdibnnmbmaaDoorQLexNames19
import Derived.Test.YtlamgdibnnmbmaaDoorQLexNames20
section
namespace Go.Proofs.YtlamgdibnnmbmaaDoor.PLex
open Go.RowKit Go.Proofs.YtlamgdibnnmbmaaDoorW.PrintWords Go.Proofs.YtlamgdibnnmbmaaDoorW.PrintLast Go.Proofs.YtlamgdibnnmbmaaDoorW.PrintMore
set_option linter.unusedVariables false
set_option linter.unusedSimpArgs false
theorem sq_cells9 {W : World} {g : Nat} {v0 v1 v2 v3 v4 v5 v6 v7 v8 : Value} {t : TypeId} (h : W.heap[g]? = some (.cells #[v0, v1, v2, v3, v4, v5, v6, v7, v8] t (0, 0))) : W.cell? ⟨g, 0, none⟩ = some v0 ∧ W.cell? ⟨g, 1, none⟩ = some v1 ∧ W.cell? ⟨g, 2, none⟩ = some v2 ∧ W.cell? ⟨g, 3, none⟩ = some v3 ∧ W.cell? ⟨g, 4, none⟩ = some v4 ∧ W.cell? ⟨g, 5, none⟩ = some v5 ∧ W.cell? ⟨g, 6, none⟩ = some v6 ∧ W.cell? ⟨g, 7, none⟩ = some v7 ∧ W.cell? ⟨g, 8, none⟩ = some v8 := ⟨(blk_cell h 0).trans rfl, (blk_cell h 1).trans rfl, (blk_cell h 2).trans rfl, (blk_cell h 3).trans rfl, (blk_cell h 4).trans rfl, (blk_cell h 5).trans rfl, (blk_cell h 6).trans rfl, (blk_cell h 7).trans rfl, (blk_cell h 8).trans rfl⟩
theorem sq_frozen9 {W : World} {g : Nat} {cs : Array Value} {t : TypeId} (h : W.heap[g]? = some (.cells cs t (0, 0))) : W.frozen? ⟨g, 0, none⟩ = false ∧ W.frozen? ⟨g, 1, none⟩ = false ∧ W.frozen? ⟨g, 2, none⟩ = false ∧ W.frozen? ⟨g, 3, none⟩ = false ∧ W.frozen? ⟨g, 4, none⟩ = false ∧ W.frozen? ⟨g, 5, none⟩ = false ∧ W.frozen? ⟨g, 6, none⟩ = false ∧ W.frozen? ⟨g, 7, none⟩ = false ∧ W.frozen? ⟨g, 8, none⟩ = false := ⟨blk_frozen h 0, blk_frozen h 1, blk_frozen h 2, blk_frozen h 3, blk_frozen h 4, blk_frozen h 5, blk_frozen h 6, blk_frozen h 7, blk_frozen h 8⟩
@[reducible] def TBlk (w : World) (g : Nat) (t : S63) : Prop := w.heap[g]? = some (.cells #[.int .i64 t.f0, .int .i64 t.f1, .int .i64 t.f2, .string t.f3, .bool t.f4, .int .i64 t.f5.f0, .int .u64 t.f5.f1, .int .u64 t.f5.f2, .bool t.f6] 63 (0, 0))
def textF (T : ByteArray) : Nat → Nat → List Int → Int × Nat × List Int
  | 0, _, _ => (11, 0, [])
  | n + 1, i, b => if h : i < T.size then
      if ((T[i]'h).toNat : Int) == 10 then (11, 0, [])
      else if ((T[i]'h).toNat : Int) == 34 then if 200 < (b.length : Int) then (3, 0, []) else (0, i + 1, b)
      else if ((T[i]'h).toNat : Int) == 92 then
        if h2 : i + 1 < T.size then
          if (((T[i + 1]'h2).toNat : Int) == 34) || (((T[i + 1]'h2).toNat : Int) == 92) then textF T n (i + 2) (b ++ [((T[i + 1]'h2).toNat : Int)]) else (10, 0, [])
        else (11, 0, [])
      else if decide (((T[i]'h).toNat : Int) < 32) || decide (126 < ((T[i]'h).toNat : Int)) then (10, 0, [])
      else textF T n (i + 1) (b ++ [((T[i]'h).toNat : Int)])
    else (11, 0, [])
@[reducible] def Left (gt : Nat) (t t' : S63) (n : Nat) (err : Int) (w : World) (e : Ending) (w' : World) : Prop :=
  e = .returned (.tuple #[.int .i64 (n : Int), .int .i64 err]) ∧ Mut gt w w' ∧ ∃ u, TBlk w' gt u ∧ u.f1 = t.f1 ∧ u.f2 = t.f2 ∧ (err = 0 → u = t')
theorem Mut.belowB {g B : Nat} {a b c : World} (h : Mut g a b) (hB : B = a.heap.size) (k : Below B b c) : Mut g a c :=
  ⟨k.os.trans h.os, k.tape.trans h.tape, k.output.trans h.output, Nat.le_trans h.size k.size, fun j hj hn => (k.block j (by omega)).trans (h.keep j hj hn)⟩
theorem left_err {gt : Nat} {t t' u : S63} {w w' : World} {R : Int × Nat × List Int} {a : Nat} {er : Int} (hR : R = (er, 0, [])) (h0 : er ≠ 0) (hM : Mut gt w w') (hu : TBlk w' gt u) (h1 : u.f1 = t.f1) (h2 : u.f2 = t.f2) :
    Left gt t t' (R.2.1 - a) R.1 w (.returned (.tuple #[.int .i64 0, .int .i64 er])) w' := by
  subst hR
  refine ⟨?_, hM, u, hu, h1, h2, fun h => absurd h h0⟩
  show Ending.returned (Value.tuple #[.int .i64 0, .int .i64 er]) = Ending.returned (Value.tuple #[.int .i64 ((0 - a : Nat) : Int), .int .i64 er])
  rw [Nat.zero_sub]; rfl
theorem left_ok {gt : Nat} {t : S63} {w w' : World} {R : Int × Nat × List Int} {a j : Nat} {b : List Int} (hR : R = (0, a + j + 1, b)) (hM : Mut gt w w') (hu : TBlk w' gt { t with f0 := 4, f3 := strOfNums b }) :
    ∀ v : Int, v = (j : Int) + 1 → Left gt t { t with f0 := 4, f3 := strOfNums R.2.2 } (R.2.1 - a) R.1 w (.returned (.tuple #[.int .i64 v, .int .i64 0])) w' := by
  rintro v rfl
  subst hR
  refine ⟨?_, hM, _, hu, rfl, rfl, fun _ => rfl⟩
  show Ending.returned (Value.tuple #[.int .i64 ((j : Int) + 1), .int .i64 0]) = Ending.returned (Value.tuple #[.int .i64 ((a + j + 1 - a : Nat) : Int), .int .i64 0])
  rw [show a + j + 1 - a = j + 1 by omega]; rfl
theorem m_lt' {S a j k q : Nat} (h : a + j ≤ S) (hk : k = a + j) (hl : k < S) (hq : S - (a + j) + 1 ≤ q) : S - (a + (j + 1)) + 1 < q := by omega
theorem m_lt2 {S a j k k' q : Nat} (h : a + j ≤ S) (hk : k = a + j) (hk' : k' = k + 1) (hl : k' < S) (hq : S - (a + j) + 1 ≤ q) : S - (a + (j + 2)) + 1 < q := by omega
theorem m_n2 {S a j k k' n : Nat} (hk : k = a + j) (hk' : k' = k + 1) (hl : k' < S) (hn : S - (a + j) < n + 1) : S - (a + (j + 2)) < n := by omega
theorem m_n' {S a j k n : Nat} (hk : k = a + j) (hl : k < S) (hn : S - (a + j) < n + 1) : S - (a + (j + 1)) < n := by omega
theorem nums_of {S a j k k' : Nat} (hk : k = a + j) (hk' : k' = k + 1) (hl : a + j ≤ S) (hS : S ≤ 1000000) :
    IntKind.i64.wrap ((a : Int) + (j : Int)) = (k : Int) ∧ wrap64 ((j : Int) + 1) = (j : Int) + 1 ∧ IntKind.i64.wrap ((a : Int) + ((j : Int) + 1)) = (k' : Int) ∧ wrap64 ((j : Int) + 1 + 1) = (j : Int) + 2 ∧ wrap64 ((j : Int) + 2) = (j : Int) + 2 ∧ (0 : Int) ≤ (k : Int) ∧ (0 : Int) ≤ (k' : Int) := by
  refine ⟨?_, w64' (by omega) (by omega), ?_, ?_, w64' (by omega) (by omega), by omega, by omega⟩
  · rw [wI (by omega) (by omega)]; omega
  · rw [wI (by omega) (by omega)]; omega
  · rw [w64' (by omega) (by omega)]; omega
theorem lt_int {k S : Nat} (h : k < S) : (k : Int) < (S : Int) := by omega
theorem ge_no {k S : Nat} (h : k < S) : decide ((S : Int) ≤ (k : Int)) = false := decide_eq_false (by omega)
theorem ge_yes {k S : Nat} (h : ¬ k < S) : decide ((S : Int) ≤ (k : Int)) = true := decide_eq_true (by omega)
theorem m_j {S a j k : Nat} (hk : k = a + j) (hl : k < S) : a + (j + 1) ≤ S := by omega
theorem m_j2 {S a j k k' : Nat} (hk : k = a + j) (hk' : k' = k + 1) (hl : k' < S) : a + (j + 2) ≤ S := by omega
theorem m_b {b : List Int} {j : Nat} {d : Int} (h : b.length ≤ j) : (b ++ [d]).length ≤ j + 2 := by rw [List.length_append, List.length_singleton]; omega
set_option maxHeartbeats 4000000 in
set_option maxRecDepth 100000 in
theorem text_walk (T : ByteArray) (g gt : Nat) (s : Sc) (t : S63) (w : World) (hs : s.Ok T) (hlt : s.at_ < T.size) (hb : Blk w g T s) (ht : TBlk w gt t) (hne : g ≠ gt) :
    Calls Tryd.prog 108 #[.pointer (some ⟨g, 0, none⟩), .pointer (some ⟨gt, 0, none⟩)] w (Left gt t { t with f0 := 4, f3 := strOfNums (textF T (T.size + 1) (s.at_ + 1) []).2.2 } ((textF T (T.size + 1) (s.at_ + 1) []).2.1 - s.at_) (textF T (T.size + 1) (s.at_ + 1) []).1 w) := by
  have mixed : Tryd.prog.follows .mixedOrders = true := by kernel_rfl
  have HB := Aside0.mk hb
  have HT := Aside0.mk ht
  have HNE := Aside0.mk hne
  have HLT := Aside0.mk hlt
  obtain ⟨k1, k2, k3, k4⟩ := hs
  have K1 := Aside0.mk k1
  obtain ⟨hz0, hz1, hz2, hz3, hz4, hz5, hz6, hz7, hz8⟩ := sq_cells9 ht
  obtain ⟨hf0, hf1, hf2, hf3, hf4, hf5, hf6, hf7, hf8⟩ := sq_frozen9 ht
  clear hb ht hne
  go_enter Tryd.func108, Tryd.ntmps108
  go_wp2
  clear hz0 hz1 hz2 hz3 hz4 hz5 hz6 hz7 hz8 hf0 hf1 hf2 hf3 hf4 hf5 hf6 hf7 hf8
  go_loopg [6, 7] (T.size + 1) (fun kq v6 v7 w' => ∃ (j n : Nat) (b : List Int), v6 = .int .i64 (j : Int) ∧ Aside0 (1 ≤ j ∧ s.at_ + j ≤ T.size) ∧ Aside0 (textF T (T.size + 1) (s.at_ + 1) [] = textF T n (s.at_ + j) b) ∧ Aside0 (T.size - (s.at_ + j) < n) ∧ Aside0 (b.length ≤ j) ∧ Aside0 (T.size - (s.at_ + j) + 1 ≤ kq) ∧ Aside0 (Mut gt w w') ∧ Aside0 (TBlk w' gt { t with f0 := 4 }) ∧ Aside0 ((Kd.int .u8).R 5 w' w.heap.size (fun _ => True) v7 b))
  case atStart => exact ⟨1, T.size + 1, [], rfl, ⟨Nat.le_refl _, by omega⟩, ⟨rfl⟩, ⟨by omega⟩, ⟨Nat.zero_le _⟩, ⟨by omega⟩, ⟨(Mut.refl gt w).put 0 _⟩, ⟨blk_put HT.out 0 _ rfl⟩, ⟨Kd.R_nil _ _ _ _ _⟩⟩
  case round =>
    obtain ⟨j, n, b, rfl, HJ, HF, HN, HBL, HQ, HM, HT2, HR⟩ := hrel
    obtain ⟨n', hn'⟩ : ∃ n', n = n' + 1 := ⟨n - 1, by have := HN.out; omega⟩
    subst hn'
    obtain ⟨k, hk⟩ : ∃ k : Nat, k = s.at_ + j := ⟨_, rfl⟩
    obtain ⟨k', hk'⟩ : ∃ k' : Nat, k' = k + 1 := ⟨_, rfl⟩
    have HK := Aside0.mk hk
    have HK' := Aside0.mk hk'
    have hkl := HJ.out.2
    have hj1 := HJ.out.1
    have hb2 : Blk wr g T s := (HM.out.keep g (blk_lt HB.out) HNE.out).trans HB.out
    have hc0 : wr.cell? ⟨g, 0, none⟩ = some (.string T) := (blk_cell hb2 0).trans rfl
    have hc1 : wr.cell? ⟨g, 1, none⟩ = some (.int .i64 s.at_) := (blk_cell hb2 1).trans rfl
    have HT3 := HT2.out
    obtain ⟨hz0, hz1, hz2, hz3, hz4, hz5, hz6, hz7, hz8⟩ := sq_cells9 HT3
    obtain ⟨hf0, hf1, hf2, hf3, hf4, hf5, hf6, hf7, hf8⟩ := sq_frozen9 HT3
    have hw := nums_of hk hk' hkl k1
    obtain ⟨iw, iw3, iv1, iv3, iv4, i0, e0⟩ := hw
    have IW3 := Aside0.mk iw3
    have IV3 := Aside0.mk iv3
    have HGT := Aside0.mk (blk_lt HT.out)
    have KL := Aside0.mk hkl
    clear hb2 HT3 hk hk' hkl hj1 k1 k2 k3 k4 hlt
    by_cases hkT : k < T.size
    · have HKT := Aside0.mk hkT
      have i1 := lt_int hkT
      have ib := ge_no hkT
      generalize hcc : (((T[k]'hkT).toNat : Int)) = c
      have hfe : textF T (n' + 1) (s.at_ + j) b = if c == 10 then (11, 0, [])
          else if c == 34 then if 200 < (b.length : Int) then (3, 0, []) else (0, k + 1, b)
          else if c == 92 then
            if h2 : k + 1 < T.size then
              if (((T[k + 1]'h2).toNat : Int) == 34) || (((T[k + 1]'h2).toNat : Int) == 92) then textF T n' (k + 2) (b ++ [((T[k + 1]'h2).toNat : Int)]) else (10, 0, [])
            else (11, 0, [])
          else if decide (c < 32) || decide (126 < c) then (10, 0, [])
          else textF T n' (k + 1) (b ++ [c]) := by
        rw [← HK.out, textF, dif_pos hkT, hcc]
      have HFE := Aside0.mk (HF.out.trans hfe)
      clear hfe
      cases h10 : (c == 10)
      · rw [h10] at HFE
        cases h34 : (c == 34)
        · rw [h34] at HFE
          cases h92 : (c == 92)
          · rw [h92] at HFE
            cases hctl : (decide (c < 32) || decide (126 < c))
            · as_aux_lemma =>
                rw [hctl] at HFE
                obtain ⟨hx1, hx2⟩ := Bool.or_eq_false_iff.1 hctl
                clear hctl
                go_wp2_with fail
                go_quiet (fail)
                go_wp2_with fail
                go_quiet (fail)
                go_wp2_with (first | ((with_reducible refine gate_builtin (b := .append) (xs := #[.tmp 104, .tmp 106]) rfl ?_); at_builtin; refine Kd.R_append (Kd.int .u8) (w0 := wr) w.heap.size rfl (.tmp 104) (.tmp 106) 75 5 (.int .u8 0) 1 rfl Tryd.underlying75 info5 rfl (by decide) (by omega) u7 b c [.int .u8 c] (fun _ => True) (fun _ => False) rfl rfl ?aP (fun _ hk => hk.elim) ?aF ?aO ?aB ?aS ?aL ?_; (case aP => exact rfl); (case aB => exact pw_below_drewN (Below.refl _ _) _); (case aF => exact (fun _ _ => trivial)); (case aO => exact Kd.R_drewN HR.out _); (case aS => exact HM.out.size); (case aL => have := HBL.out; have := HJ.out.2; have := K1.out; omega); intro v3 w3 ho hb hg hat; have hT3 : TBlk w3 gt { t with f0 := 4 } := (hb.block gt HGT.out).trans HT2.out; have hM3 : Mut gt w w3 := HM.out.belowB rfl hb; have HT4 := Aside0.mk hT3; have HM4 := Aside0.mk hM3; have HR4 := Aside0.mk ho; clear hz0 hz1 hz2 hz3 hz4 hz5 hz6 hz7 hz8 hf0 hf1 hf2 hf3 hf4 hf5 hf6 hf7 hf8 hc0 hc1 hT3 hM3 ho hb hg hat))
                go_roundg (T.size - (s.at_ + (j + 1)) + 1)
                case measure => exact m_lt' HJ.out.2 HK.out HKT.out HQ.out
                case rel => exact ⟨j + 1, n', b ++ [c], rfl, ⟨Nat.succ_pos _, m_j HK.out HKT.out⟩, ⟨HFE.out.trans (by rw [HK.out]; rfl)⟩, ⟨m_n' HK.out HKT.out HN.out⟩, ⟨by have := HBL.out; simpa using this⟩, ⟨Nat.le_refl _⟩, HM4, HT4, HR4⟩
            · rw [hctl] at HFE
              have hor : decide (c < 32) = true ∨ (decide (c < 32) = false ∧ decide (126 < c) = true) := by
                revert hctl; cases decide (c < 32) <;> cases decide (126 < c) <;> simp
              clear hctl
              rcases hor with hx1 | ⟨hx1, hx2⟩
              all_goals as_aux_lemma =>
                go_wp2_with fail
                go_quiet (fail)
                go_wp2_with fail
                go_quiet (fail)
                go_wp2
                refine bodyPost_ret (results_tmp2 rfl _ _ _) rfl ?_
                first | exact left_err HFE.out (by decide) (HM.out.drewN _) (u := { t with f0 := 4 }) HT2.out rfl rfl | exact left_err HFE.out (by decide) ((HM.out.drewN _).drewN _) (u := { t with f0 := 4 }) HT2.out rfl rfl
          · rw [h92] at HFE
            by_cases hkT' : k' < T.size
            · have HKT' := Aside0.mk hkT'
              have e1 := lt_int hkT'
              have eb := ge_no hkT'
              generalize hdd : (((T[k']'hkT').toNat : Int)) = d
              have hF2 : textF T (T.size + 1) (s.at_ + 1) [] = if (d == 34) || (d == 92) then textF T n' (k + 2) (b ++ [d]) else (10, 0, []) := by
                have hF2 := HFE.out
                simp only [← HK'.out, Bool.false_eq_true, if_false, if_true, dif_pos hkT', hdd] at hF2
                exact hF2
              have HF2 := Aside0.mk hF2
              clear hF2
              cases hdx : ((d == 34) || (d == 92))
              · rw [hdx] at HF2
                obtain ⟨d1, d2⟩ := Bool.or_eq_false_iff.1 hdx
                have d3 : (d != 34) = true := by unfold bne; rw [d1]; rfl
                have d4 : (d != 92) = true := by unfold bne; rw [d2]; rfl
                clear hdx
                as_aux_lemma =>
                  go_wp2_with fail
                  go_quiet (fail)
                  go_wp2_with fail
                  go_quiet (fail)
                  go_wp2_with fail
                  go_quiet (fail)
                  go_wp2_with fail
                  go_quiet (fail)
                  go_wp2
                  refine bodyPost_ret (results_tmp2 rfl _ _ _) rfl ?_
                  first | exact left_err HF2.out (by decide) (HM.out.drewN _) (u := { t with f0 := 4 }) HT2.out rfl rfl | exact left_err HF2.out (by decide) ((HM.out.drewN _).drewN _) (u := { t with f0 := 4 }) HT2.out rfl rfl
              · rw [hdx] at HF2
                have hor : ((d == 34) = true ∧ (d != 34) = false) ∨ ((d == 34) = false ∧ (d != 34) = true ∧ (d == 92) = true ∧ (d != 92) = false) := by
                  revert hdx; unfold bne; cases (d == 34) <;> cases (d == 92) <;> simp
                clear hdx
                rcases hor with ⟨d1, d3⟩ | ⟨d1, d3, d2, d4⟩
                all_goals as_aux_lemma =>
                  go_wp2_with fail
                  go_quiet (fail)
                  go_wp2_with fail
                  go_quiet (fail)
                  go_wp2_with fail
                  go_quiet (fail)
                  go_wp2_with fail
                  go_quiet (fail)
                  go_wp2_with (first | ((with_reducible refine gate_builtin (b := .append) (xs := #[.tmp 104, .tmp 106]) rfl ?_); at_builtin; refine Kd.R_append (Kd.int .u8) (w0 := wr) w.heap.size rfl (.tmp 104) (.tmp 106) 75 5 (.int .u8 0) 1 rfl Tryd.underlying75 info5 rfl (by decide) (by omega) u7 b d [.int .u8 d] (fun _ => True) (fun _ => False) rfl rfl ?aP (fun _ hk => hk.elim) ?aF ?aO ?aB ?aS ?aL ?_; (case aP => exact rfl); (case aB => exact pw_below_drewN (Below.refl _ _) _); (case aF => exact (fun _ _ => trivial)); (case aO => exact Kd.R_drewN HR.out _); (case aS => exact HM.out.size); (case aL => have := HBL.out; have := HJ.out.2; have := K1.out; omega); intro v3 w3 ho hb hg hat; have hT3 : TBlk w3 gt { t with f0 := 4 } := (hb.block gt HGT.out).trans HT2.out; have hM3 : Mut gt w w3 := HM.out.belowB rfl hb; have HT4 := Aside0.mk hT3; have HM4 := Aside0.mk hM3; have HR4 := Aside0.mk ho; clear hz0 hz1 hz2 hz3 hz4 hz5 hz6 hz7 hz8 hf0 hf1 hf2 hf3 hf4 hf5 hf6 hf7 hf8 hc0 hc1 hT3 hM3 ho hb hg hat))
                  go_roundg (T.size - (s.at_ + (j + 2)) + 1)
                  case measure => exact m_lt2 HJ.out.2 HK.out HK'.out HKT'.out HQ.out
                  case rel => exact ⟨j + 2, n', b ++ [d], by first | rfl | (rw [IV3.out]; rfl), ⟨Nat.succ_pos _, m_j2 HK.out HK'.out HKT'.out⟩, ⟨HF2.out.trans (by rw [HK.out]; rfl)⟩, ⟨m_n2 HK.out HK'.out HKT'.out HN.out⟩, ⟨m_b HBL.out⟩, ⟨Nat.le_refl _⟩, HM4, HT4, HR4⟩
            · have eb := ge_yes hkT'
              have hF2 : textF T (T.size + 1) (s.at_ + 1) [] = (11, 0, []) := by
                have hF2 := HFE.out
                simp only [← HK'.out, Bool.false_eq_true, if_false, if_true, dif_neg hkT'] at hF2
                exact hF2
              have HF2 := Aside0.mk hF2
              clear hF2
              as_aux_lemma =>
                go_wp2_with fail
                go_quiet (fail)
                go_wp2_with fail
                go_quiet (fail)
                go_wp2_with fail
                go_quiet (fail)
                go_wp2
                refine bodyPost_ret (results_tmp2 rfl _ _ _) rfl ?_
                first | exact left_err HF2.out (by decide) (HM.out.drewN _) (u := { t with f0 := 4 }) HT2.out rfl rfl | exact left_err HF2.out (by decide) ((HM.out.drewN _).drewN _) (u := { t with f0 := 4 }) HT2.out rfl rfl
        · rw [h34] at HFE
          obtain ⟨Ab, cb, rfl⟩ := Kd.R_slice HR.out
          have hcv := fun q => own_string (P := Tryd.prog) Tryd.underlying75 Tryd.underlying5 Tryd.underlying9 (Kd.own_of_R (Kd.R_drewN HR.out q))
          by_cases h200 : 200 < (b.length : Int)
          · have d200 : decide (200 < (b.length : Int)) = true := decide_eq_true h200
            have HE2 := Aside0.mk (HFE.out.trans (if_pos h200))
            as_aux_lemma =>
              go_wp2_with fail
              go_quiet (fail)
              go_wp2_with fail
              go_quiet (fail)
              go_wp2
              refine bodyPost_ret (results_tmp2 rfl _ _ _) rfl ?_
              exact left_err HE2.out (by decide) ((HM.out.drewN _).put 3 _) (u := { t with f0 := 4, f3 := strOfNums b }) (blk_put HT2.out 3 _ rfl) rfl rfl
          · have d200 : decide (200 < (b.length : Int)) = false := decide_eq_false h200
            have HE2 := Aside0.mk (HFE.out.trans (if_neg h200))
            clear h200
            as_aux_lemma =>
              go_wp2_with fail
              go_quiet (fail)
              go_wp2_with fail
              go_quiet (fail)
              go_wp2
              refine bodyPost_ret (results_tmp2 rfl _ _ _) rfl ?_
              refine left_ok (HE2.out.trans ?_) ((HM.out.drewN _).put 3 _) (blk_put HT2.out 3 _ rfl) _ (by first | rfl | exact IW3.out)
              rw [HK.out]
      · rw [h10] at HFE
        as_aux_lemma =>
          go_wp2_with fail
          go_quiet (fail)
          go_wp2
          refine bodyPost_ret (results_tmp2 rfl _ _ _) rfl ?_
          exact left_err HFE.out (by decide) (HM.out.drewN _) (u := { t with f0 := 4 }) HT2.out rfl rfl
    · have ib := ge_yes hkT
      have hfe : textF T (n' + 1) (s.at_ + j) b = (11, 0, []) := by rw [← HK.out, textF, dif_neg hkT]
      have HFE := Aside0.mk (HF.out.trans hfe)
      clear hfe
      as_aux_lemma =>
        go_wp2_with fail
        go_quiet (fail)
        go_wp2
        refine bodyPost_ret (results_tmp2 rfl _ _ _) rfl ?_
        exact left_err HFE.out (by decide) (HM.out.drewN _) (u := { t with f0 := 4 }) HT2.out rfl rfl
end Go.Proofs.YtlamgdibnnmbmaaDoor.PLex
end
