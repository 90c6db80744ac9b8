/- Part 20 of the proof of LexNamesCardSaid: The law LexNames: for all arguments it returns true; each argument reads behind the call as it read before. Out of the plain theorem of YtlamgdibnnmbmaaDoorPureLexNames and the printed contract. -/
import Derived.Test.YtlamgdibnnmbmaaDoorQLexNames18
section
namespace Go.Proofs.YtlamgdibnnmbmaaDoor.PLex
open Go.RowKit Go.Proofs.YtlamgdibnnmbmaaDoorW.PrintWords Go.Proofs.YtlamgdibnnmbmaaDoorW.PrintLast Go.Proofs.YtlamgdibnnmbmaaDoorW.PrintMore
set_option linter.unusedVariables false
set_option linter.unusedSimpArgs false
def slashes (T : ByteArray) (i : Nat) : Bool := Lib.hasPrefix (tail T i).data.toList [47, 47]
def opening (T : ByteArray) (i : Nat) : Bool := Lib.hasPrefix (tail T i).data.toList [47, 42]
def closing (T : ByteArray) (i : Nat) : Int := Lib.index (tail T i).data.toList [42, 47]
def blankF (T : ByteArray) : Nat → Sc → Int × Sc
  | 0, s => (0, s)
  | n + 1, s => if h : s.at_ < T.size then
      if (((T[s.at_]'h).toNat : Int) == 32) || (((T[s.at_]'h).toNat : Int) == 9) || (((T[s.at_]'h).toNat : Int) == 10) then blankF T n (Sc.skip T 1 s)
      else if slashes T s.at_ then blankF T n (Sc.skip T (runTo T lineP s.at_ - s.at_) s)
      else if opening T s.at_ then if closing T (s.at_ + 2) < 0 then (11, s) else blankF T n (Sc.skip T ((closing T (s.at_ + 2)).toNat + 4) s)
      else (0, s)
    else (0, s)
theorem tail_list (T : ByteArray) (i : Nat) : (tail T i).data.toList = T.data.toList.drop i := by
  unfold tail
  rw [ByteArray.data_extract, Array.toList_extract, List.extract_eq_take_drop]
  exact List.take_of_length_le (by rw [List.length_drop]; exact Nat.le_refl _)
theorem byte_list (T : ByteArray) (i : Nat) (h : i < T.size) : T.data.toList[i]'h = T[i] := rfl
theorem nn (n : Nat) : ¬ ((n : Int) < 0) := by omega
theorem m_lt {S a r q : Nat} (h : a + r ≤ S) (h0 : 0 < r) (hq : S - a + 1 ≤ q) : S - (a + r) + 1 < q := by omega
theorem m_n {S a r n : Nat} (h : a + r ≤ S) (h0 : 0 < r) (hn : S - a < n + 1) : S - (a + r) < n := by omega
theorem hasPrefix2 {T : ByteArray} {i : Nat} {a b : UInt8} (h : Lib.hasPrefix (tail T i).data.toList [a, b] = true) : ∃ h : i + 1 < T.size, T[i] = a ∧ T[i + 1] = b := by
  rw [tail_list] at h
  unfold Lib.hasPrefix at h
  have hp := List.isPrefixOf_iff_prefix.1 h
  have hl := hp.length_le
  have hsz : T.size = T.data.toList.length := rfl
  simp only [List.length_cons, List.length_nil, List.length_drop] at hl
  refine ⟨by omega, ?_, ?_⟩
  · have := hp.getElem (i := 0) (by simp)
    simp only [List.getElem_cons_zero, List.getElem_drop, Nat.add_zero] at this
    exact (byte_list T i (by omega)).symm.trans this.symm
  · have := hp.getElem (i := 1) (by simp)
    simp only [List.getElem_cons_succ, List.getElem_cons_zero, List.getElem_drop] at this
    exact (byte_list T (i + 1) (by omega)).symm.trans this.symm
theorem opening_le {T : ByteArray} {i : Nat} (h : opening T i = true) : i + 2 ≤ T.size := by
  obtain ⟨h1, _⟩ := hasPrefix2 h; omega
theorem slashes_run {T : ByteArray} {i : Nat} (h : slashes T i = true) : i < runTo T lineP i := by
  obtain ⟨h1, h2, h3⟩ := hasPrefix2 h
  rw [runTo_eq, dif_pos (by omega), if_pos (by rw [h2]; decide)]
  exact Nat.lt_of_lt_of_le (Nat.lt_succ_self i) (runTo_ge T lineP _ (i + 1) (Nat.le_refl _))
theorem index_room : ∀ (l sub : List UInt8), ¬ Lib.index l sub < 0 → (Lib.index l sub).toNat + sub.length ≤ l.length
  | [], sub, h => by
    unfold Lib.index at h ⊢
    cases sub with
    | nil => simp
    | cons => simp at h
  | b :: l, sub, h => by
    unfold Lib.index at h ⊢
    split
    · rename_i hp
      have := (List.isPrefixOf_iff_prefix.1 hp).length_le
      simpa using this
    · split
      · rename_i hp he; rw [if_neg hp, if_pos he] at h; simp at h
      · rename_i hp he
        rw [if_neg hp, if_neg he] at h
        have h0 := Lib.index_ge l sub
        have h1 : ¬ Lib.index l sub < 0 := by
          have : Lib.index l sub ≠ -1 := fun e => he (by rw [e]; rfl)
          omega
        have := index_room l sub h1
        simp only [List.length_cons]; omega
theorem Mut.cell0 {g : Nat} {w w' : World} {v : Value} (h : Mut g w w') (hg : 0 < g) (hm : w.cell? ⟨0, 0, none⟩ = some v) : w'.cell? ⟨0, 0, none⟩ = some v := by
  have h0 : 0 < w.heap.size := World.block_lt_of_cell? w ⟨0, 0, none⟩ hm
  have := h.keep 0 h0 (by omega)
  rw [← hm]
  simp only [World.cell?, this]
theorem closing_le {T : ByteArray} {i : Nat} (h : ¬ closing T i < 0) : i + (closing T i).toNat + 2 ≤ T.size ∨ T.size < i := by
  have := index_room _ _ h
  simp only [tail_list, List.length_drop, List.length_cons, List.length_nil] at this
  unfold closing
  rw [tail_list]
  have hsz : T.size = T.data.toList.length := rfl
  omega
set_option maxHeartbeats 2000000 in
set_option maxRecDepth 100000 in
theorem blank_walk (T : ByteArray) (g : Nat) (s : Sc) (w : World) (m : Int) (hg : 0 < g) (hm : w.cell? ⟨0, 0, none⟩ = some (.int .i64 m)) (hs : s.Ok T) (hb : Blk w g T s) :
    Calls Tryd.prog 79 #[.pointer (some ⟨g, 0, none⟩)] w fun e w' => e = .returned (.int .i64 (blankF T (T.size + 1) s).1) ∧ Mut g w w' ∧ Blk w' g T (blankF T (T.size + 1) s).2 ∧ ((blankF T (T.size + 1) s).2).Ok T := by
  have mixed : Tryd.prog.follows .mixedOrders = true := by kernel_rfl
  have HB := Aside0.mk hb
  have HS := Aside0.mk hs
  have HM := Aside0.mk hm
  have HG := Aside0.mk hg
  clear hb hs hm hg
  go_enter Tryd.func79, Tryd.ntmps79
  go_wp2
  go_loopg [] (T.size + 1) (fun kq w' => ∃ (z : Sc) (n : Nat), Aside0 (z.Ok T) ∧ Aside0 (blankF T (T.size + 1) s = blankF T n z) ∧ Aside0 (T.size - z.at_ < n) ∧ Aside0 (T.size - z.at_ + 1 ≤ kq) ∧ Aside0 (Mut g w w') ∧ Aside0 (Blk w' g T z))
  case atStart => exact ⟨s, T.size + 1, HS, ⟨rfl⟩, ⟨by have := HS.out.at_; omega⟩, ⟨by omega⟩, ⟨Mut.refl g w⟩, HB⟩
  case round =>
    obtain ⟨z, n, HZ, HF, HN, HQ, HM2, HB2⟩ := hrel
    have hb2 := HB2.out
    have hc0 : wr.cell? ⟨g, 0, none⟩ = some (.string T) := (blk_cell hb2 0).trans rfl
    have hc1 : wr.cell? ⟨g, 1, none⟩ = some (.int .i64 z.at_) := (blk_cell hb2 1).trans rfl
    clear hb2
    obtain ⟨k1, k2, k3, k4⟩ := HZ.out
    by_cases hlt : z.at_ < T.size
    · have i1 : (z.at_ : Int) < (T.size : Int) := by omega
      have i0 : (0 : Int) ≤ (z.at_ : Int) := by omega
      obtain ⟨n', hn'⟩ : ∃ n', n = n' + 1 := ⟨n - 1, by have := HN.out; omega⟩
      subst hn'
      have HLT := Aside0.mk hlt
      generalize hcc : (((T[z.at_]'hlt).toNat : Int)) = c
      have HC := Aside0.mk hcc
      have hfe : blankF T (n' + 1) z = if (c == 32) || (c == 9) || (c == 10) then blankF T n' (Sc.skip T 1 z)
        else if slashes T z.at_ then blankF T n' (Sc.skip T (runTo T lineP z.at_ - z.at_) z)
        else if opening T z.at_ then if closing T (z.at_ + 2) < 0 then (11, z) else blankF T n' (Sc.skip T ((closing T (z.at_ + 2)).toNat + 4) z)
        else (0, z) := by rw [blankF, dif_pos hlt, hcc]
      have HFE := Aside0.mk hfe
      clear hfe
      have hsk : ∀ (q k : Nat), z.at_ + k ≤ T.size → Calls Tryd.prog 81 #[.pointer (some ⟨g, 0, none⟩), .int .i64 (k : Int)] (wr.drewN q) fun e w' => e = .returned (.tuple #[]) ∧ Mut g w w' ∧ Blk w' g T (Sc.skip T k z) :=
        fun q k hk => (skip_walk T g k z (wr.drewN q) HZ.out hk HB2.out).mono fun e w' h => ⟨h.1, (HM2.out.drewN q).trans h.2.1, h.2.2⟩
      have HSK := Aside0.mk hsk
      clear hsk
      cases hbl : ((c == 32) || (c == 9) || (c == 10))
      · have HBL := Aside0.mk hbl
        obtain ⟨hbl1, h10⟩ := Bool.or_eq_false_iff.1 hbl
        obtain ⟨h32, h9⟩ := Bool.or_eq_false_iff.1 hbl1
        clear hbl hbl1
        have hh1 : ∀ q, Calls Tryd.prog 103 #[.pointer (some ⟨g, 0, none⟩), .string ⟨#[47, 47]⟩] (wr.drewN q) fun e w' => e = .returned (.bool (slashes T z.at_)) ∧ ∃ k, w' = wr.drewN k :=
          fun q => (has_walk T ⟨#[47, 47]⟩ g z (wr.drewN q) HZ.out HB2.out).mono fun e w' ⟨h1, k, h2⟩ => ⟨h1, q + k, by rw [h2, World.drewN_drewN]⟩
        have hh2 : ∀ q, Calls Tryd.prog 103 #[.pointer (some ⟨g, 0, none⟩), .string ⟨#[47, 42]⟩] (wr.drewN q) fun e w' => e = .returned (.bool (opening T z.at_)) ∧ ∃ k, w' = wr.drewN k :=
          fun q => (has_walk T ⟨#[47, 42]⟩ g z (wr.drewN q) HZ.out HB2.out).mono fun e w' ⟨h1, k, h2⟩ => ⟨h1, q + k, by rw [h2, World.drewN_drewN]⟩
        have H1 := Aside0.mk hh1
        have H2 := Aside0.mk hh2
        clear hh1 hh2
        cases hsl : slashes T z.at_
        · have HSL := Aside0.mk hsl
          rw [hsl] at H1
          clear hsl
          cases hop : opening T z.at_
          · have HOP := Aside0.mk hop
            rw [hop] at H2
            clear hop
            go_wp2_with fail
            go_quiet (fail)
            go_wp2_with fail
            go_quiet (fail)
            go_wp2_with (first | (go_at_call 103; (first | (with_reducible refine (H1.out _).mono ?_) | (with_reducible refine (H2.out _).mono ?_)); rintro e w2 ⟨rfl, q2, rfl⟩))
            go_ret
            rw [HF.out, HFE.out, HBL.out, HSL.out, HOP.out]
            exact ⟨rfl, HM2.out.drewN _, HB2.out, HZ.out⟩
          · have HOP := Aside0.mk hop
            rw [hop] at H2
            have hop2 := opening_le hop
            obtain ⟨k, hk⟩ : ∃ k : Nat, k = z.at_ + 2 := ⟨_, rfl⟩
            have hix : ∀ q, Calls Tryd.prog 71 #[.string (T.extract k T.size), .string ⟨#[42, 47]⟩] (wr.drewN q) fun e w' => e = .returned (.int .i64 (closing T k)) ∧ w' = wr.drewN q :=
              fun q => Tryd.strings_Index (tail T k) ⟨#[42, 47]⟩ m (wr.drewN q) (by have := k1; simp only [tail, ByteArray.size_extract]; omega) ((HM2.out.cell0 HG.out HM.out).trans rfl)
            have hcb : -1 ≤ closing T k := Lib.index_ge _ _
            have hce := @closing_le T k
            have HCE := Aside0.mk hce
            have HCB := Aside0.mk hcb
            have HK := Aside0.mk hk
            have i2 : (k : Int) ≤ (T.size : Int) := by omega
            have i3 : (0 : Int) ≤ (k : Int) := by omega
            have iw : IntKind.i64.wrap ((z.at_ : Int) + 2) = (k : Int) := by rw [wI (by omega) (by omega)]; omega
            have HFE2 := Aside0.mk (hk ▸ HFE.out)
            clear hop hop2 hk hcb hce
            generalize closing T k = cv at *
            have HIX := Aside0.mk hix
            clear hix
            by_cases hcl : cv < 0
            · go_wp2_with fail
              go_quiet (fail)
              go_wp2_with fail
              go_quiet (fail)
              go_wp2_with (first | (go_at_call 103; (first | (with_reducible refine (H1.out _).mono ?_) | (with_reducible refine (H2.out _).mono ?_)); rintro e w2 ⟨rfl, q2, rfl⟩))
              go_quiet (first | (exact (HIX.out _).mono fun e w' ⟨h1, h2⟩ => ⟨h1, _, h2⟩))
              go_wp2
              go_ret
              rw [HF.out, HFE2.out, HBL.out, HSL.out, HOP.out]
              simp only [Bool.false_eq_true, if_false, if_true, if_pos hcl]
              exact ⟨rfl, HM2.out.drewN _, HB2.out, HZ.out⟩
            · obtain ⟨cn, hcn⟩ : ∃ cn : Nat, cv = (cn : Int) := ⟨cv.toNat, by omega⟩
              subst hcn
              have hcl0 : ((cn : Int) < 0) = False := eq_false (by omega)
              have hce2 : z.at_ + (cn + 4) ≤ T.size := by have := HCE.out (by omega); have := HK.out; have : (k : Int) ≤ (T.size : Int) := i2; simp only [Int.toNat_natCast] at *; omega
              have HC2 := Aside0.mk hce2
              have hs4 : ∀ q : Nat, Calls Tryd.prog 81 #[.pointer (some ⟨g, 0, none⟩), .int .i64 ((cn : Int) + 4)] (wr.drewN q) fun e w' => e = .returned (.tuple #[]) ∧ Mut g w w' ∧ Blk w' g T (Sc.skip T (cn + 4) z) := by
                intro q
                have := HSK.out q (cn + 4) HC2.out
                rw [show ((cn + 4 : Nat) : Int) = (cn : Int) + 4 by omega] at this
                exact this
              have HS4 := Aside0.mk hs4
              clear hs4
              have iw4 : IntKind.i64.wrap ((cn : Int) + 4) = ((cn + 4 : Nat) : Int) := by rw [wI (by omega) (by omega)]; omega
              have iw5 : wrap64 ((cn : Int) + 4) = ((cn + 4 : Nat) : Int) := by rw [w64' (by omega) (by omega)]; omega
              go_wp2_with fail
              go_quiet (fail)
              go_wp2_with fail
              go_quiet (fail)
              go_wp2_with (first | (go_at_call 103; (first | (with_reducible refine (H1.out _).mono ?_) | (with_reducible refine (H2.out _).mono ?_)); rintro e w2 ⟨rfl, q2, rfl⟩))
              go_quiet (first | (exact (HIX.out _).mono fun e w' ⟨h1, h2⟩ => ⟨h1, _, h2⟩))
              go_wp2_with (first | (go_at_call 81; (with_reducible refine (HS4.out _).mono ?_); rintro e w2 ⟨rfl, hM, hB⟩; have HM3 := Aside0.mk hM; have HB3 := Aside0.mk hB; clear hM hB))
              go_roundg (T.size - (z.at_ + (cn + 4)) + 1)
              case measure => exact m_lt HC2.out (Nat.succ_pos _) HQ.out
              case rel =>
                refine ⟨Sc.skip T (cn + 4) z, n', ⟨HZ.out.skip _ HC2.out⟩, ⟨?_⟩, ⟨?_⟩, ⟨by rw [Sc.skip_at]; exact Nat.le_refl _⟩, HM3, HB3⟩
                · rw [HF.out, HFE2.out, HBL.out, HSL.out, HOP.out]
                  simp only [Bool.false_eq_true, if_false, if_true, if_neg (nn cn), Int.toNat_natCast]
                · rw [Sc.skip_at]; exact m_n HC2.out (Nat.succ_pos _) HN.out
        · have hru := slashes_run hsl
          have hrl := runTo_le T lineP _ z.at_ (Nat.le_refl _)
          have hrr : ∀ q, Calls Tryd.prog 104 #[.pointer (some ⟨g, 0, none⟩), .int .i64 0, .func (.func 105) #[] #[]] (wr.drewN q) fun e w' => e = .returned (.int .i64 ((runTo T lineP z.at_ - z.at_ : Nat) : Int)) ∧ ∃ k, w' = wr.drewN k :=
            fun q => (run_walk T lineP 105 Tryd.f105 Tryd.func105 (by kernel_rfl) rfl line_walk g 0 z (wr.drewN q) HZ.out (by omega) HB2.out).mono fun e w' ⟨h1, k, h2⟩ => ⟨h1, q + k, by rw [h2, World.drewN_drewN]⟩
          have HSL := Aside0.mk hsl
          rw [hsl] at H1
          clear hsl
          obtain ⟨rn, hrn⟩ : ∃ rn : Nat, rn = runTo T lineP z.at_ - z.at_ := ⟨_, rfl⟩
          rw [← hrn] at hrr
          have hr1 : z.at_ + rn ≤ T.size := by omega
          have hr0 : 0 < rn := by omega
          have HRN := Aside0.mk hrn
          have HR1 := Aside0.mk hr1
          have HR0 := Aside0.mk hr0
          have HRR := Aside0.mk hrr
          clear hrn hr1 hr0 hrr hru hrl
          go_wp2_with fail
          go_quiet (fail)
          go_wp2_with fail
          go_quiet (fail)
          go_wp2_with (first | (go_at_call 103; (with_reducible refine (H1.out _).mono ?_); rintro e w2 ⟨rfl, q2, rfl⟩) | (go_at_call 104; (with_reducible refine (HRR.out _).mono ?_); rintro e w2 ⟨rfl, q3, rfl⟩) | (go_at_call 81; (with_reducible refine (HSK.out _ rn HR1.out).mono ?_); rintro e w2 ⟨rfl, hM, hB⟩; have HM3 := Aside0.mk hM; have HB3 := Aside0.mk hB; clear hM hB))
          go_roundg (T.size - (z.at_ + rn) + 1)
          case measure => exact m_lt HR1.out HR0.out HQ.out
          case rel =>
            refine ⟨Sc.skip T rn z, n', ⟨HZ.out.skip _ HR1.out⟩, ⟨?_⟩, ⟨?_⟩, ⟨by rw [Sc.skip_at]; exact Nat.le_refl _⟩, HM3, HB3⟩
            · rw [HF.out, HFE.out, HBL.out, HSL.out, HRN.out]
              simp only [Bool.false_eq_true, if_false, if_true]
            · rw [Sc.skip_at]; exact m_n HR1.out HR0.out HN.out
      · have HBL := Aside0.mk hbl
        have hor : (c == 32) = true ∨ ((c == 32) = false ∧ (c == 9) = true) ∨ ((c == 32) = false ∧ (c == 9) = false ∧ (c == 10) = true) := by
          revert hbl; cases (c == 32) <;> cases (c == 9) <;> cases (c == 10) <;> simp
        clear hbl
        rcases hor with h32 | ⟨h32, h9⟩ | ⟨h32, h9, h10⟩
        all_goals
          go_wp2_with fail
          go_quiet (fail)
          go_wp2_with fail
          go_quiet (fail)
          go_wp2_with (first | (go_at_call 81; refine (HSK.out _ 1 (by have := HLT.out; omega)).mono ?_; rintro e w2 ⟨rfl, hM, hB⟩; have HM3 := Aside0.mk hM; have HB3 := Aside0.mk hB; clear hM hB))
          go_roundg (T.size - (z.at_ + 1) + 1)
          case measure => exact m_lt HLT.out Nat.one_pos HQ.out
          case rel =>
            refine ⟨Sc.skip T 1 z, n', ⟨HZ.out.skip 1 (by have := HLT.out; omega)⟩, ⟨?_⟩, ⟨?_⟩, ⟨by rw [Sc.skip_at]; exact Nat.le_refl _⟩, HM3, HB3⟩
            · rw [HF.out, HFE.out, HBL.out]; rfl
            · rw [Sc.skip_at]; exact m_n HLT.out Nat.one_pos HN.out
    · have i1 : (T.size : Int) ≤ (z.at_ : Int) := by omega
      have hfe : blankF T n z = (0, z) := by
        cases n with
        | zero => rfl
        | succ n => rw [blankF, dif_neg hlt]
      have HFE := Aside0.mk hfe
      clear hfe
      go_wp2_with fail
      go_quiet (fail)
      go_wp2
      go_ret
      rw [HF.out, HFE.out]
      exact ⟨rfl, HM2.out.drewN _, HB2.out, HZ.out⟩
end Go.Proofs.YtlamgdibnnmbmaaDoor.PLex
end
