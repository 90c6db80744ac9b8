/- Part 31 of the proof of LexNamesCardSaid: The law LexNames: for all arguments it returns true; each argument reads behind the call as it read before. Out of the plain theorem of YtlamgdibnnmbmaaDoorPureLexNames and the printed contract. -/
import Derived.Test.YtlamgdibnnmbmaaDoorQLexNames29
section
namespace Go.Proofs.YtlamgdibnnmbmaaDoor.PLex
open Go.RowKit Go.Proofs.YtlamgdibnnmbmaaDoorW.PrintWords Go.Proofs.YtlamgdibnnmbmaaDoorW.PrintLast Go.Proofs.YtlamgdibnnmbmaaDoorW.PrintMore
set_option linter.unusedVariables false
set_option linter.unusedSimpArgs false
theorem infoTok : (Tryd.prog.info? 63).map (fun i => (i.zero, i.size, i.bytes)) = some (some (.agg #[.int .i64 0, .int .i64 0, .int .i64 0, .string ⟨#[]⟩, .bool false, .int .i64 0, .int .u64 0, .int .u64 0, .bool false]), 9, 80) := by kernel_rfl
def tok0 (s : Sc) : S63 := ⟨0, s.line, s.col, ⟨#[]⟩, false, ⟨0, 0, 0⟩, false⟩
def toksF (k : Nat) (T : ByteArray) : Nat → Sc → List S63 → Option (List S63 × Int × Int × Int)
  | 0, _, _ => none
  | n + 1, s, acc =>
    if 100000 < acc.length then none
    else if (blankF T (T.size + 1) s).1 ≠ 0 then some ([], (blankF T (T.size + 1) s).2.line, (blankF T (T.size + 1) s).2.col, (blankF T (T.size + 1) s).1)
    else if (blankF T (T.size + 1) s).2.at_ = T.size then some (acc ++ [tok0 (blankF T (T.size + 1) s).2], 0, 0, 0)
    else (tokF k T (blankF T (T.size + 1) s).2.at_ (tok0 (blankF T (T.size + 1) s).2)).bind fun r =>
      if r.1 ≠ 0 then some ([], (blankF T (T.size + 1) s).2.line, (blankF T (T.size + 1) s).2.col, r.1)
      else if (blankF T (T.size + 1) s).2.at_ + r.2.1 ≤ T.size then toksF k T n (Sc.skip T r.2.1 (blankF T (T.size + 1) s).2) (acc ++ [r.2.2])
      else none
def lex_Tokens.f (k : Nat) (a0 : ByteArray) : Option (List S63 × Int × Int × Int) := if 16000 < (a0.size : Int) then some ([], 0, 0, 3) else toksF k a0 k ⟨0, 1, 1⟩ []
theorem results_tmp4 {fn : Func} {t u v x : Tmp} (h : fn.results = #[.tmp t, .tmp u, .tmp v, .tmp x]) (tmps : Array Value) (P : Program) (w : World) :
    (results fn tmps).run P w = .ok (.tuple #[tmps.getD t undef, tmps.getD u undef, tmps.getD v undef, tmps.getD x undef]) w := by
  simp [results, h]
theorem len80 {n : Nat} (h : n ≤ 100000) : (n + 1) * 80 ≤ 140737488355328 := by omega
theorem SB.sk {g : Nat} {s : Sc} {w1 W : World} (h : W.cell? ⟨g, 2, none⟩ = some (.int .i64 s.line) ∧ W.cell? ⟨g, 3, none⟩ = some (.int .i64 s.col) ∧ Below w1.heap.size w1 W) (o : Obj) :
    (W.alloc o).cell? ⟨g, 2, none⟩ = some (.int .i64 s.line) ∧ (W.alloc o).cell? ⟨g, 3, none⟩ = some (.int .i64 s.col) ∧ Below w1.heap.size w1 (W.alloc o) := by
  have hb : Below W.heap.size W (W.alloc o) := below_alloc (Below.refl _ _) o
  exact ⟨(hb.cell (World.block_lt_of_cell? W _ h.1)).trans h.1, (hb.cell (World.block_lt_of_cell? W _ h.2.1)).trans h.2.1, below_alloc h.2.2 o⟩
set_option maxHeartbeats 4000000 in
set_option maxRecDepth 100000 in
theorem tokens_walk (k : Nat) (T : ByteArray) (r : List S63 × Int × Int × Int) (w : World) (m : Int) (h0w : 0 < w.heap.size) (hm : w.cell? ⟨0, 0, none⟩ = some (.int .i64 m)) (hT : T.size ≤ 16000) (h : toksF k T k ⟨0, 1, 1⟩ [] = some r) :
    Calls Tryd.prog 51 #[.string T] w fun e w' => ∃ v, e = .returned (.tuple #[v, .int .i64 r.2.1, .int .i64 r.2.2.1, .int .i64 r.2.2.2]) ∧ Kd.R k63 63 w' w.heap.size (fun _ => True) v r.1 ∧ Below w.heap.size w w' := by
  have mixed : Tryd.prog.follows .mixedOrders = true := by kernel_rfl
  have hT2 : decide ((16000 : Int) < (T.size : Int)) = false := decide_eq_false (by omega)
  have hT3 : decide (16000 < T.size) = false := decide_eq_false (by omega)
  have HM := Aside0.mk (And.intro h0w hm)
  have HH := Aside0.mk h
  have HT := Aside0.mk hT
  clear h h0w hm hT
  go_enter Tryd.func51, Tryd.ntmps51
  go_wp2
  obtain ⟨g, hg⟩ : ∃ g, g = w.heap.size := ⟨_, rfl⟩
  have hB1 : Below w.heap.size w (w.alloc (.cells #[.string T, .int .i64 0, .int .i64 1, .int .i64 1] 86)) := below_alloc (Below.refl _ _) _
  have hb1 : Blk (w.alloc (.cells #[.string T, .int .i64 0, .int .i64 1, .int .i64 1] 86)) g T ⟨0, 1, 1⟩ := hg ▸ heap_alloc_new w _
  rw [← hg]
  generalize (w.alloc (.cells #[.string T, .int .i64 0, .int .i64 1, .int .i64 1] 86)) = w1 at *
  have HG := Aside0.mk hg
  have HB1 := Aside0.mk hB1
  have Hb1 := Aside0.mk hb1
  clear hg hB1 hb1
  go_loopg [7] k (fun kq v7 w' => ∃ (s : Sc) (acc : List S63), Aside0 (s.Ok T) ∧ Aside0 (toksF k T kq s acc = some r) ∧ Aside0 (Blk w' g T s) ∧ Aside0 (Below w.heap.size w w') ∧ Aside0 (Kd.R k63 63 w' w.heap.size (fun k => k ≠ g) v7 acc))
  case atStart => exact ⟨⟨0, 1, 1⟩, [], ⟨⟨Nat.le_trans HT.out (by decide), Nat.zero_le _, Nat.le_refl _, Nat.le_refl _⟩⟩, HH, Hb1, HB1, ⟨Kd.R_nil _ _ _ _ _⟩⟩
  case round =>
    obtain ⟨s, acc, HS, HF, HBK, HBW, HR⟩ := hrel
    cases gk with
    | zero => exact absurd HF.out (by simp [toksF])
    | succ n =>
      have hF := HF.out
      rw [toksF] at hF
      have hbk := blank_walk T g s wr m (by rw [HG.out]; exact HM.out.1) ((HBW.out.cell HM.out.1).trans HM.out.2) HS.out HBK.out
      generalize blankF T (T.size + 1) s = bl at hF hbk
      obtain ⟨be, s1⟩ := bl
      have HBL := Aside0.mk hbk
      clear hbk HF
      split at hF
      · cases hF
      rename_i hacc
      have HA := Aside0.mk (Nat.le_of_not_lt hacc)
      clear hacc
      by_cases hbe : be = 0
      · have b1 : (be != 0) = false := by rw [hbe]; rfl
        rw [if_neg (fun x => x hbe)] at hF
        go_wp2_with (first | (go_at_call 79; (with_reducible refine HBL.out.mono ?_); rintro e w2 ⟨rfl, hM2, hBK2, hOk⟩))
        have HB2 := Aside0.mk (Mut.to_below HBW.out (Nat.le_of_eq HG.out.symm) hM2)
        have HR2 := Aside0.mk (Kd.R_step HR.out (fun k hk hl => hM2.keep k hl hk))
        have HBK2 := Aside0.mk hBK2
        have HOK := Aside0.mk hOk
        have hz2 : w2.cell? ⟨g, 2, none⟩ = some (.int .i64 s1.line) := (blk_cell hBK2 2).trans rfl
        have hz3 : w2.cell? ⟨g, 3, none⟩ = some (.int .i64 s1.col) := (blk_cell hBK2 3).trans rfl
        have hz1 : w2.cell? ⟨g, 1, none⟩ = some (.int .i64 s1.at_) := (blk_cell hBK2 1).trans rfl
        clear hM2 hBK2 hOk HR HBW HBK HS HBL
        have hS0 : w2.drew.cell? ⟨g, 2, none⟩ = some (.int .i64 s1.line) ∧ w2.drew.cell? ⟨g, 3, none⟩ = some (.int .i64 s1.col) ∧ Below w2.heap.size w2 w2.drew := ⟨hz2, hz3, below_drew1 (Below.refl _ _)⟩
        go_region_held3 (fun w' => w'.cell? ⟨g, 2, none⟩ = some (.int .i64 s1.line) ∧ w'.cell? ⟨g, 3, none⟩ = some (.int .i64 s1.col) ∧ Below w2.heap.size w2 w') (first | exact hS0 | exact SB.sk hS0 _ | skip) (fail)
        rename_i hHeld
        clear hHeld hS0 hz1 hz2 hz3
        have hB3 : Below w2.heap.size w2 (w2.alloc (.cells #[.int .i64 0, .int .i64 s1.line, .int .i64 s1.col, .string ⟨#[]⟩, .bool false, .int .i64 0, .int .u64 0, .int .u64 0, .bool false] 63)).drew := below_drew1 (below_alloc (Below.refl _ _) _)
        have hT3 : TBlk (w2.alloc (.cells #[.int .i64 0, .int .i64 s1.line, .int .i64 s1.col, .string ⟨#[]⟩, .bool false, .int .i64 0, .int .u64 0, .int .u64 0, .bool false] 63)).drew w2.heap.size (tok0 s1) := heap_alloc_new w2 _
        have hB3' : Below w.heap.size w (w2.alloc (.cells #[.int .i64 0, .int .i64 s1.line, .int .i64 s1.col, .string ⟨#[]⟩, .bool false, .int .i64 0, .int .u64 0, .int .u64 0, .bool false] 63)).drew := below_drew1 (below_alloc HB2.out _)
        generalize (w2.alloc (.cells #[.int .i64 0, .int .i64 s1.line, .int .i64 s1.col, .string ⟨#[]⟩, .bool false, .int .i64 0, .int .u64 0, .int .u64 0, .bool false] 63)).drew = w3 at *
        have hgt : w2.heap.size = w2.heap.size := rfl
        have hlt2 := blk_lt HBK2.out
        generalize hgte : w2.heap.size = gt at hT3 hlt2 hgt ⊢
        have HGT := Aside0.mk hgte
        have HB3 := Aside0.mk hB3
        have HB3' := Aside0.mk hB3'
        have HT3 := Aside0.mk hT3
        have hbk3 : Blk w3 g T s1 := (hB3.block g (blk_lt HBK2.out)).trans HBK2.out
        have HBK3 := Aside0.mk hbk3
        have HLT := Aside0.mk hlt2
        have hz1 : w3.cell? ⟨g, 1, none⟩ = some (.int .i64 s1.at_) := (blk_cell hbk3 1).trans rfl
        have HFF := Aside0.mk hF
        clear hB3 hB3' hT3 hbk3 hlt2 hF hgte hgt
        by_cases hend : s1.at_ = T.size
        · have e1 : ((s1.at_ : Int) == (T.size : Int)) = true := beq_iff_eq.2 (by rw [hend])
          have e2 : (s1.at_ == T.size) = true := beq_iff_eq.2 hend
          have hF := HFF.out
          rw [if_pos hend] at hF
          injection hF with hF
          have HRE := Aside0.mk hF
          clear hF hend
          obtain ⟨hx0, hx1, hx2, hx3, hx4, hx5, hx6, hx7, hx8⟩ := sq_cells9 HT3.out
          go_wp2_with (first | ((with_reducible refine gate_builtin (b := .append) (xs := #[.tmp 47, .tmp 49]) rfl ?_); at_builtin; refine Kd.R_append k63 (w0 := w) (W := w3) w.heap.size rfl (.tmp 47) (.tmp 49) 56 63 (.agg #[.int .i64 0, .int .i64 0, .int .i64 0, .string ⟨#[]⟩, .bool false, .int .i64 0, .int .u64 0, .int .u64 0, .bool false]) 80 rfl Tryd.underlying56 infoTok rfl (by decide) (by omega) u7 acc (tok0 s1) [.int .i64 0, .int .i64 s1.line, .int .i64 s1.col, .string ⟨#[]⟩, .bool false, .int .i64 0, .int .u64 0, .int .u64 0, .bool false] (fun k => k ≠ g) (fun _ => False) rfl rfl ?aP (fun _ hk => hk.elim) ?aF ?aO ?aB ?aS ?aL ?_; (case aP => exact k63_mkM _ _ _ (tok0 s1)); (case aF => exact (fun k hk => Kd.freshB HBK3.out k hk)); (case aO => exact Kd.R_below HR2.out HB3.out); (case aB => exact HB3'.out); (case aS => exact HB3'.out.size); (case aL => exact len80 HA.out); intro v6 w6 ho6 hb6 hg6 hat6; have HR6 := Aside0.mk ho6; have HB6 := Aside0.mk hb6; have HG6 := Aside0.mk hg6; clear ho6 hb6 hg6 hat6))
          refine bodyPost_ret (results_tmp4 rfl _ _ _) rfl ?_
          rw [← HRE.out]
          exact ⟨_, rfl, Kd.R_mono HR6.out (fun _ _ => trivial), HB6.out⟩
        · have e1 : ((s1.at_ : Int) == (T.size : Int)) = false := beq_eq_false_iff_ne.2 (fun e => hend (Int.ofNat.inj e))
          have e2 : (s1.at_ == T.size) = false := beq_eq_false_iff_ne.2 hend
          have hF := HFF.out
          rw [if_neg hend] at hF
          obtain ⟨⟨er, n1, t1⟩, htok, hF⟩ := Option.bind_eq_some_iff.1 hF
          have HGT2 : g ≠ gt := Nat.ne_of_lt HLT.out
          have hg0 : 0 < g := by rw [HG.out]; exact HM.out.1
          have htw := token_walk k T g gt s1 (tok0 s1) w3 m hg0 (Nat.lt_trans hg0 HLT.out) ((HB3'.out.cell HM.out.1).trans HM.out.2) HOK.out HBK3.out HT3.out HGT2 (er, n1, t1) htok
          have HTW := Aside0.mk htw
          have HNE := Aside0.mk HGT2
          clear htw htok HFF hend HGT2 hg0
          by_cases her : er = 0
          · have b2 : (er != 0) = false := by rw [her]; rfl
            rw [if_neg (fun x => x her)] at hF
            split at hF
            · rename_i hle
              have HF := Aside0.mk hF
              have HLE := Aside0.mk hle
              have HER := Aside0.mk her
              clear hF hle her
              go_wp2_with (first
                | (go_at_call 80; (with_reducible refine HTW.out.mono ?_); rintro e w4 ⟨rfl, hM4, u, hu4, hu1, hu2, hu⟩; have hbk4 : Blk w4 g T s1 := (hM4.keep g (blk_lt HBK3.out) HNE.out).trans HBK3.out; have HSK := Aside0.mk (skip_walk T g n1 s1 w4 HOK.out HLE.out hbk4); have HM4 := Aside0.mk hM4; have HU4 := Aside0.mk hu4; have HU := Aside0.mk (hu HER.out); clear hM4 hu4 hu1 hu2 hu hbk4)
                | (go_at_call 81; (with_reducible refine HSK.out.mono ?_); rintro e w5 ⟨rfl, hM5, hBK5⟩; have hu5 : TBlk w5 gt u := (hM5.keep gt (blk_lt HU4.out) (Ne.symm HNE.out)).trans HU4.out; obtain ⟨hx0, hx1, hx2, hx3, hx4, hx5, hx6, hx7, hx8⟩ := sq_cells9 hu5; have HBK5 := Aside0.mk hBK5; have hB5 : Below w.heap.size w w5 := Mut.to_below (Mut.to_below HB3'.out (Nat.le_trans (Nat.le_of_eq HG.out.symm) (Nat.le_of_lt HLT.out)) HM4.out) (Nat.le_of_eq HG.out.symm) hM5; have HB5 := Aside0.mk hB5; have hR5 := Aside0.mk (Kd.R_step (w1 := w5) HR2.out (fun k hk hl => ((hM5.keep k (Nat.lt_of_lt_of_le (Nat.lt_of_lt_of_le hl HB3.out.size) HM4.out.size) hk).trans (HM4.out.keep k (Nat.lt_of_lt_of_le hl HB3.out.size) (Nat.ne_of_lt (by rw [← HGT.out]; exact hl)))).trans (HB3.out.block k hl))); clear hM5 hBK5 hB5 hu5)
                | ((with_reducible refine gate_builtin (b := .append) (xs := #[.tmp 66, .tmp 68]) rfl ?_); at_builtin; refine Kd.R_append k63 (w0 := w) (W := w5) w.heap.size rfl (.tmp 66) (.tmp 68) 56 63 (.agg #[.int .i64 0, .int .i64 0, .int .i64 0, .string ⟨#[]⟩, .bool false, .int .i64 0, .int .u64 0, .int .u64 0, .bool false]) 80 rfl Tryd.underlying56 infoTok rfl (by decide) (by omega) u7 acc u [.int .i64 u.f0, .int .i64 u.f1, .int .i64 u.f2, .string u.f3, .bool u.f4, .int .i64 u.f5.f0, .int .u64 u.f5.f1, .int .u64 u.f5.f2, .bool u.f6] (fun k => k ≠ g) (fun _ => False) rfl rfl ?aP (fun _ hk => hk.elim) ?aF ?aO ?aB ?aS ?aL ?_; (case aP => exact k63_mkM _ _ _ u); (case aF => exact (fun k hk => Kd.freshB HBK5.out k hk)); (case aO => exact hR5.out); (case aB => exact HB5.out); (case aS => exact HB5.out.size); (case aL => exact len80 HA.out); intro v6 w6 ho6 hb6 hg6 hat6; have HR6 := Aside0.mk ho6; have HB6 := Aside0.mk hb6; have HG6 := Aside0.mk hg6; clear ho6 hb6 hg6 hat6))
              go_roundg n
              case measure => exact Nat.lt_succ_self n
              case rel => exact ⟨Sc.skip T n1 s1, acc ++ [u], ⟨HOK.out.skip _ HLE.out⟩, ⟨by rw [HU.out]; exact HF.out⟩, ⟨(HG6.out.block g (blk_lt HBK5.out) (fun e => hR5.out.1 g e.symm rfl)).trans HBK5.out⟩, HB6, HR6⟩
            · cases hF
          · have b2 : (er != 0) = true := by unfold bne; rw [beq_eq_false_iff_ne.2 her]; rfl
            rw [if_pos her] at hF
            injection hF with hF
            have HRE := Aside0.mk hF
            clear hF
            go_wp2_with (first
                | (go_at_call 80; (with_reducible refine HTW.out.mono ?_); rintro e w4 ⟨rfl, hM4, u, hu4, hu1, hu2, hu⟩))
            obtain ⟨hx0, hx1, hx2, hx3, hx4, hx5, hx6, hx7, hx8⟩ := sq_cells9 hu4
            rw [hu1] at hx1
            rw [hu2] at hx2
            have HB4 := Aside0.mk (Mut.to_below HB3'.out (Nat.le_trans (Nat.le_of_eq HG.out.symm) (Nat.le_of_lt HLT.out)) hM4)
            clear hM4 hu4 hu1 hu2 hu
            go_quiet (fail)
            go_wp2_with fail
            refine bodyPost_ret (results_tmp4 rfl _ _ _) rfl ?_
            rw [← HRE.out]
            exact ⟨_, rfl, Kd.R_nil _ _ _ _ _, pw_below_drewN HB4.out _⟩
      · have b1 : (be != 0) = true := by unfold bne; rw [beq_eq_false_iff_ne.2 hbe]; rfl
        rw [if_pos hbe] at hF
        injection hF with hF
        subst hF
        go_wp2_with (first | (go_at_call 79; (with_reducible refine HBL.out.mono ?_); rintro e w2 ⟨rfl, hM2, hBK2, hOk⟩))
        have hc2 : w2.cell? ⟨g, 2, none⟩ = some (.int .i64 s1.line) := (blk_cell hBK2 2).trans rfl
        have hc3 : w2.cell? ⟨g, 3, none⟩ = some (.int .i64 s1.col) := (blk_cell hBK2 3).trans rfl
        have HB2 := Aside0.mk (Mut.to_below HBW.out (Nat.le_of_eq HG.out.symm) hM2)
        clear hM2 hBK2 hOk
        go_quiet (fail)
        go_wp2_with fail
        refine bodyPost_ret (results_tmp4 rfl _ _ _) rfl ?_
        exact ⟨_, rfl, Kd.R_nil _ _ _ _ _, pw_below_drewN HB2.out _⟩
end Go.Proofs.YtlamgdibnnmbmaaDoor.PLex
end
