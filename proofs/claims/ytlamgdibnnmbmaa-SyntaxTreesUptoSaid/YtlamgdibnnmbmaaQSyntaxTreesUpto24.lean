/- Part 25 of the proof of SyntaxTreesUptoSaid: The law SyntaxTrees, where the trees that it reads are of bulk at most 1048576: it returns true; the trees read behind the call as it read before. Out of the plain theorem of YtlamgdibnnmbmaaTr5. -/
import Derived.Test.YtlamgdibnnmbmaaQSyntaxTreesUpto23
section
namespace Go.Proofs.Ytlamgdibnnmbmaa.PSyn
open Go.RowKit Go.Proofs.YtlamgdibnnmbmaaW.PrintWords Go.Proofs.YtlamgdibnnmbmaaW.PrintLast Go.Proofs.YtlamgdibnnmbmaaW.PrintMore
set_option linter.unusedVariables false
set_option linter.unusedSimpArgs false
section
variable {P : Program} {ops : Array Oper} {rest : List Oper} {o : Oper} {a : Act} {Q : Exit → Act → World → Prop}
theorem callC {w : World} (N : Option Tmp) {f : FuncId} {fn : Func} {ags : Array Operand} {ts : Array TypeId} {t : Tmp} {caps : Array Value} (hf : P.funcs[f]? = some fn) (args : Array Value)
    (h : Calls P f (args ++ caps) w fun e w' => ∃ v, e = .returned v ∧ wpList P ops Q rest (a.put N v) w')
    (hop : o.op = .call { callee := .value (.tmp t), args := ags, argTypes := ts }) (hfv : a.eval (.tmp t) = .func (.func f) #[] caps) (hd : o.dst = N) (hg : o.guard = none) (hname : (fn.name == "runtime.NumGoroutine") = false) (hb : fn.body.isSome = true)
    (hargs : ags.map a.eval = args) : wpList P ops Q (o :: rest) a w := by
  refine wpList_plain hg fun K hK => ?_
  have he := enters_ hf hname hb (args ++ caps) w
  have hrun : (execOp a.eval o).run P w = .ok (.enter f (args ++ caps)) w := by
    unfold execOp
    simp [hop, resolve, Deferred.ofValue, invoke, hfv, hargs, he]
  unfold Oper.wp
  rw [hrun, Oper.upon_enter]
  refine h.mono fun e w'' hh => ?_
  obtain ⟨v, rfl, hk⟩ := hh
  subst hd
  exact hK _ _ hk
end
theorem visitAll_append (stop : Int) : ∀ l m : List S27, visitAll stop (l ++ m) = visitAll stop l ++ visitAll stop m
  | [], _ => rfl
  | a :: l, m => by simp only [List.cons_append, visitAll]; rw [visitAll_append stop l m, List.append_assoc]
theorem visit_take (stop : Int) (l : List S27) (i : Nat) (h : i < l.length) : visitAll stop (l.take (i + 1)) = visitAll stop (l.take i) ++ (l[i]).visit stop := by
  rw [List.take_succ_eq_append_getElem h, visitAll_append]
  simp only [visitAll, List.append_nil]
theorem cnt_mem : ∀ (l : List S27) (i : Nat) (h : i < l.length), cntAll (l.take i) + (l[i]).cnt ≤ cntAll l
  | a :: l, 0, h => by simp only [List.take_zero, cntAll, List.getElem_cons_zero]; omega
  | a :: l, i + 1, h => by
    have := cnt_mem l i (by simpa using h)
    simp only [List.take_succ_cons, cntAll, List.getElem_cons_succ]; omega
theorem mem_bulk' (l : List S27) (i : Nat) (h : i < l.length) : (l[i]).bulk ≤ bulkAll l := by
  have : ∀ (l : List S27) (x : S27), x ∈ l → x.bulk ≤ bulkAll l := by
    intro l
    induction l with
    | nil => intro x hx; cases hx
    | cons a l ih =>
      intro x hx
      simp only [bulkAll]
      rcases List.mem_cons.1 hx with rfl | hx
      · omega
      · have := ih x hx; omega
  exact this l _ (List.getElem_mem h)
section
variable {w0 w1 : World} {B g gs : Nat} {stop : Int}
set_option maxHeartbeats 1500000 in
set_option maxRecDepth 100000 in
theorem walk17 (hB : B ≤ w1.heap.size) (hgB : g < B) (hgs : w1.heap[gs]? = some (.cells #[.int .i64 stop] 3 (0, 0))) (hsB : gs < B) (hne : gs ≠ g) (h01 : Below w0.heap.size w0 w1) (h0g : w0.heap.size ≤ g) (h0B : w0.heap.size ≤ B) (n : Nat) :
    ∀ (a : S27) (cs : List Value) (w : World) (xs : List Int), a.bulk ≤ n → a.bulk ≤ 1048576 → k27.K w0 a cs → Stp B g w1 w xs → xs.length + a.cnt ≤ 1000000 →
    Calls Try.prog 17 #[.agg cs.toArray, .func (.func 18) #[] #[.pointer (some ⟨g, 0, none⟩), .pointer (some ⟨gs, 0, none⟩)]] w fun e w' => e = .returned (.tuple #[]) ∧ Stp B g w1 w' (xs ++ a.visit stop) := by
  induction n with
  | zero => intro a _ _ _ h; have := bulk_pos a; omega
  | succ n ih =>
    intro a cs w xs ha hbk hK hS hx
    obtain ⟨A9, c9, rfl, hl9, hC9⟩ := k27_open hK
    have hlen := length_le a.f7
    have hkb := kids_bulk a
    have hce := cnt_eq a
    have CL := Aside0.mk (fun w xs hS hx => clos18 (w0 := w0) hB hgB hgs hsB hne h01 h0g h0B a _ w xs hK hS hx)
    have HS := Aside0.mk hS
    have HX := Aside0.mk hx
    have HCE := Aside0.mk hce
    have HKB := Aside0.mk (And.intro hkb ha)
    have HC9 := Aside0.mk hC9
    have HL9 := Aside0.mk hl9
    have IH := Aside0.mk ih
    have HLEN := Aside0.mk hlen
    have BK := Aside0.mk hbk
    have ST := Aside0.mk (And.intro hB (And.intro h01 (And.intro h0g (And.intro h0B hgB))))
    have hve := visit_eq stop a
    have VE := Aside0.mk hve
    clear hK hS hx hB hgB hgs hsB hne h01 h0g h0B hC9 hl9 ih hkb ha hce hlen hbk hve
    by_cases hst : a.f0 = stop
    · have hbn : (a.f0 != stop) = false := bne_eq_false_iff_eq.2 hst
      have HST := Aside0.mk hst
      clear hst
      go_enter Try.func17, Try.ntmps17
      go_wp2_with (first
        | ((with_reducible refine gate_dst (N := 2) rfl ?_); refine box_event ?hg (N := 2) ?hd (cs := #[.int .i64 a.f0, .int .i64 a.f1, .int .i64 a.f2, .string a.f3, .string a.f4, .int .i64 a.f5.f0, .int .u64 a.f5.f1, .int .u64 a.f5.f2, .bool a.f6, .slice A9 a.f7.length c9]) (t := 27) ?hr ?_; (case hd => rfl); (case hg => rfl); (case hr => (go_simp; done)); intro gb hg w2 hbox hb; have HS2 := Aside0.mk (HS.out.below ST.out.1 hb); have hc0 : w2.cell? ⟨gb, 0, none⟩ = some (.int .i64 a.f0) := (blk_cell hbox 0).trans rfl; have hc1 : w2.cell? ⟨gb, 1, none⟩ = some (.int .i64 a.f1) := (blk_cell hbox 1).trans rfl; have hc2 : w2.cell? ⟨gb, 2, none⟩ = some (.int .i64 a.f2) := (blk_cell hbox 2).trans rfl; have hc3 : w2.cell? ⟨gb, 3, none⟩ = some (.string a.f3) := (blk_cell hbox 3).trans rfl; have hc4 : w2.cell? ⟨gb, 4, none⟩ = some (.string a.f4) := (blk_cell hbox 4).trans rfl; have hc5 : w2.cell? ⟨gb, 5, none⟩ = some (.int .i64 a.f5.f0) := (blk_cell hbox 5).trans rfl; have hc6 : w2.cell? ⟨gb, 6, none⟩ = some (.int .u64 a.f5.f1) := (blk_cell hbox 6).trans rfl; have hc7 : w2.cell? ⟨gb, 7, none⟩ = some (.int .u64 a.f5.f2) := (blk_cell hbox 7).trans rfl; have hc8 : w2.cell? ⟨gb, 8, none⟩ = some (.bool a.f6) := (blk_cell hbox 8).trans rfl; have hc9 : w2.cell? ⟨gb, 9, none⟩ = some (.slice A9 a.f7.length c9) := (blk_cell hbox 9).trans rfl; clear hbox hb hg)
        | ((with_reducible refine gate_dst (N := 8) rfl ?_); refine callC (some 8) Try.func18 #[.agg #[.int .i64 a.f0, .int .i64 a.f1, .int .i64 a.f2, .string a.f3, .string a.f4, .int .i64 a.f5.f0, .int .u64 a.f5.f1, .int .u64 a.f5.f2, .bool a.f6, .slice A9 a.f7.length c9]] ?_ rfl rfl rfl rfl (by kernel_rfl) rfl (by (try simp only [List.map_toArray, List.map_cons, List.map_nil]); rfl); refine (CL.out w2 xs HS2.out (by have := HX.out; have := HCE.out; omega)).mono ?_; rintro e w3 ⟨rfl, hs3, hf3⟩; refine ⟨_, rfl, ?_⟩; have HS3 := Aside0.mk hs3; clear hs3 hf3 hc0 hc1 hc2 hc3 hc4 hc5 hc6 hc7 hc8 hc9))
      (try simp only [Exit.inBlock, Exit.then])
      refine bodyPost_ret (results_none rfl _ _ _) rfl ?_
      refine ⟨rfl, ?_⟩
      rw [VE.out, if_pos HST.out]
      exact HS3.out
    · have hbn : (a.f0 != stop) = true := bne_iff_ne.2 hst
      have HST := Aside0.mk hst
      clear hst
      go_enter Try.func17, Try.ntmps17
      go_wp2_with (first
        | ((with_reducible refine gate_dst (N := 2) rfl ?_); refine box_event ?hg (N := 2) ?hd (cs := #[.int .i64 a.f0, .int .i64 a.f1, .int .i64 a.f2, .string a.f3, .string a.f4, .int .i64 a.f5.f0, .int .u64 a.f5.f1, .int .u64 a.f5.f2, .bool a.f6, .slice A9 a.f7.length c9]) (t := 27) ?hr ?_; (case hd => rfl); (case hg => rfl); (case hr => (go_simp; done)); intro gb hg w2 hbox hb; have HS2 := Aside0.mk (HS.out.below ST.out.1 hb); have hc0 : w2.cell? ⟨gb, 0, none⟩ = some (.int .i64 a.f0) := (blk_cell hbox 0).trans rfl; have hc1 : w2.cell? ⟨gb, 1, none⟩ = some (.int .i64 a.f1) := (blk_cell hbox 1).trans rfl; have hc2 : w2.cell? ⟨gb, 2, none⟩ = some (.int .i64 a.f2) := (blk_cell hbox 2).trans rfl; have hc3 : w2.cell? ⟨gb, 3, none⟩ = some (.string a.f3) := (blk_cell hbox 3).trans rfl; have hc4 : w2.cell? ⟨gb, 4, none⟩ = some (.string a.f4) := (blk_cell hbox 4).trans rfl; have hc5 : w2.cell? ⟨gb, 5, none⟩ = some (.int .i64 a.f5.f0) := (blk_cell hbox 5).trans rfl; have hc6 : w2.cell? ⟨gb, 6, none⟩ = some (.int .u64 a.f5.f1) := (blk_cell hbox 6).trans rfl; have hc7 : w2.cell? ⟨gb, 7, none⟩ = some (.int .u64 a.f5.f2) := (blk_cell hbox 7).trans rfl; have hc8 : w2.cell? ⟨gb, 8, none⟩ = some (.bool a.f6) := (blk_cell hbox 8).trans rfl; have hc9 : w2.cell? ⟨gb, 9, none⟩ = some (.slice A9 a.f7.length c9) := (blk_cell hbox 9).trans rfl; have HBX := Aside0.mk hbox; have GL := Aside0.mk hg; have RL := Aside0.mk (show some gb ≠ rowOf w2 g from by obtain ⟨v, hv, _⟩ := HS2.out.cell; rw [rowOf_eq hv]; exact fun e => HS.out.row_lt hb hv hg e.symm); have GG := Aside0.mk (show g < gb from by rw [hg]; exact Nat.lt_of_lt_of_le ST.out.2.2.2.2 (Nat.le_trans ST.out.1 HS.out.size)); clear hbox hb hg)
        | ((with_reducible refine gate_dst (N := 8) rfl ?_); refine callC (some 8) Try.func18 #[.agg #[.int .i64 a.f0, .int .i64 a.f1, .int .i64 a.f2, .string a.f3, .string a.f4, .int .i64 a.f5.f0, .int .u64 a.f5.f1, .int .u64 a.f5.f2, .bool a.f6, .slice A9 a.f7.length c9]] ?_ rfl rfl rfl rfl (by kernel_rfl) rfl (by (try simp only [List.map_toArray, List.map_cons, List.map_nil]); rfl); refine (CL.out w2 xs HS2.out (by have := HX.out; have := HCE.out; omega)).mono ?_; rintro e w3 ⟨rfl, hs3, hf3⟩; refine ⟨_, rfl, ?_⟩; have HS3 := Aside0.mk hs3; have hbx3 := (hf3.keep gb (blk_lt HBX.out) (by have := GG.out; omega) RL.out).trans HBX.out; have hk9 : w3.cell? ⟨gb, 9, none⟩ = some (.slice A9 a.f7.length c9) := (blk_cell hbx3 9).trans rfl; clear hbx3; clear hs3 hf3 hc0 hc1 hc2 hc3 hc4 hc5 hc6 hc7 hc8 hc9))
      clear hk9
      go_loopg [13] a.f7.length (fun kq v13 w' => ∃ i : Nat, v13 = .int .i64 i ∧ i ≤ a.f7.length ∧ Aside0 (a.f7.length - i ≤ kq) ∧ Aside0 (Stp B g w1 w' ((xs ++ [a.f0]) ++ visitAll stop (a.f7.take i))))
      case atStart => exact ⟨0, rfl, Nat.zero_le _, ⟨by omega⟩, ⟨by simpa [visitAll] using HS3.out⟩⟩
      case round =>
        obtain ⟨i, rfl, hile, HQ, HS5⟩ := hrel
        by_cases hi : i < a.f7.length
        · obtain ⟨iz, hiz⟩ : ∃ iz : Int, iz = (i : Int) := ⟨_, rfl⟩
          have p1 : 0 ≤ iz := by omega
          have q1 : iz < (a.f7.length : Int) := by omega
          obtain ⟨ad, AX, cX, eA, hx0, hx1, hx2, hx3, hx4, hx5, hx6, hx7, hx8, hx9, hlX, hiX⟩ := at_T27 HC9.out iz p1 q1
          cases eA
          have HO := Aside0.mk (HS5.out.old ST.out.2.1 ST.out.2.2.1 ST.out.2.2.2.1)
          replace hx0 := (HO.out.cell (World.block_lt_of_cell? w0 _ hx0)).trans hx0
          replace hx1 := (HO.out.cell (World.block_lt_of_cell? w0 _ hx1)).trans hx1
          replace hx2 := (HO.out.cell (World.block_lt_of_cell? w0 _ hx2)).trans hx2
          replace hx3 := (HO.out.cell (World.block_lt_of_cell? w0 _ hx3)).trans hx3
          replace hx4 := (HO.out.cell (World.block_lt_of_cell? w0 _ hx4)).trans hx4
          replace hx5 := (HO.out.cell (World.block_lt_of_cell? w0 _ hx5)).trans hx5
          replace hx6 := (HO.out.cell (World.block_lt_of_cell? w0 _ hx6)).trans hx6
          replace hx7 := (HO.out.cell (World.block_lt_of_cell? w0 _ hx7)).trans hx7
          replace hx8 := (HO.out.cell (World.block_lt_of_cell? w0 _ hx8)).trans hx8
          replace hx9 := (HO.out.cell (World.block_lt_of_cell? w0 _ hx9)).trans hx9
          have hKX := k27_mk w0 (rd_T27 a.f7 iz) hlX hiX
          have HKX := Aside0.mk hKX
          have HI := Aside0.mk hi
          have hrd : rd_T27 a.f7 iz = a.f7[i]'HI.out := by rw [hiz]; exact rd27 a.f7 i HI.out
          have RD := Aside0.mk hrd
          have HIZ := Aside0.mk hiz
          clear hKX hrd hlX hiX
          rw [← hiz]
          clear hiz hi
          go_wp2_with (first
            | ((with_reducible refine gate_dst (N := 5) rfl ?_); refine box_event ?hg (N := 5) ?hd (cs := #[.int .i64 0, .int .i64 0, .int .i64 0, .string (⟨#[]⟩ : ByteArray), .string (⟨#[]⟩ : ByteArray), .int .i64 0, .int .u64 0, .int .u64 0, .bool false, .slice none 0 0]) (t := 27) ?hr ?_; (case hd => rfl); (case hg => rfl); (case hr => (go_simp; done)); intro gq hg w9 hbox hb; have hz0 : w9.cell? ⟨gq, 0, none⟩ = some (.int .i64 0) := (blk_cell hbox 0).trans rfl; have hf0 := blk_frozen hbox 0; have hz1 : w9.cell? ⟨gq, 1, none⟩ = some (.int .i64 0) := (blk_cell hbox 1).trans rfl; have hf1 := blk_frozen hbox 1; have hz2 : w9.cell? ⟨gq, 2, none⟩ = some (.int .i64 0) := (blk_cell hbox 2).trans rfl; have hf2 := blk_frozen hbox 2; have hz3 : w9.cell? ⟨gq, 3, none⟩ = some (.string (⟨#[]⟩ : ByteArray)) := (blk_cell hbox 3).trans rfl; have hf3 := blk_frozen hbox 3; have hz4 : w9.cell? ⟨gq, 4, none⟩ = some (.string (⟨#[]⟩ : ByteArray)) := (blk_cell hbox 4).trans rfl; have hf4 := blk_frozen hbox 4; have hz5 : w9.cell? ⟨gq, 5, none⟩ = some (.int .i64 0) := (blk_cell hbox 5).trans rfl; have hf5 := blk_frozen hbox 5; have hz6 : w9.cell? ⟨gq, 6, none⟩ = some (.int .u64 0) := (blk_cell hbox 6).trans rfl; have hf6 := blk_frozen hbox 6; have hz7 : w9.cell? ⟨gq, 7, none⟩ = some (.int .u64 0) := (blk_cell hbox 7).trans rfl; have hf7 := blk_frozen hbox 7; have hz8 : w9.cell? ⟨gq, 8, none⟩ = some (.bool false) := (blk_cell hbox 8).trans rfl; have hf8 := blk_frozen hbox 8; have hz9 : w9.cell? ⟨gq, 9, none⟩ = some (.slice none 0 0) := (blk_cell hbox 9).trans rfl; have hf9 := blk_frozen hbox 9; have HB9 := Aside0.mk hb; have GQ := Aside0.mk hg; clear hbox hb hg)
            | ((with_reducible refine gate_dst (N := 19) rfl ?_); refine callA (some 19) Try.func17 #[.agg #[.int .i64 (rd_T27 a.f7 iz).f0, .int .i64 (rd_T27 a.f7 iz).f1, .int .i64 (rd_T27 a.f7 iz).f2, .string (rd_T27 a.f7 iz).f3, .string (rd_T27 a.f7 iz).f4, .int .i64 (rd_T27 a.f7 iz).f5.f0, .int .u64 (rd_T27 a.f7 iz).f5.f1, .int .u64 (rd_T27 a.f7 iz).f5.f2, .bool (rd_T27 a.f7 iz).f6, .slice AX (rd_T27 a.f7 iz).f7.length cX], .func (.func 18) #[] #[.pointer (some ⟨g, 0, none⟩), .pointer (some ⟨gs, 0, none⟩)]] ?_; refine (IH.out (rd_T27 a.f7 iz) _ _ ((xs ++ [a.f0]) ++ visitAll stop (a.f7.take i)) (by rw [RD.out]; have := mem_bulk' a.f7 i HI.out; have := HKB.out.1; have := HKB.out.2; omega) (by rw [RD.out]; have := mem_bulk' a.f7 i HI.out; have := HKB.out.1; have := BK.out; omega) HKX.out (HS5.out.below ST.out.1 (by repeat (first | (with_reducible exact HB9.out) | (with_reducible refine Below.setCell ?_ (Nat.le_of_eq GQ.out.symm) _)))) (by rw [RD.out]; have h1 := cnt_mem a.f7 i HI.out; have h2 := visitAll_len stop (a.f7.take i); have h3 := HX.out; have h4 := HCE.out; simp only [List.length_append, List.length_cons, List.length_nil]; omega)).mono ?_; rintro e w10 ⟨rfl, hs10⟩; refine ⟨_, rfl, ?_⟩; have HS10 := Aside0.mk hs10; clear hs10 hz0 hf0 hz1 hf1 hz2 hf2 hz3 hf3 hz4 hf4 hz5 hf5 hz6 hf6 hz7 hf7 hz8 hf8 hz9 hf9))
          have e13 : Value.int IntKind.i64 (wrap64 (iz + 1)) = .int .i64 ((i + 1 : Nat) : Int) := by
            rw [HIZ.out, w64 (by have := HI.out; have := HLEN.out; have := HKB.out.1; have := BK.out; omega)]; rfl
          have e10 : (xs ++ [a.f0] ++ visitAll stop (List.take i a.f7) ++ S27.visit stop (rd_T27 a.f7 iz)) = (xs ++ [a.f0]) ++ visitAll stop (a.f7.take (i + 1)) := by
            rw [visit_take stop a.f7 i HI.out, ← RD.out]; simp only [List.append_assoc]
          have HS11 := Aside0.mk (e10 ▸ HS10.out)
          clear e10 HS10
          rw [e13]
          clear e13
          go_roundg (a.f7.length - (i + 1))
          case measure => have := HQ.out; have := HI.out; omega
          case rel => exact ⟨i + 1, rfl, HI.out, ⟨Nat.le_refl _⟩, HS11⟩
        · obtain rfl : i = a.f7.length := by omega
          go_wp2
          go_end0
          refine ⟨rfl, ?_⟩
          rw [VE.out, if_neg HST.out]
          have e : xs ++ (a.f0 :: visitAll stop a.f7) = (xs ++ [a.f0]) ++ visitAll stop (a.f7.take a.f7.length) := by rw [List.take_length]; simp
          rw [e]
          exact HS5.out
end
end Go.Proofs.Ytlamgdibnnmbmaa.PSyn
end
