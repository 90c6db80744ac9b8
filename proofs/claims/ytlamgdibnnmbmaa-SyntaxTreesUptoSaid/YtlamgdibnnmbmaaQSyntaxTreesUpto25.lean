/- Part 26 of the proof of SyntaxTreesUptoSaid: The law SyntaxTrees, where the trees that it reads are of bulk at most 1048576: it returns true; the trees read behind the call as it read before. Out of the plain theorem of YtlamgdibnnmbmaaTr5. -/
import Derived.Test.YtlamgdibnnmbmaaQSyntaxTreesUpto24
section
namespace Go.Proofs.Ytlamgdibnnmbmaa.PSyn
open Go.RowKit Go.Proofs.YtlamgdibnnmbmaaW.PrintWords Go.Proofs.YtlamgdibnnmbmaaW.PrintLast Go.Proofs.YtlamgdibnnmbmaaW.PrintMore
set_option linter.unusedVariables false
set_option linter.unusedSimpArgs false
def list16.T5 : Bool × List (List Nat × List Nat) := (true, [([], []), ([], []), ([1], [1]), ([], []), ([2, 3], [2, 3]), ([4], [4]), ([0, 5], [0, 5])])
def list16.B5 : List Nat := [0, 0, 2, 0, 14, 30, 63]
theorem list16.tab5 : rtab .any (opsOf Try.f16 5) = list16.T5 := by kernel_rfl
theorem list16.bits5 : waitsOk list16.T5.2 list16.B5 = true := by kernel_rfl
section
variable {P : Program} {ops : Array Oper} {o : Oper} {a : Act} {Q : Exit → Act → World → Prop}
theorem stepC {w : World} {K : Act → World → Prop} {N : Option Tmp} {f : FuncId} {fn : Func} {ags : Array Operand} {ts : Array TypeId} {t : Tmp} {caps : Array Value} (hf : P.funcs[f]? = some fn) (hname : (fn.name == "runtime.NumGoroutine") = false) (hb : fn.body.isSome = true) (args : Array Value)
    (hw : Region.wanted o (yielded ops a.tmps) = true) (hN : o.dst = N) (hop : o.op = .call { callee := .value (.tmp t), args := ags, argTypes := ts }) (hfv : a.eval (.tmp t) = .func (.func f) #[] caps) (hargs : ags.map a.eval = args)
    (h : Calls P f (args ++ caps) w fun e w' => ∃ v, e = .returned v ∧ K (a.put N v) w') : if Region.wanted o (yielded ops a.tmps) = true then Oper.wp P o a w K Q else K (a.put N undef) w := by
  refine call_ f (args ++ caps) hw hN ?_ h
  have he := enters_ hf hname hb (args ++ caps) w
  unfold execOp
  simp [hop, resolve, Deferred.ofValue, invoke, hfv, hargs, he]
end
theorem Fr.drew {g : Nat} {w w' : World} (h : Fr g w w') : Fr g w w'.drew := ⟨h.keep, h.row, h.size⟩
theorem Fr.row_ne {g gb : Nat} {w w' : World} (h : Fr g w w') (hb : gb < w.heap.size) (hr : some gb ≠ rowOf w g) : some gb ≠ rowOf w' g := by
  rcases h.row with q | ⟨b, q, hle⟩
  · rw [q]; exact hr
  · rw [q]; intro e; injection e with e; omega
section
variable {w0 w1 : World} {B g gs gl : Nat} {stop : Int}
set_option maxHeartbeats 2000000 in
set_option maxRecDepth 100000 in
theorem list16 (hB : B ≤ w1.heap.size) (hgB : g < B) (hgs : w1.heap[gs]? = some (.cells #[.int .i64 stop] 3 (0, 0))) (hsB : gs < B) (hne : gs ≠ g) (hgl : w1.heap[gl]? = some (.cells #[.func (.func 16) #[] #[.pointer (some ⟨g, 0, none⟩), .pointer (some ⟨gs, 0, none⟩), .pointer (some ⟨gl, 0, none⟩)]] 43 (0, 0))) (hlB : gl < B) (hnl : gl ≠ g)
    (h01 : Below w0.heap.size w0 w1) (h0g : w0.heap.size ≤ g) (h0B : w0.heap.size ≤ B) (n : Nat) :
    ∀ (a : S27) (cs : List Value) (w : World) (xs : List Int), a.bulk ≤ n → a.bulk ≤ 1048576 → k27.K w0 a cs → Stp B g w1 w xs → xs.length + a.cnt ≤ 1000000 →
    Calls Try.prog 16 #[.agg cs.toArray, .pointer (some ⟨g, 0, none⟩), .pointer (some ⟨gs, 0, none⟩), .pointer (some ⟨gl, 0, none⟩)] w fun e w' => e = .returned (.tuple #[]) ∧ Stp B g w1 w' (xs ++ a.visit stop) ∧ Fr g w w' := by
  induction n with
  | zero => intro a _ _ _ h; have := bulk_pos a; omega
  | succ n ih =>
    intro a cs w xs ha hbk hK hS hx
    obtain ⟨A9, c9, rfl, hl9, hC9⟩ := k27_open hK
    have hlen := length_le a.f7
    have hkb := kids_bulk a
    have hce := cnt_eq a
    have HS := Aside0.mk hS
    have HX := Aside0.mk hx
    have HCE := Aside0.mk hce
    have HKB := Aside0.mk (And.intro hkb ha)
    have HC9 := Aside0.mk hC9
    have HL9 := Aside0.mk hl9
    have IH := Aside0.mk ih
    have HLEN := Aside0.mk hlen
    have BK := Aside0.mk hbk
    have ST := Aside0.mk (And.intro hB (And.intro hgB (And.intro hgs (And.intro hsB hne))))
    have SL := Aside0.mk (And.intro hgl (And.intro hlB hnl))
    have SO := Aside0.mk (And.intro h01 (And.intro h0g h0B))
    have hve := visit_eq stop a
    have VE := Aside0.mk hve
    clear hK hS hx hB hgB hgs hsB hne h01 h0g h0B hC9 hl9 ih hkb ha hce hlen hbk hve hgl hlB hnl
    go_enter Try.func16, Try.ntmps16
    go_wp2_with (first
      | ((with_reducible refine gate_dst (N := 4) rfl ?_); refine box_event ?hg (N := 4) ?hd (cs := #[.int .i64 a.f0, .int .i64 a.f1, .int .i64 a.f2, .string a.f3, .string a.f4, .int .i64 a.f5.f0, .int .u64 a.f5.f1, .int .u64 a.f5.f2, .bool a.f6, .slice A9 a.f7.length c9]) (t := 27) ?hr ?_; (case hd => rfl); (case hg => rfl); (case hr => (go_simp; done)); intro gb hg w2 hbox hb; have HS2 := Aside0.mk (HS.out.below ST.out.1 hb); obtain ⟨v, hv, hR⟩ := HS2.out.cell; have HR := Aside0.mk hR; have HBX := Aside0.mk hbox; have GB := Aside0.mk (show B ≤ gb by rw [hg]; exact Nat.le_trans ST.out.1 HS.out.size); have HV := Aside0.mk hv; have OL := Aside0.mk (HS.out.row_lt hb hv hg); have F1 := Aside0.mk (Fr.of_below (g := g) (Nat.lt_of_lt_of_le ST.out.2.1 (Nat.le_trans ST.out.1 HS.out.size)) hb); have hc0 : w2.cell? ⟨gb, 0, none⟩ = some (.int .i64 a.f0) := (blk_cell hbox 0).trans rfl; have hcv : w2.cell? ⟨g, 0, none⟩ = some v := (blk_cell hv 0).trans rfl; clear hbox hb hg hv hR)
      | ((with_reducible refine gate_builtin (b := .append) (xs := #[.tmp 6, .tmp 9]) rfl ?_); at_builtin; refine Kd.R_append (Kd.int .i64) (w0 := w2) B rfl (.tmp 6) (.tmp 9) 42 3 (.int .i64 0) 8 rfl Try.underlying42 ?inf rfl (by decide) (by omega) v xs a.f0 [.int .i64 a.f0] (fun _ => True) (fun _ => False) rfl rfl ?aP (fun _ hk => hk.elim) ?aF ?aO ?aB ?aS ?aL ?_; (case inf => kernel_rfl); (case aP => exact rfl); (case aB => exact Below.refl _ _); (case aF => exact (fun _ _ => trivial)); (case aO => exact HR.out); (case aS => exact Nat.le_trans ST.out.1 HS2.out.size); (case aL => have := HX.out; have := HCE.out; omega); intro v3 w3 ho hb hg hat; clear hcv hc0; obtain ⟨A3, c3, rfl, hcg, hfg, hb3, hcs, hn1, S4⟩ := Stp.appended ST.out.1 ST.out.2.1 ST.out.2.2.1 ST.out.2.2.2.1 ST.out.2.2.2.2 HS2.out HV.out HBX.out GB.out OL.out ho hb hg hat; have HB3 := Aside0.mk hb3; have hn2 := ST.out.2.2.2.2; clear hb3 ho hb hg hat))
    have BX4 : Aside0 ((w3.setCell ⟨g, 0, none⟩ (.slice A3 (xs ++ [a.f0]).length c3)).heap[gb]? = some (.cells #[.int .i64 a.f0, .int .i64 a.f1, .int .i64 a.f2, .string a.f3, .string a.f4, .int .i64 a.f5.f0, .int .u64 a.f5.f1, .int .u64 a.f5.f2, .bool a.f6, .slice A9 a.f7.length c9] 27 (0, 0))) := ⟨by rw [Below.heap_setCell _ _ _ _ hn1]; exact HB3.out⟩
    have F4 := Aside0.mk (F1.out.trans S4.out.2)
    have RN := Aside0.mk (S4.out.2.row_ne (gb := gb) (blk_lt HBX.out) (by rw [rowOf_eq HV.out]; exact fun e => OL.out e.symm))
    have e4 : xs.length + 1 = (xs ++ [a.f0]).length := by simp
    rw [e4]
    clear e4 hcg hfg hcs hn1 hn2
    have S5 := Aside0.mk S4.out.1
    clear S4 F1
    generalize w3.setCell ⟨g, 0, none⟩ (.slice A3 (xs ++ [a.f0]).length c3) = w4 at BX4 F4 RN S5 ⊢
    go_loopg [5] a.f7.length (fun kq v5 w' => ∃ i : Nat, v5 = .int .i64 i ∧ i ≤ a.f7.length ∧ Aside0 (a.f7.length - i ≤ kq) ∧ Aside0 (Stp B g w1 w' ((xs ++ [a.f0]) ++ visitAll stop (a.f7.take i))) ∧ Aside0 (0 < i → a.f0 ≠ stop) ∧ Aside0 (w'.heap[gb]? = some (.cells #[.int .i64 a.f0, .int .i64 a.f1, .int .i64 a.f2, .string a.f3, .string a.f4, .int .i64 a.f5.f0, .int .u64 a.f5.f1, .int .u64 a.f5.f2, .bool a.f6, .slice A9 a.f7.length c9] 27 (0, 0))) ∧ Aside0 (Fr g w w') ∧ Aside0 (some gb ≠ rowOf w' g))
    case atStart => exact ⟨0, rfl, Nat.zero_le _, ⟨by omega⟩, ⟨by simpa [visitAll] using S5.out⟩, ⟨fun h => absurd h (Nat.lt_irrefl 0)⟩, BX4, F4, RN⟩
    case round =>
      clear BX4 F4 RN S5
      obtain ⟨i, rfl, hile, HQ, HS5, HP, BX, HF, RN⟩ := hrel
      have hgs5 : wr.heap[gs]? = some (.cells #[.int .i64 stop] 3 (0, 0)) := (HS5.out.keep gs ST.out.2.2.2.1 ST.out.2.2.2.2).trans ST.out.2.2.1
      have hq0 : wr.cell? ⟨gb, 0, none⟩ = some (.int .i64 a.f0) := (blk_cell BX.out 0).trans rfl
      have hq9 : wr.cell? ⟨gb, 9, none⟩ = some (.slice A9 a.f7.length c9) := (blk_cell BX.out 9).trans rfl
      have hqs : wr.cell? ⟨gs, 0, none⟩ = some (.int .i64 stop) := (blk_cell hgs5 0).trans rfl
      clear hgs5
      by_cases hi : i < a.f7.length
      · by_cases hst : a.f0 = stop
        ·
          have hb1 : (a.f0 != stop) = false := bne_eq_false_iff_eq.2 hst
          have HST := Aside0.mk hst
          clear hst
          go_wp2
          go_end0
          have hi0 : i = 0 := by
            rcases Nat.eq_zero_or_pos i with h | h
            · exact h
            · exact absurd HST.out (HP.out h)
          subst hi0
          refine ⟨rfl, ?_, HF.out⟩
          rw [VE.out, if_pos HST.out]
          simpa [visitAll] using HS5.out
        · have hb1 : (a.f0 != stop) = true := bne_iff_ne.2 hst
          have HST := Aside0.mk hst
          clear hst
          obtain ⟨iz, hiz⟩ : ∃ iz : Int, iz = (i : Int) := ⟨_, rfl⟩
          have p1 : 0 ≤ iz := by omega
          have q1 : iz < (a.f7.length : Int) := by omega
          obtain ⟨ad, AX, cX, eA, hx0, hx1, hx2, hx3, hx4, hx5, hx6, hx7, hx8, hx9, hlX, hiX⟩ := at_T27 HC9.out iz p1 q1
          cases eA
          have HO := Aside0.mk (HS5.out.old SO.out.1 SO.out.2.1 SO.out.2.2)
          have hy0 := (HO.out.cell (World.block_lt_of_cell? w0 _ hx0)).trans hx0
          have hy1 := (HO.out.cell (World.block_lt_of_cell? w0 _ hx1)).trans hx1
          have hy2 := (HO.out.cell (World.block_lt_of_cell? w0 _ hx2)).trans hx2
          have hy3 := (HO.out.cell (World.block_lt_of_cell? w0 _ hx3)).trans hx3
          have hy4 := (HO.out.cell (World.block_lt_of_cell? w0 _ hx4)).trans hx4
          have hy5 := (HO.out.cell (World.block_lt_of_cell? w0 _ hx5)).trans hx5
          have hy6 := (HO.out.cell (World.block_lt_of_cell? w0 _ hx6)).trans hx6
          have hy7 := (HO.out.cell (World.block_lt_of_cell? w0 _ hx7)).trans hx7
          have hy8 := (HO.out.cell (World.block_lt_of_cell? w0 _ hx8)).trans hx8
          have hy9 := (HO.out.cell (World.block_lt_of_cell? w0 _ hx9)).trans hx9
          have HHX := Aside0.mk (And.intro hx0 (And.intro hx1 (And.intro hx2 (And.intro hx3 (And.intro hx4 (And.intro hx5 (And.intro hx6 (And.intro hx7 (And.intro hx8 hx9)))))))))
          have HKX := Aside0.mk (k27_mk w0 (rd_T27 a.f7 iz) hlX hiX)
          have HI := Aside0.mk hi
          have RD := Aside0.mk (show (rd_T27 a.f7 iz) = a.f7[i]'HI.out by rw [hiz]; exact rd27 a.f7 i HI.out)
          have HIZ := Aside0.mk hiz
          clear hlX hiX hx0 hx1 hx2 hx3 hx4 hx5 hx6 hx7 hx8 hx9
          rw [← hiz]
          clear hiz hi
          go_wp2_with fail
          refine start_ (n := 7) (S := fun w' => w'.cell? ⟨gl, 0, none⟩ = some (.func (.func 16) #[] #[.pointer (some ⟨g, 0, none⟩), .pointer (some ⟨gs, 0, none⟩), .pointer (some ⟨gl, 0, none⟩)]) ∧ w'.cell? ⟨gb, 9, none⟩ = some (.slice (some ad) a.f7.length c9) ∧ w'.cell? (ad.add (iz.toNat * 10)) = some (.int .i64 (rd_T27 a.f7 iz).f0) ∧ w'.cell? ⟨(ad.add (iz.toNat * 10)).block, (ad.add (iz.toNat * 10)).off + 1, none⟩ = some (.int .i64 (rd_T27 a.f7 iz).f1) ∧ w'.cell? ⟨(ad.add (iz.toNat * 10)).block, (ad.add (iz.toNat * 10)).off + 2, none⟩ = some (.int .i64 (rd_T27 a.f7 iz).f2) ∧ w'.cell? ⟨(ad.add (iz.toNat * 10)).block, (ad.add (iz.toNat * 10)).off + 3, none⟩ = some (.string (rd_T27 a.f7 iz).f3) ∧ w'.cell? ⟨(ad.add (iz.toNat * 10)).block, (ad.add (iz.toNat * 10)).off + 4, none⟩ = some (.string (rd_T27 a.f7 iz).f4) ∧ w'.cell? ⟨(ad.add (iz.toNat * 10)).block, (ad.add (iz.toNat * 10)).off + 5, none⟩ = some (.int .i64 (rd_T27 a.f7 iz).f5.f0) ∧ w'.cell? ⟨(ad.add (iz.toNat * 10)).block, (ad.add (iz.toNat * 10)).off + 6, none⟩ = some (.int .u64 (rd_T27 a.f7 iz).f5.f1) ∧ w'.cell? ⟨(ad.add (iz.toNat * 10)).block, (ad.add (iz.toNat * 10)).off + 7, none⟩ = some (.int .u64 (rd_T27 a.f7 iz).f5.f2) ∧ w'.cell? ⟨(ad.add (iz.toNat * 10)).block, (ad.add (iz.toNat * 10)).off + 8, none⟩ = some (.bool (rd_T27 a.f7 iz).f6) ∧ w'.cell? ⟨(ad.add (iz.toNat * 10)).block, (ad.add (iz.toNat * 10)).off + 9, none⟩ = some (.slice AX (rd_T27 a.f7 iz).f7.length cX)) (ds := []) #[false, false, false, false, false, false, false] (by kernel_rfl) rfl rfl ⟨(blk_cell (show wr.drew.heap[gl]? = _ from (HS5.out.keep gl SL.out.2.1 SL.out.2.2).trans SL.out.1) 0).trans rfl, (blk_cell BX.out 9).trans rfl, hy0, hy1, hy2, hy3, hy4, hy5, hy6, hy7, hy8, hy9⟩ (fun hHeld => ?_)
          refine with_tabW list16.tab5 list16.bits5 (fun HT_ HW_ => ?_)
          clear hq0 hq9 hqs hy0 hy1 hy2 hy3 hy4 hy5 hy6 hy7 hy8 hy9
          refine pure_ (i := 1) (N := some 25) (v := ?_) (a' := ?_) #[false, true, false, false, false, false, false] rfl rfl (any_of HT_.out (by kernel_rfl)) (fun _ _ _ h => h) (Or.inl ⟨by rfl, ?_⟩) ?_ ?_
          rotate_left
          · intro w'
            go_simp
            with_reducible rfl
          rotate_left
          · simp only [Act.put, List.setIfInBounds_toArray, List.set_cons_zero, List.set_cons_succ, i64_w, i32_w]
            rfl
          refine pure_ (i := 3) (N := some 27) (v := ?_) (a' := ?_) #[false, true, false, true, false, false, false] rfl rfl (any_of HT_.out (by kernel_rfl)) (fun _ _ _ h => h) (Or.inl ⟨by rfl, ?_⟩) ?_ ?_
          rotate_left
          · intro w'
            go_simp
            with_reducible rfl
          rotate_left
          · simp only [Act.put, List.setIfInBounds_toArray, List.set_cons_zero, List.set_cons_succ, i64_w, i32_w]
            rfl
          refine take_ (i := 0) (N := some 24) (v := ?_) (a' := ?_) #[true, true, false, true, false, false, false] rfl rfl (take_ofW HT_.out HW_.out (by kernel_rfl)) (fun _ _ _ h => h) (Or.inl ⟨by rfl, ?_⟩) hHeld ?_ ?_
          rotate_left
          · rintro w' ⟨s0, s1, s2, s3, s4, s5, s6, s7, s8, s9, s10, s11⟩
            go_simp
            with_reducible rfl
          rotate_left
          · simp only [Act.put, List.setIfInBounds_toArray, List.set_cons_zero, List.set_cons_succ, i64_w, i32_w]
            rfl
          refine take_ (i := 2) (N := some 26) (v := ?_) (a' := ?_) #[true, true, true, true, false, false, false] rfl rfl (take_ofW HT_.out HW_.out (by kernel_rfl)) (fun _ _ _ h => h) (Or.inl ⟨by rfl, ?_⟩) hHeld ?_ ?_
          rotate_left
          · rintro w' ⟨s0, s1, s2, s3, s4, s5, s6, s7, s8, s9, s10, s11⟩
            go_simp
            with_reducible rfl
          rotate_left
          · simp only [Act.put, List.setIfInBounds_toArray, List.set_cons_zero, List.set_cons_succ, i64_w, i32_w]
            rfl
          refine pure_ (i := 4) (N := some 28) (v := ?_) (a' := ?_) #[true, true, true, true, true, false, false] rfl rfl (any_of HT_.out (by kernel_rfl)) (fun _ _ _ h => h) (Or.inl ⟨by rfl, ?_⟩) ?_ ?_
          rotate_left
          · intro w'
            go_simp
            with_reducible rfl
          rotate_left
          · simp only [Act.put, List.setIfInBounds_toArray, List.set_cons_zero, List.set_cons_succ, i64_w, i32_w]
            rfl
          refine take_ (i := 5) (N := some 29) (v := ?_) (a' := ?_) #[true, true, true, true, true, true, false] rfl rfl (take_ofW HT_.out HW_.out (by kernel_rfl)) (fun _ _ _ h => h) (Or.inl ⟨by rfl, ?_⟩) hHeld ?_ ?_
          rotate_left
          · rintro w' ⟨s0, s1, s2, s3, s4, s5, s6, s7, s8, s9, s10, s11⟩
            go_simp
            with_reducible rfl
          rotate_left
          · simp only [Act.put, List.setIfInBounds_toArray, List.set_cons_zero, List.set_cons_succ, i64_w, i32_w]
            rfl
          refine one_ (i := 6) (N := some 30) #[true, true, true, true, true, true, true] rfl rfl (one_of HT_.out (by kernel_rfl)) (by decide) (fun K hK => ?_)
          refine stepC Try.func16 (by kernel_rfl) rfl #[.agg #[.int .i64 (rd_T27 a.f7 iz).f0, .int .i64 (rd_T27 a.f7 iz).f1, .int .i64 (rd_T27 a.f7 iz).f2, .string (rd_T27 a.f7 iz).f3, .string (rd_T27 a.f7 iz).f4, .int .i64 (rd_T27 a.f7 iz).f5.f0, .int .u64 (rd_T27 a.f7 iz).f5.f1, .int .u64 (rd_T27 a.f7 iz).f5.f2, .bool (rd_T27 a.f7 iz).f6, .slice AX (rd_T27 a.f7 iz).f7.length cX]] rfl rfl rfl rfl (by (try simp only [List.map_toArray, List.map_cons, List.map_nil]); rfl) ?_
          refine (IH.out (rd_T27 a.f7 iz) _ _ ((xs ++ [a.f0]) ++ visitAll stop (a.f7.take i)) (by rw [RD.out]; have := mem_bulk' a.f7 i HI.out; have := HKB.out.1; have := HKB.out.2; omega) (by rw [RD.out]; have := mem_bulk' a.f7 i HI.out; have := HKB.out.1; have := BK.out; omega) HKX.out HS5.out.drew (by rw [RD.out]; have h1 := cnt_mem a.f7 i HI.out; have h2 := visitAll_len stop (a.f7.take i); have h3 := HX.out; have h4 := HCE.out; simp only [List.length_append, List.length_cons, List.length_nil]; omega)).mono ?_
          rintro e w10 ⟨rfl, hs, hf⟩
          refine ⟨_, rfl, ?_⟩
          have HS10 := Aside0.mk hs
          have HO10 := Aside0.mk (hs.old SO.out.1 SO.out.2.1 SO.out.2.2)
          have BX10 := Aside0.mk ((hf.keep gb (blk_lt BX.out) (by have := ST.out.2.1; have := GB.out; omega) RN.out).trans BX.out)
          have RN10 := Aside0.mk (hf.row_ne (blk_lt BX.out) RN.out)
          have HF10 := Aside0.mk (HF.out.drew.trans hf)
          clear hs hf
          refine hK.out _ _ ⟨(blk_cell ((HS10.out.keep gl SL.out.2.1 SL.out.2.2).trans SL.out.1) 0).trans rfl, (blk_cell BX10.out 9).trans rfl, (HO10.out.cell (World.block_lt_of_cell? w0 _ (HHX.out.1))).trans (HHX.out.1), (HO10.out.cell (World.block_lt_of_cell? w0 _ (HHX.out.2.1))).trans (HHX.out.2.1), (HO10.out.cell (World.block_lt_of_cell? w0 _ (HHX.out.2.2.1))).trans (HHX.out.2.2.1), (HO10.out.cell (World.block_lt_of_cell? w0 _ (HHX.out.2.2.2.1))).trans (HHX.out.2.2.2.1), (HO10.out.cell (World.block_lt_of_cell? w0 _ (HHX.out.2.2.2.2.1))).trans (HHX.out.2.2.2.2.1), (HO10.out.cell (World.block_lt_of_cell? w0 _ (HHX.out.2.2.2.2.2.1))).trans (HHX.out.2.2.2.2.2.1), (HO10.out.cell (World.block_lt_of_cell? w0 _ (HHX.out.2.2.2.2.2.2.1))).trans (HHX.out.2.2.2.2.2.2.1), (HO10.out.cell (World.block_lt_of_cell? w0 _ (HHX.out.2.2.2.2.2.2.2.1))).trans (HHX.out.2.2.2.2.2.2.2.1), (HO10.out.cell (World.block_lt_of_cell? w0 _ (HHX.out.2.2.2.2.2.2.2.2.1))).trans (HHX.out.2.2.2.2.2.2.2.2.1), (HO10.out.cell (World.block_lt_of_cell? w0 _ (HHX.out.2.2.2.2.2.2.2.2.2))).trans (HHX.out.2.2.2.2.2.2.2.2.2)⟩ (fun hHeld => ?_)
          clear hK K
          refine norm_ (a' := ?_) ?_ ?_
          rotate_left
          · show Act.put _ (some 30) _ = _
            simp only [Act.put, List.setIfInBounds_toArray, List.set_cons_zero, List.set_cons_succ, i64_w, i32_w]
            rfl
          refine done_ (done_of HT_.out (by kernel_rfl)) ?_
          clear hHeld
          go_wp2
          have e13 : Value.int IntKind.i64 (wrap64 (iz + 1)) = .int .i64 ((i + 1 : Nat) : Int) := by
            rw [HIZ.out, w64 (by have := HI.out; have := HLEN.out; have := HKB.out.1; have := BK.out; omega)]; rfl
          have e10 : (xs ++ [a.f0] ++ visitAll stop (List.take i a.f7) ++ S27.visit stop (rd_T27 a.f7 iz)) = (xs ++ [a.f0]) ++ visitAll stop (a.f7.take (i + 1)) := by
            rw [visit_take stop a.f7 i HI.out, ← RD.out]; simp only [List.append_assoc]
          have HS11 := Aside0.mk (e10 ▸ HS10.out)
          clear e10 HS10
          rw [e13]
          clear e13
          go_roundg (a.f7.length - (i + 1))
          case measure => have := HQ.out; have := HI.out; omega
          case rel => exact ⟨i + 1, rfl, HI.out, ⟨Nat.le_refl _⟩, HS11, ⟨fun _ => HST.out⟩, BX10, HF10, RN10⟩
      · obtain rfl : i = a.f7.length := by omega
        go_wp2
        go_end0
        refine ⟨rfl, ?_, HF.out⟩
        rw [VE.out]
        have h5 := HS5.out
        rw [List.take_length] at h5
        by_cases hst : a.f0 = stop
        · rw [if_pos hst]
          have h0 : a.f7 = [] := by
            rcases Nat.eq_zero_or_pos a.f7.length with h | h
            · exact List.length_eq_zero_iff.1 h
            · exact absurd hst (HP.out h)
          rw [h0] at h5
          simpa [visitAll] using h5
        · rw [if_neg hst]
          have e : xs ++ (a.f0 :: visitAll stop a.f7) = (xs ++ [a.f0]) ++ visitAll stop a.f7 := by simp
          rw [e]
          exact h5
end
end Go.Proofs.Ytlamgdibnnmbmaa.PSyn
end
