/- Part 24 of the proof of LexNamesCardSaid: The law LexNames: for all arguments it returns true; each argument reads behind the call as it read before. Out of the plain theorem of YtlamgdibnnmbmaaDoorPureLexNames and the printed contract. -/
import Derived.Test.YtlamgdibnnmbmaaDoorQLexNames22
section
namespace Go.Proofs.YtlamgdibnnmbmaaDoor.PLex
open Go.RowKit Go.Proofs.YtlamgdibnnmbmaaDoorW.PrintWords Go.Proofs.YtlamgdibnnmbmaaDoorW.PrintLast Go.Proofs.YtlamgdibnnmbmaaDoorW.PrintMore
set_option linter.unusedVariables false
set_option linter.unusedSimpArgs false
def valN (T : ByteArray) (a : Nat) : Nat → Int
  | 0 => 0
  | i + 1 => min (10 * valN T a i + (((T[a + i]!).toNat : Int) - 48)) 1099511627776
theorem dn {w a : World} (h : ∃ q, a = w.drewN q) (n : Nat) : ∃ q, a.drewN n = w.drewN q := by
  obtain ⟨q, rfl⟩ := h; exact ⟨q + n, World.drewN_drewN _ _ _⟩
theorem valN_round {v v' c : Int} (h0 : 0 ≤ v) (h1 : v ≤ 1099511627776) (h2 : 48 ≤ c) (h3 : c ≤ 57) (h : v' = min (10 * v + (c - 48)) 1099511627776) :
    min (IntKind.u64.wrap (IntKind.u64.wrap (10 * v) + (c - 48) % 256)) 1099511627776 = v' := by
  have e1 : IntKind.u64.wrap (10 * v) = 10 * v := IntWalk.u64_in _ ⟨by omega, by omega⟩
  have e2 : (c - 48) % 256 = c - 48 := by omega
  have e3 : IntKind.u64.wrap (10 * v + (c - 48)) = 10 * v + (c - 48) := IntWalk.u64_in _ ⟨by omega, by omega⟩
  rw [e1, e2, e3, h]
theorem wrap_succ {i n : Nat} (h : i < n) (hn : n ≤ 1000000) : wrap64 ((i : Int) + 1) = ((i + 1 : Nat) : Int) := by rw [w64' (by omega) (by omega)]; omega
theorem m_i {i n q : Nat} (h : i < n) (hq : n - i + 1 ≤ q) : n - (i + 1) + 1 < q := by omega
theorem runTo_all (T : ByteArray) (p : UInt8 → Bool) : ∀ n i, T.size - i ≤ n → ∀ j (h : j < T.size), i ≤ j → j < runTo T p i → p (T[j]'h) = true
  | 0, i, hn, j, h, hij, hj => by omega
  | n + 1, i, hn, j, h, hij, hj => by
    rw [runTo_eq] at hj
    split at hj
    · rename_i hi
      split at hj
      · rename_i hp
        rcases Nat.lt_or_ge i j with h1 | h1
        · exact runTo_all T p n (i + 1) (by omega) j h h1 hj
        · obtain rfl : i = j := by omega
          exact hp
      · omega
    · omega
theorem valN_le (T : ByteArray) (a : Nat) : ∀ i, (∀ j, j < i → 48 ≤ ((T[a + j]!).toNat : Int)) → 0 ≤ valN T a i ∧ valN T a i ≤ 1099511627776
  | 0, _ => by unfold valN; omega
  | i + 1, h => by
    have ih := valN_le T a i (fun j hj => h j (by omega))
    have := h i (by omega)
    unfold valN; omega
theorem left_num {gt : Nat} {t t' u : S63} {w w' : World} {rn : Nat} {er : Int} (h0 : er ≠ 0) (hrn : rn = 0) (hM : Mut gt w w') (hu : TBlk w' gt u) (h1 : u.f1 = t.f1) (h2 : u.f2 = t.f2) :
    Left gt t t' rn er w (.returned (.tuple #[.int .i64 0, .int .i64 er])) w' := by
  subst hrn
  exact ⟨rfl, hM, u, hu, h1, h2, fun h => absurd h h0⟩
set_option maxHeartbeats 2000000 in
set_option maxRecDepth 100000 in
theorem number_plain (T : ByteArray) (O : Int → Int × Int × Int) (hO : ∀ (v : Int) (W : World), Calls Tryd.prog 132 #[.int .i64 32, .int .u64 v] W fun e w' => e = .returned (.agg #[.int .i64 (O v).1, .int .u64 (O v).2.1, .int .u64 (O v).2.2]) ∧ Below W.heap.size W w')
    (g gt : Nat) (s : Sc) (t : S63) (w : World) (hs : s.Ok T) (hlt : s.at_ < T.size) (hb : Blk w g T s) (ht : TBlk w gt t) (hne : g ≠ gt) (n k n2 k2 : Nat) (er : Int) (rn : Nat) (hrn : rn = if er = 0 then n else 0) (her : er = if n < n2 then 10 else if 1 < n ∧ ((T[s.at_]'hlt).toNat : Int) = 48 then 10 else if 2147483647 < valN T s.at_ n then 3 else 0) (hk : k = runTo T figureP s.at_) (hn : s.at_ + n = k) (hkl : k ≤ T.size) (hq : ∀ h : k < T.size, T[k]'h ≠ 39) (hk2 : k2 = runTo T wordP k) (hn2 : s.at_ + n2 = k2) (hk2l : k2 ≤ T.size) :
    Calls Tryd.prog 107 #[.pointer (some ⟨g, 0, none⟩), .pointer (some ⟨gt, 0, none⟩)] w (Left gt t { t with f0 := 3, f5 := ⟨(O (valN T s.at_ n)).1, (O (valN T s.at_ n)).2.1, (O (valN T s.at_ n)).2.2⟩, f6 := true } rn er w) := by
  have mixed : Tryd.prog.follows .mixedOrders = true := by kernel_rfl
  have hw1 : Blk (w.setCell ⟨gt, 0, none⟩ (.int .i64 3)) g T s := (Below.heap_setCell _ _ _ _ hne).trans hb
  have hrun1 : Calls Tryd.prog 104 #[.pointer (some ⟨g, 0, none⟩), .int .i64 0, .func (.func 54) #[] #[]] (w.setCell ⟨gt, 0, none⟩ (.int .i64 3)) fun e w' => e = .returned (.int .i64 (n : Int)) ∧ ∃ k, w' = (w.setCell ⟨gt, 0, none⟩ (.int .i64 3)).drewN k := by
    refine (run_walk T figureP 54 Tryd.f54 Tryd.func54 (by kernel_rfl) rfl figure_walk g 0 s _ hs (by have := hs.size; have := hs.at_; omega) hw1).mono fun e w' ⟨h1, k, h2⟩ => ⟨?_, k, h2⟩
    rw [h1, Nat.add_zero, ← hk, ← hn, Nat.add_sub_cancel_left]
  have hrun2 : ∀ q, Calls Tryd.prog 104 #[.pointer (some ⟨g, 0, none⟩), .int .i64 (n : Int), .func (.func 129) #[] #[]] ((w.setCell ⟨gt, 0, none⟩ (.int .i64 3)).drewN q) fun e w' => e = .returned (.int .i64 (n2 : Int)) ∧ ∃ j, w' = (w.setCell ⟨gt, 0, none⟩ (.int .i64 3)).drewN (q + j) := by
    intro q
    refine (run_walk T wordP 129 Tryd.f129 Tryd.func129 (by kernel_rfl) rfl word_walk' g n s ((w.setCell ⟨gt, 0, none⟩ (.int .i64 3)).drewN q) hs (by have := hs.size; have := hs.at_; omega) hw1).mono fun e w' ⟨h1, j, h2⟩ => ⟨?_, j, by rw [h2, World.drewN_drewN]⟩
    rw [h1, hn, ← hk2, ← hn2, Nat.add_sub_cancel_left]
  have hdig : ∀ j, j < n → ∃ h : s.at_ + j < T.size, 48 ≤ ((T[s.at_ + j]'h).toNat : Int) ∧ ((T[s.at_ + j]'h).toNat : Int) ≤ 57 := by
    intro j hj
    have h : s.at_ + j < T.size := by omega
    have hp := runTo_all T figureP _ s.at_ (Nat.le_refl _) (s.at_ + j) h (by omega) (by omega)
    have := of_decide_eq_true hp
    exact ⟨h, by omega, by omega⟩
  have HDIG := Aside0.mk hdig
  have HER := Aside0.mk her
  have HRN := Aside0.mk hrn
  have HOf := Aside0.mk hO
  have R1 := Aside0.mk hrun1
  have R2 := Aside0.mk hrun2
  obtain ⟨hz0, hz1, hz2, hz3, hz4, hz5, hz6, hz7, hz8⟩ := sq_cells9 ht
  obtain ⟨hf0, hf1, hf2, hf3, hf4, hf5, hf6, hf7, hf8⟩ := sq_frozen9 ht
  have hT : TBlk (w.setCell ⟨gt, 0, none⟩ (.int .i64 3)) gt { t with f0 := 3 } := blk_put ht 0 _ rfl
  have HT := Aside0.mk hT
  clear hT
  have iw := add_num hn hkl hs.size
  have iw2 := add_num hn2 hk2l hs.size
  have HK := Aside0.mk (And.intro hk (And.intro hn hkl))
  have HK2 := Aside0.mk (And.intro hk2 (And.intro hn2 hk2l))
  have HW := Aside0.mk hw1
  have HNE := Aside0.mk hne
  have HMW := Aside0.mk ((Mut.refl gt w).put 0 (.int .i64 3))
  have ha0 : (0 : Int) ≤ (s.at_ : Int) := nn_int
  have ha1 : (s.at_ : Int) < (T.size : Int) := lt_int hlt
  have hn0 : (0 : Int) ≤ (n : Int) := nn_int
  have HS := Aside0.mk hs
  clear hdig her hrn hO hrun1 hrun2 ht hk hn hk2 hn2 hs hb hne
  go_enter Tryd.func107, Tryd.ntmps107
  have hW1 := HW.out
  go_wp2_with (first | (go_at_call 104; (with_reducible refine R1.out.mono ?_); rintro e w2 ⟨rfl, q2, rfl⟩))
  clear hz0 hz1 hz2 hz3 hz4 hz5 hz6 hz7 hz8 hf0 hf1 hf2 hf3 hf4 hf5 hf6 hf7 hf8
  generalize w.setCell ⟨gt, 0, none⟩ (.int .i64 3) = w1 at *
  have hc0 : w1.cell? ⟨g, 0, none⟩ = some (.string T) := (blk_cell hW1 0).trans rfl
  have hc1 : w1.cell? ⟨g, 1, none⟩ = some (.int .i64 s.at_) := (blk_cell hW1 1).trans rfl
  clear hW1
  have hcase : (∃ h : k < T.size, (((T[k]'h).toNat : Int) == 39) = false ∧ decide ((k : Int) < (T.size : Int)) = true ∧ (k : Int) < (T.size : Int)) ∨ (decide ((k : Int) < (T.size : Int)) = false ∧ decide (k < T.size) = false) := by
    by_cases hkT : k < T.size
    · exact .inl ⟨hkT, beq_eq_false_iff_ne.2 fun e => hq hkT (UInt8.toNat_inj.1 (by show _ = 39; omega)), decide_eq_true (lt_int hkT), lt_int hkT⟩
    · exact .inr ⟨decide_eq_false (by omega), decide_eq_false hkT⟩
  have i0 : (0 : Int) ≤ (k : Int) := nn_int
  clear hq
  obtain ⟨c0, hcc⟩ : ∃ c : Int, (((T[s.at_]'hlt).toNat : Int)) = c := ⟨_, rfl⟩
  rw [hcc] at HER
  have HTB := Aside0.mk HT.out
  have hways : (decide (n < n2) = true ∧ er = 10) ∨ (decide (n < n2) = false ∧ decide (1 < n) = true ∧ (c0 == 48) = true ∧ er = 10) ∨
      (decide (n < n2) = false ∧ decide (1 < n) = true ∧ (c0 == 48) = false ∧ er = if 2147483647 < valN T s.at_ n then 3 else 0) ∨ (decide (n < n2) = false ∧ decide (1 < n) = false ∧ er = if 2147483647 < valN T s.at_ n then 3 else 0) := by
    have h := HER.out
    by_cases h1 : n < n2
    · rw [if_pos h1] at h; exact .inl ⟨decide_eq_true h1, h⟩
    · rw [if_neg h1] at h
      by_cases h2 : 1 < n
      · by_cases h3 : c0 = 48
        · rw [if_pos ⟨h2, h3⟩] at h; exact .inr (.inl ⟨decide_eq_false h1, decide_eq_true h2, beq_iff_eq.2 h3, h⟩)
        · rw [if_neg (fun x => h3 x.2)] at h; exact .inr (.inr (.inl ⟨decide_eq_false h1, decide_eq_true h2, beq_eq_false_iff_ne.2 h3, h⟩))
      · rw [if_neg (fun x => h2 x.1)] at h; exact .inr (.inr (.inr ⟨decide_eq_false h1, decide_eq_false h2, h⟩))
  have HV := Aside0.mk (valN_le T s.at_ n (fun j hj => by obtain ⟨h, h1, h2⟩ := HDIG.out j hj; rw [getElem!_pos T _ h]; exact h1))
  clear HER
  have hrun : (∃ v : Nat, v = rn) := ⟨_, rfl⟩
  rcases hcase with ⟨hkT, hq2, hkd, i1⟩ | ⟨hkd, hkd2⟩
  all_goals
    go_quiet (fail)
    go_wp2_with fail
    rcases hways with ⟨hnn, hE⟩ | ⟨hnn, h1n, h48, hE⟩ | ⟨hnn, h1n, h48, hE⟩ | ⟨hnn, h1n, hE⟩
  case inl.inl | inr.inl | inl.inr.inl | inr.inr.inl =>
    as_aux_lemma =>
      have HE := Aside0.mk hE
      clear hE
      have h1n2 : (decide ((1 : Int) < (n : Int)) = decide (1 < n)) := decide_eq_decide.2 (by omega)
      go_quiet (first | (refine (R2.out _).mono ?_; rintro e w' ⟨h1, j, h2⟩; exact ⟨h1, _, h2.trans (congrArg (World.drewN w1) (Nat.add_assoc _ _ _))⟩))
      go_wp2_with fail
      refine bodyPost_ret (results_tmp2 rfl _ _ _) rfl ?_
      have h3 := HE.out
      have h4 := HRN.out
      rw [h3, if_neg (by decide)] at h4
      rw [h3]
      exact left_num (by decide) h4 (((HMW.out.drewN _).drewN _).drewN _) (u := { t with f0 := 3 }) HTB.out rfl rfl
  all_goals as_aux_lemma =>
    have HE := Aside0.mk hE
    clear hE
    have h1n2 : (decide ((1 : Int) < (n : Int)) = decide (1 < n)) := decide_eq_decide.2 (by omega)
    go_quiet (first | (refine (R2.out _).mono ?_; rintro e w' ⟨h1, j, h2⟩; exact ⟨h1, _, h2.trans (congrArg (World.drewN w1) (Nat.add_assoc _ _ _))⟩))
    go_wp2_with fail
    go_loopg [10, 115] (n + 1) (fun kq v10 v115 w' => ∃ i : Nat, v10 = .int .u64 (valN T s.at_ i) ∧ v115 = .int .i64 i ∧ Aside0 (i ≤ n) ∧ Aside0 (n - i + 1 ≤ kq) ∧ Aside0 (∃ q, w' = w1.drewN q))
    case atStart => exact ⟨0, rfl, rfl, ⟨Nat.zero_le _⟩, ⟨Nat.le_refl _⟩, ⟨dn (dn ⟨_, rfl⟩ _) _⟩⟩
    case round =>
      obtain ⟨i, rfl, rfl, HI, HQ, HWD⟩ := hrel
      obtain ⟨q, rfl⟩ := HWD.out
      by_cases hin : i < n
      · have hin2 : decide (i < n) = true := decide_eq_true hin
        have hin3 : decide ((i : Int) < (n : Int)) = true := decide_eq_true (lt_int hin)
        obtain ⟨k3, hk3', hk4, hd1, hd2⟩ : ∃ k3, k3 = s.at_ + i ∧ ∃ h : k3 < T.size, 48 ≤ ((T[k3]'h).toNat : Int) ∧ ((T[k3]'h).toNat : Int) ≤ 57 := ⟨_, rfl, HDIG.out i hin⟩
        have iw3 : IntKind.i64.wrap ((s.at_ : Int) + (i : Int)) = (k3 : Int) := by rw [hk3']; exact add_num rfl (by omega) HS.out.size
        have i3 : (0 : Int) ≤ (k3 : Int) := nn_int
        have i4 := lt_int hk4
        obtain ⟨c3, hc3⟩ : ∃ c3 : Int, ((T[k3]'hk4).toNat : Int) = c3 := ⟨_, rfl⟩
        have hval : valN T s.at_ (i + 1) = min (10 * valN T s.at_ i + (c3 - 48)) 1099511627776 := by
          rw [valN, ← hk3', getElem!_pos T k3 hk4, hc3]
        have hvl := valN_le T s.at_ i (fun j hj => by obtain ⟨h, h1, h2⟩ := HDIG.out j (by omega); rw [getElem!_pos T _ h]; exact h1)
        rw [hc3] at hd1 hd2
        have HVAL := Aside0.mk (valN_round hvl.1 hvl.2 hd1 hd2 hval)
        clear hk3' hval hvl hd1 hd2
        go_wp2_with fail
        go_quiet (fail)
        go_wp2_with fail
        go_roundg (n - (i + 1) + 1)
        case measure => have := HQ.out; have := hin; exact m_i hin HQ.out
        case rel => exact ⟨i + 1, congrArg _ HVAL.out, congrArg _ (wrap_succ hin (by have := HK.out; have := HS.out.size; omega)), ⟨hin⟩, ⟨Nat.le_refl _⟩, ⟨by first | exact ⟨_, rfl⟩ | exact dn ⟨_, rfl⟩ _⟩⟩
      · obtain rfl : i = n := by have := HI.out; omega
        clear hin
        have hir : decide ((i : Int) < (i : Int)) = false := decide_eq_false (by omega)
        have hir2 : decide (i < i) = false := decide_eq_false (by omega)
        generalize valN T s.at_ i = V at *
        have hE2 := HE.out
        by_cases hv : 2147483647 < V
        · have hvd : decide (2147483647 < V) = true := decide_eq_true hv
          go_wp2_with fail
          refine bodyPost_ret (results_tmp2 rfl _ _ _) rfl ?_
          have h4 := HRN.out
          rw [if_pos hv] at hE2
          rw [hE2, if_neg (by decide)] at h4
          rw [hE2]
          exact left_num (by decide) h4 (HMW.out.drewN _) (u := { t with f0 := 3 }) HTB.out rfl rfl
        · have hvd : decide (2147483647 < V) = false := decide_eq_false hv
          rw [if_neg hv] at hE2
          have hgt := blk_lt HTB.out
          go_wp2_with (first | (go_at_call 132; refine (HOf.out _ _).mono ?_; rintro e w2 ⟨rfl, hB⟩; have hT2 : TBlk w2 gt { t with f0 := 3 } := (hB.block gt hgt).trans HTB.out; obtain ⟨hz0, hz1, hz2, hz3, hz4, hz5, hz6, hz7, hz8⟩ := sq_cells9 hT2; obtain ⟨hf0, hf1, hf2, hf3, hf4, hf5, hf6, hf7, hf8⟩ := sq_frozen9 hT2; have HB := Aside0.mk hB; have HT2 := Aside0.mk hT2; clear hB hT2))
          refine bodyPost_ret (results_tmp2 rfl _ _ _) rfl ?_
          have h4 := HRN.out
          rw [hE2, if_pos rfl] at h4
          subst h4
          rw [hE2]
          exact ⟨rfl, ((((((HMW.out.drewN _).below HB.out).put 5 _).put 6 _).put 7 _).put 8 _), { t with f0 := 3, f5 := ⟨(O V).1, (O V).2.1, (O V).2.2⟩, f6 := true }, blk_put (blk_put (blk_put (blk_put HT2.out 5 _ rfl) 6 _ rfl) 7 _ rfl) 8 _ rfl, rfl, rfl, fun _ => rfl⟩
end Go.Proofs.YtlamgdibnnmbmaaDoor.PLex
end
