/- Part 25 of the proof of BitsCatCardSaid: The law BitsCat: for all arguments it returns true; each argument reads behind the call as it read before. Out of the plain theorem of YtfigblfjogpojaaDoorPureBitsCat and the printed contract. -/
import Derived.Test.YtfigblfjogpojaaDoorQBitsCat15
import Derived.Test.YtfigblfjogpojaaDoorQBitsCat16
import Derived.Test.YtfigblfjogpojaaDoorQBitsCat23
import Derived.OpenShut
section
namespace Go.Proofs.YtfigblfjogpojaaDoor.PBits
open Go.RowKit Go.Proofs.YtfigblfjogpojaaDoorW.PrintWords Go.Proofs.YtfigblfjogpojaaDoorW.PrintLast Go.Proofs.YtfigblfjogpojaaDoorW.PrintMore Go.Proofs.YtfigblfjogpojaaDoor.Bz
set_option linter.unusedVariables false
set_option linter.unusedSimpArgs false
set_option maxRecDepth 100000 in
theorem vectors_200 : masklaw1_vectors.f 200 = some true := by decide +kernel
theorem vectors_ev : Ev (fun k => masklaw1_vectors.f k) true := Ev.of masklaw1_vectors.mono vectors_200
theorem cat_j7 (l : List BV) (b : BV) (n : Int) (hl : ∀ b ∈ l, b.u) (hm : l.length ≤ 9223372036854775807) (hu : b.u) (hn : -9223372036854775808 ≤ n ∧ n ≤ 9223372036854775807) :
    Ev (fun k => masklaw1_BitsCat.j7 k (l.map BV.s) n b.W (b.v : Int) (b.x : Int) (catS l).1 (catS l).2.1 (catS l).2.2 (repS b n).1 (repS b n).2.1 (repS b n).2.2) true := by
  refine Ev.step (fun k => by rw [masklaw1_BitsCat.j7]) ?_
  refine Ev.bind (Cat_ev l hl hm) (Ev.pos (by simp) (Ev.bind (Rep_ev b hu n hn) ((Ev.now _).eq (by simp))))
theorem cs_replicate (b : BV) (i : Nat) : cs (List.replicate (i + 1) b) = cs (List.replicate i b) ++ vs b.w b.v b.x := by
  rw [List.replicate_succ, cs_cons]
theorem cat_l2 (l : List BV) (b : BV) (n : Nat) (hl : ∀ b ∈ l, b.u) (hm : l.length ≤ 9223372036854775807) (hu : b.u) (hok : b.ok = true) (h1 : 1 ≤ n) (h2 : n ≤ 64) (d : Nat) : ∀ i : Nat, i + d = n →
    Ev (fun k => masklaw1_BitsCat.l2 k (l.map BV.s) (n : Int) (cs (List.replicate i b)) (n : Int) (i : Int) b.W (b.v : Int) (b.x : Int) (catS l).1 (catS l).2.1 (catS l).2.2) true := by
  obtain ⟨hw, h3, h4, h5, h6⟩ := BV.ok_w hok
  induction d with
  | zero =>
    intro i hi
    obtain rfl : i = n := by omega
    refine Ev.step (fun k => by rw [masklaw1_BitsCat.l2]) ?_
    refine Ev.neg (by omega) ?_
    have e : repS b (i : Int) = catS (List.replicate i b) := by
      unfold repS
      rw [if_pos ⟨hok, by omega, by omega⟩, Int.toNat_natCast]
    refine Ev.bind (B_cat (by rw [List.all_eq_true]; intro c hc; rw [List.eq_of_mem_replicate hc]; exact hok)) ?_
    rw [← e]
    exact cat_j7 l b i hl hm hu (by omega)
  | succ d ih =>
    intro i hi
    have ih := ih (i + 1) (by omega)
    rw [cs_replicate] at ih
    refine Ev.step (fun k => by rw [masklaw1_BitsCat.l2]) ?_
    refine Ev.pos (by omega) ?_
    rw [hw]
    refine Ev.bind (V_ev hu.1 hu.2 h4) (Ev.pos ?_ ?_)
    · rw [vs_length, cs_length, tot_replicate]
      have : i * b.w ≤ 64 * 64 := Nat.mul_le_mul (by omega) h4
      omega
    · rw [w64 (by omega)]
      rw [hw] at ih
      exact ih
theorem cat_j4 (l : List BV) (b : BV) (n : Int) (hl : ∀ b ∈ l, b.u) (hm : l.length ≤ 9223372036854775807) (hu : b.u) (hn : -9223372036854775808 ≤ n ∧ n ≤ 9223372036854775807) :
    Ev (fun k => masklaw1_BitsCat.j4 k (l.map BV.s) n b.W (b.v : Int) (b.x : Int) (catS l).1 (catS l).2.1 (catS l).2.2 0 0 0) true := by
  have no : ¬ (b.ok = true ∧ 1 ≤ n ∧ n ≤ 64) → Ev (fun k => masklaw1_BitsCat.j5 k (l.map BV.s) n false b.W (b.v : Int) (b.x : Int) (catS l).1 (catS l).2.1 (catS l).2.2 0 0 0) true := by
    intro h
    have e : repS b n = (0, 0, 0) := by unfold repS; rw [if_neg h]
    have h7 := cat_j7 l b n hl hm hu hn
    rw [e] at h7
    exact Ev.step (fun k => by rw [masklaw1_BitsCat.j5]) (Ev.neg (by decide) h7)
  refine Ev.step (fun k => by rw [masklaw1_BitsCat.j4]) ?_
  refine Ev.bind (Valid_ev b.W b.v b.x hu.1 hu.2) ?_
  by_cases h1 : b.ok = true
  · rw [show okB b.W b.v b.x = true from h1]
    refine Ev.pos rfl ?_
    by_cases h2 : n ≥ 1
    · refine Ev.pos h2 ?_
      by_cases h3 : n ≤ 64
      · rw [decide_eq_true h3]
        refine Ev.step (fun k => by rw [masklaw1_BitsCat.j5]) (Ev.pos rfl ?_)
        obtain ⟨m, rfl⟩ := Int.eq_ofNat_of_zero_le (show 0 ≤ n by omega)
        exact cat_l2 l b m hl hm hu h1 (by omega) (by omega) m 0 (by omega)
      · rw [decide_eq_false h3]
        exact no (by omega)
    · exact Ev.neg h2 (no (by omega))
  · rw [Bool.not_eq_true] at h1
    rw [show okB b.W b.v b.x = false from h1]
    exact Ev.neg (by decide) (no (by rw [h1]; rintro ⟨h, _⟩; cases h))
theorem cat_l1 (l : List BV) (b : BV) (n : Int) (hl : ∀ b ∈ l, b.u) (hm : l.length ≤ 9223372036854775807) (hu : b.u) (hn : -9223372036854775808 ≤ n ∧ n ≤ 9223372036854775807) (x : List Int) (d : Nat) : ∀ (i : Nat) (ok : Bool), i + d = l.length →
    ((ok && (l.drop i).all BV.ok) = true → Ev (fun k => maskref1_B.f k x) (catS l)) → ((ok && (l.drop i).all BV.ok) = false → catS l = (0, 0, 0)) →
    Ev (fun k => masklaw1_BitsCat.l1 k (l.map BV.s) n x ok (l.map BV.s) ((l.map BV.s).length : Int) (i : Int) b.W (b.v : Int) (b.x : Int)) true := by
  induction d with
  | zero =>
    intro i ok hi hB h0
    rw [List.drop_eq_nil_of_le (by omega)] at hB h0
    have h4 := cat_j4 l b n hl hm hu hn
    refine Ev.step (fun k => by rw [masklaw1_BitsCat.l1]) (Ev.neg (by rw [List.length_map]; omega) ?_)
    cases ok with
    | true => exact Ev.pos rfl (Ev.bind (hB rfl) h4)
    | false =>
      rw [h0 rfl] at h4
      exact Ev.neg (by decide) h4
  | succ d ih =>
    intro i ok hi hB h0
    have hlt : i < l.length := by omega
    rw [List.drop_eq_getElem_cons hlt, List.all_cons] at hB h0
    refine Ev.step (fun k => by rw [masklaw1_BitsCat.l1]) ?_
    refine Ev.pos (by rw [List.length_map]; omega) (Ev.pos (by omega) (Ev.pos (by rw [List.length_map]; omega) ?_))
    rw [w64 (by omega), rd_bv l i hlt]
    have huc := hl _ (List.getElem_mem hlt)
    generalize l[i] = c at hB h0 huc
    cases ok with
    | true =>
      refine Ev.pos rfl (Ev.bind (Valid_ev c.W c.v c.x huc.1 huc.2) ?_)
      refine ih (i + 1) _ (by omega) ?_ ?_
      · intro h; exact hB (by rw [Bool.true_and]; exact h)
      · intro h; exact h0 (by rw [Bool.true_and]; exact h)
    | false =>
      refine Ev.neg (by decide) (ih (i + 1) _ (by omega) ?_ ?_)
      · intro h; simp at h
      · intro _; exact h0 (by simp)
theorem cat_l0 (l : List BV) (b : BV) (n : Int) (hl : ∀ b ∈ l, b.u) (hm : l.length ≤ 9223372036854775807) (hu : b.u) (hn : -9223372036854775808 ≤ n ∧ n ≤ 9223372036854775807) : ∀ i : Nat, i ≤ l.length → (∀ c ∈ l.drop i, c.ok = true) → tot (l.drop i) ≤ 128 →
    Ev (fun k => masklaw1_BitsCat.l0 k (l.map BV.s) n (cs (l.drop i)) true ((i : Int) - 1) b.W (b.v : Int) (b.x : Int)) true := by
  have last : ∀ i : Nat, i ≤ l.length → (∀ c ∈ l.drop i, c.ok = true) → (i = 0 ∨ 64 < tot (l.drop i)) → Ev (fun k => masklaw1_BitsCat.j2 k (l.map BV.s) n (cs (l.drop i)) true b.W (b.v : Int) (b.x : Int)) true := by
    intro i hi hok hend
    refine Ev.step (fun k => by rw [masklaw1_BitsCat.j2]) ?_
    refine cat_l1 l b n hl hm hu hn (cs (l.drop i)) l.length 0 true (by omega) ?_ ?_
    · intro h
      rw [Bool.true_and, List.drop_zero] at h
      rcases hend with rfl | hend
      · rw [List.drop_zero]; exact B_cat h
      · have ht : ¬ tot l ≤ 64 := by
          have e : tot (l.take i ++ l.drop i) = tot l := by rw [List.take_append_drop]
          rw [tot_append] at e
          omega
        have e : catS l = (0, 0, 0) := by unfold catS; rw [if_neg (fun h => ht h.2)]
        rw [e]
        exact B_out (.inr (by rw [cs_length]; exact hend))
    · intro h
      rw [Bool.true_and, List.drop_zero] at h
      unfold catS
      rw [if_neg (by rw [h]; rintro ⟨h, _⟩; cases h)]
  intro i
  induction i with
  | zero =>
    intro hi hok ht
    refine Ev.step (fun k => by rw [masklaw1_BitsCat.l0]) (Ev.neg (by omega) ?_)
    exact Ev.step (fun k => by rw [masklaw1_BitsCat.j1]) (Ev.neg (by decide) (last 0 hi hok (.inl rfl)))
  | succ i ih =>
    intro hi hok ht
    have hlt : i < l.length := by omega
    have ei : ((i + 1 : Nat) : Int) - 1 = (i : Int) := by omega
    rw [ei]
    refine Ev.step (fun k => by rw [masklaw1_BitsCat.l0]) (Ev.pos (by omega) ?_)
    by_cases h64 : tot (l.drop (i + 1)) ≤ 64
    · rw [decide_eq_true (show ((cs (l.drop (i + 1))).length : Int) ≤ 64 by rw [cs_length]; omega)]
      refine Ev.step (fun k => by rw [masklaw1_BitsCat.j1]) (Ev.pos rfl (Ev.pos (by omega) (Ev.pos (by rw [List.length_map]; omega) ?_)))
      rw [rd_bv l i hlt]
      have hd : l.drop i = l[i] :: l.drop (i + 1) := List.drop_eq_getElem_cons hlt
      rw [hd] at ih
      have huc := hl _ (List.getElem_mem hlt)
      have hin := List.getElem_mem hlt
      generalize l[i] = c at huc ih hin
      refine Ev.bind (Valid_ev c.W c.v c.x huc.1 huc.2) ?_
      by_cases h1 : c.ok = true
      · obtain ⟨hw, h3, h4, h5, h6⟩ := BV.ok_w h1
        rw [show okB c.W c.v c.x = true from h1]
        refine Ev.pos rfl ?_
        rw [show (c.s).f0 = (c.w : Int) from hw]
        refine Ev.bind (V_ev huc.1 huc.2 h4) (Ev.pos (by rw [vs_length, cs_length]; omega) ?_)
        rw [w64 (by omega)]
        have ih := ih (by omega) (by intro e he; rcases List.mem_cons.1 he with rfl | he <;> first | exact h1 | exact hok _ he) (by simp only [tot]; omega)
        rw [cs_cons] at ih
        exact ih
      · rw [Bool.not_eq_true] at h1
        rw [show okB c.W c.v c.x = false from h1]
        refine Ev.neg (by decide) ?_
        refine Ev.step (fun k => by rw [masklaw1_BitsCat.j2]) ?_
        refine cat_l1 l b n hl hm hu hn (cs (l.drop (i + 1))) l.length 0 false (by omega) (by intro h; simp at h) ?_
        intro _
        unfold catS
        rw [if_neg]
        rintro ⟨h, _⟩
        have := List.all_eq_true.1 h c hin
        rw [h1] at this; cases this
    · rw [decide_eq_false (show ¬ ((cs (l.drop (i + 1))).length : Int) ≤ 64 by rw [cs_length]; omega)]
      exact Ev.step (fun k => by rw [masklaw1_BitsCat.j1]) (Ev.neg (by decide) (last (i + 1) hi hok (.inr (by omega))))
theorem wf_u64 {a : Int} (h : (Lit.int .u64 a).wf = true) : ∃ n : Nat, a = (n : Int) ∧ n < 2 ^ 64 := by
  have h1 := bounds_u64 h
  exact ⟨a.toNat, by omega, by omega⟩
def toBV (s : S24) : BV := ⟨s.f0, s.f1.toNat, s.f2.toNat⟩
theorem BitsCat_core (l : List S24) (a0 a1 a2 n : Int) (hl : ∀ s ∈ l, (Lit.int .u64 s.f1).wf = true ∧ (Lit.int .u64 s.f2).wf = true) (hm : l.length ≤ 9223372036854775807)
    (h1 : (Lit.int .u64 a1).wf = true) (h2 : (Lit.int .u64 a2).wf = true) (h3 : (Lit.int .i64 n).wf = true) : ∃ k, masklaw1_BitsCat.f k l a0 a1 a2 n = some true := by
  obtain ⟨v, rfl, hv⟩ := wf_u64 h1
  obtain ⟨x, rfl, hx⟩ := wf_u64 h2
  have hn := bounds_i64 h3
  have hs : ∀ s ∈ l, (toBV s).s = s ∧ (toBV s).u := by
    intro s hs
    obtain ⟨p, hp, hp2⟩ := wf_u64 (hl s hs).1
    obtain ⟨q, hq, hq2⟩ := wf_u64 (hl s hs).2
    obtain ⟨f0, f1, f2⟩ := s
    simp only at hp hq
    subst hp; subst hq
    exact ⟨rfl, hp2, hq2⟩
  have e : (l.map toBV).map BV.s = l := by
    rw [List.map_map]
    conv => rhs; rw [← List.map_id l]
    exact List.map_congr_left fun s h => (hs s h).1
  have hu : ∀ b ∈ l.map toBV, b.u := by
    intro b hb
    obtain ⟨s, h, rfl⟩ := List.mem_map.1 hb
    exact (hs s h).2
  have hd : (l.map toBV).drop (l.map toBV).length = [] := List.drop_eq_nil_of_le (Nat.le_refl _)
  have key := cat_l0 (l.map toBV) ⟨a0, v, x⟩ n hu (by simpa using hm) ⟨hv, hx⟩ hn (l.map toBV).length (Nat.le_refl _) (by rw [hd]; intro c hc; cases hc) (by rw [hd]; exact Nat.zero_le _)
  rw [hd, e] at key
  refine Ev.rounds (g := fun k => masklaw1_BitsCat.f k l a0 (v : Int) (x : Int) n) ?_
  unfold masklaw1_BitsCat.f
  refine Ev.bind vectors_ev (Ev.pos rfl ?_)
  rw [List.length_map] at key
  rw [w64 (by omega)]
  exact key
theorem BitsCat_pure (a0 : List S24) (a1_0 a1_1 a1_2 a2 : Int) (w0 : ∀ s ∈ a0, ok24 s) (m0 : a0.length ≤ Go.maxLen) (_ : (Lit.int .i64 a1_0).wf = true) (h1 : (Lit.int .u64 a1_1).wf = true) (h2 : (Lit.int .u64 a1_2).wf = true)
    (h3 : (Lit.int .i64 a2).wf = true) : ∃ k, masklaw1_BitsCat.f k a0 a1_0 a1_1 a1_2 a2 = some true :=
  BitsCat_core a0 a1_0 a1_1 a1_2 a2 (fun s h => (w0 s h).2) m0 h1 h2 h3
end Go.Proofs.YtfigblfjogpojaaDoor.PBits
end
