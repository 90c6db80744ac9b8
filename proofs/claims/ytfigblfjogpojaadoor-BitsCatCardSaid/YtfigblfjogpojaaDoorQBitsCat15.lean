/- Part 16 of the proof of BitsCatCardSaid: The law BitsCat: for all arguments it returns true; each argument reads behind the call as it read before. Out of the plain theorem of YtfigblfjogpojaaDoorPureBitsCat and the printed contract. -/
import Derived.Test.YtfigblfjogpojaaDoorQBitsCat13
import Derived.Test.YtfigblfjogpojaaDoorQBitsCat14
section
namespace Go.Proofs.YtfigblfjogpojaaDoor.PBits
open Go.RowKit Go.Proofs.YtfigblfjogpojaaDoorW.PrintWords Go.Proofs.YtfigblfjogpojaaDoorW.PrintLast Go.Proofs.YtfigblfjogpojaaDoorW.PrintMore Go.Proofs.YtfigblfjogpojaaDoor.Bz
set_option linter.unusedVariables false
set_option linter.unusedSimpArgs false
def BV.w (b : BV) : Nat := b.W.toNat
theorem BV.ok_w {b : BV} (h : b.ok = true) : b.W = (b.w : Int) ∧ 1 ≤ b.w ∧ b.w ≤ 64 ∧ b.v < 2 ^ b.w ∧ b.x < 2 ^ b.w := by
  obtain ⟨w, hw, h1, h2, h3, h4⟩ := okB_nat h
  have e : b.w = w := by unfold BV.w; omega
  rw [e]; exact ⟨hw, h1, h2, h3, h4⟩
def tot : List BV → Nat
  | [] => 0
  | b :: l => b.w + tot l
theorem tot_append (l m : List BV) : tot (l ++ m) = tot l + tot m := by induction l with
  | nil => simp [tot]
  | cons b l ih => simp [tot, ih]; omega
def cvf (f : BV → Nat) (l : List BV) : Nat := l.foldl (fun a b => a <<< b.w ||| f b) 0
theorem cvf_snoc (f : BV → Nat) (l : List BV) (b : BV) : cvf f (l ++ [b]) = cvf f l <<< b.w ||| f b := by simp [cvf]
def cs (l : List BV) : List Int := (l.reverse.map fun b => vs b.w b.v b.x).flatten
theorem cs_snoc (l : List BV) (b : BV) : cs (l ++ [b]) = vs b.w b.v b.x ++ cs l := by simp [cs]
theorem cs_cons (l : List BV) (b : BV) : cs (b :: l) = cs l ++ vs b.w b.v b.x := by simp [cs]
theorem cs_length (l : List BV) : (cs l).length = tot l := by
  induction l with
  | nil => rfl
  | cons b l ih => rw [cs_cons, List.length_append, ih, vs_length]; simp [tot]; omega
theorem vs_join (w w' v x v' x' : Nat) (hv : v < 2 ^ w) (hx : x < 2 ^ w) : vs (w' + w) (v' <<< w ||| v) (x' <<< w ||| x) = vs w v x ++ vs w' v' x' := by
  apply List.ext_getElem
  · simp [vs_length]; omega
  · intro i h1 h2
    rw [vs_get _ _ _ i (by simpa [vs_length] using h1)]
    by_cases h : i < w
    · rw [List.getElem_append_left (by rw [vs_length]; exact h), vs_get _ _ _ i h]
      unfold st
      have h3 : ¬ w ≤ i := by omega
      simp [Nat.testBit_or, Nat.testBit_shiftLeft, h3]
    · rw [List.getElem_append_right (by rw [vs_length]; omega)]
      simp only [vs_length]
      rw [vs_get _ _ _ (i - w) (by simp [vs_length] at h1; omega)]
      unfold st
      have h3 : w ≤ i := by omega
      simp [Nat.testBit_or, Nat.testBit_shiftLeft, h3, bit_out hv h3, bit_out hx h3]
theorem snoc_ind {P : List BV → Prop} (h0 : P []) (h1 : ∀ l b, P l → P (l ++ [b])) : ∀ l, P l := by
  intro l
  rw [← List.reverse_reverse l]
  induction l.reverse with
  | nil => exact h0
  | cons b m ih => rw [List.reverse_cons]; exact h1 _ _ ih
theorem cvf_lt (f : BV → Nat) : ∀ l : List BV, (∀ b ∈ l, f b < 2 ^ b.w) → cvf f l < 2 ^ tot l := by
  apply snoc_ind
  · intro _; simp [cvf, tot]
  · intro l b ih h
    rw [cvf_snoc, tot_append]
    have h1 := ih fun c hc => h c (by simp [hc])
    have h2 := h b (by simp)
    have e : tot [b] = b.w := by simp [tot]
    rw [e]
    refine lt_of_bits fun i hi => ?_
    rw [Nat.testBit_or, Nat.testBit_shiftLeft, bit_out h2 (by omega), bit_out h1 (by omega)]; simp
theorem cs_vs : ∀ l : List BV, (∀ b ∈ l, b.ok = true) → cs l = vs (tot l) (cvf BV.v l) (cvf BV.x l) := by
  apply snoc_ind
  · intro _; rfl
  · intro l b ih h
    have hb := BV.ok_w (h b (by simp))
    rw [cs_snoc, ih fun c hc => h c (by simp [hc]), cvf_snoc, cvf_snoc, tot_append]
    have e : tot [b] = b.w := by simp [tot]
    rw [e, vs_join _ _ _ _ _ _ hb.2.2.2.1 hb.2.2.2.2]
theorem tot_take (l : List BV) (i : Nat) : tot (l.take i) ≤ tot l := by
  have h : tot (l.take i ++ l.drop i) = tot l := by rw [List.take_append_drop]
  rw [tot_append] at h
  omega
theorem take_succ (l : List BV) (i : Nat) (h : i < l.length) : l.take (i + 1) = l.take i ++ [l[i]] := by rw [List.take_succ_eq_append_getElem h]
def catS (l : List BV) : Int × Int × Int := if l.all BV.ok = true ∧ tot l ≤ 64 then ((tot l : Int), ((cvf BV.v l : Nat) : Int), ((cvf BV.x l : Nat) : Int)) else (0, 0, 0)
theorem rd_bv (l : List BV) (i : Nat) (h : i < l.length) : rd_T24 (l.map BV.s) (i : Int) = (l[i]).s := by
  unfold rd_T24
  rw [Int.toNat_natCast, List.getD_eq_getElem?_getD, List.getElem?_map, List.getElem?_eq_getElem h]; rfl
theorem step_or (a b w t : Nat) (ha : a < 2 ^ t) (hb : b < 2 ^ w) (ht : t + w ≤ 64) : Go.bits .or .u64 (shl .u64 (a : Int) (w : Int)) (b : Int) = ((a <<< w ||| b : Nat) : Int) := by
  have h1 : a <<< w < 2 ^ 64 := by
    rw [Nat.shiftLeft_eq]
    calc a * 2 ^ w < 2 ^ t * 2 ^ w := Nat.mul_lt_mul_of_pos_right ha (Nat.pos_of_ne_zero (by simp))
      _ = 2 ^ (t + w) := (Nat.pow_add ..).symm
      _ ≤ 2 ^ 64 := Nat.pow_le_pow_right (by decide) ht
  rw [shl_n, Nat.mod_eq_of_lt h1, or_n _ _ h1 (lt64 hb (by omega))]
theorem Cat_l0 (l : List BV) (hl : ∀ b ∈ l, b.u) (hm : l.length ≤ 9223372036854775807) (d : Nat) : ∀ i : Nat, i + d = l.length → (∀ b ∈ l.take i, b.ok = true) → tot (l.take i) ≤ 64 →
    Ev (fun k => bits_Cat.l0 k (l.map BV.s) ((l.map BV.s).length : Int) (i : Int) ((tot (l.take i) : Nat) : Int) ((cvf BV.v (l.take i) : Nat) : Int) ((cvf BV.x (l.take i) : Nat) : Int)) (catS l) := by
  induction d with
  | zero =>
    intro i hi hok ht
    have e : l.take i = l := List.take_of_length_le (by omega)
    rw [e] at hok ht ⊢
    refine Ev.step (fun k => by rw [bits_Cat.l0]) ?_
    refine Ev.neg (by rw [List.length_map]; omega) ((Ev.now _).eq ?_)
    unfold catS
    rw [if_pos ⟨List.all_eq_true.2 hok, ht⟩]
  | succ d ih =>
    intro i hi hok ht
    have hlt : i < l.length := by omega
    have ih := ih (i + 1) (by omega)
    rw [take_succ l i hlt, tot_append, cvf_snoc, cvf_snoc] at ih
    refine Ev.step (fun k => by rw [bits_Cat.l0]) ?_
    refine Ev.pos (by rw [List.length_map]; omega) (Ev.pos (by omega) (Ev.pos (by rw [List.length_map]; omega) ?_))
    rw [rd_bv l i hlt]
    have hmem := List.getElem_mem hlt
    have hu := hl _ hmem
    have htot : tot (l.take i) + (l[i]).w ≤ tot l := by
      have := tot_take l (i + 1)
      rw [take_succ l i hlt, tot_append] at this
      simpa [tot] using this
    generalize l[i] = b at hmem hu htot ih
    have e1 : tot [b] = b.w := by simp [tot]
    rw [e1] at ih
    refine Ev.bind (valid1 hu.1 hu.2) ?_
    by_cases h1 : b.ok = true
    · obtain ⟨hw, h2, h3, h4, h5⟩ := BV.ok_w h1
      rw [show okB (b.s).f0 b.v b.x = true from h1]
      refine Ev.pos rfl ?_
      rw [show (b.s).f0 = (b.w : Int) from hw, show wrap64 (((tot (l.take i) : Nat) : Int) + (b.w : Int)) = ((tot (l.take i) + b.w : Nat) : Int) from w64 (by omega)]
      by_cases h6 : tot (l.take i) + b.w > 64
      · refine Ev.pos (by omega) ((Ev.now _).eq ?_)
        unfold catS
        rw [if_neg (by omega)]
      · refine Ev.neg (by omega) (Ev.pos (by omega) ?_)
        have hv : ∀ c ∈ l.take i, c.v < 2 ^ c.w := fun c hc => (BV.ok_w (hok c hc)).2.2.2.1
        have hx : ∀ c ∈ l.take i, c.x < 2 ^ c.w := fun c hc => (BV.ok_w (hok c hc)).2.2.2.2
        rw [show (b.s).f1 = (b.v : Int) from rfl, show (b.s).f2 = (b.x : Int) from rfl, step_or _ _ _ _ (cvf_lt _ _ hv) h4 (by omega), step_or _ _ _ _ (cvf_lt _ _ hx) h5 (by omega), w64 (by omega)]
        refine ih ?_ (by omega)
        intro c hc
        rcases List.mem_append.1 hc with hc | hc
        · exact hok c hc
        · simp only [List.mem_singleton] at hc; subst hc; exact h1
    · rw [Bool.not_eq_true] at h1
      rw [show okB (b.s).f0 b.v b.x = false from h1]
      refine Ev.neg (by decide) ((Ev.now _).eq ?_)
      unfold catS
      rw [if_neg]
      rintro ⟨h, _⟩
      rw [List.all_eq_true] at h
      have := h b hmem
      rw [h1] at this; cases this
theorem Cat_ev (l : List BV) (hl : ∀ b ∈ l, b.u) (hm : l.length ≤ 9223372036854775807) : Ev (fun k => bits_Cat.f k (l.map BV.s)) (catS l) := by
  unfold bits_Cat.f
  exact Cat_l0 l hl hm l.length 0 (by omega) (by simp) (by simp [tot])
theorem B_cat {l : List BV} (h : l.all BV.ok = true) : Ev (fun k => maskref1_B.f k (cs l)) (catS l) := by
  have hok := List.all_eq_true.1 h
  unfold catS
  by_cases h1 : tot l ≤ 64
  · rw [if_pos ⟨h, h1⟩]
    by_cases h0 : tot l = 0
    · have e : (cs l).length = 0 := by rw [cs_length]; exact h0
      refine (B_out (.inl e)).eq ?_
      have hv : cvf BV.v l < 2 ^ tot l := cvf_lt _ _ fun c hc => (BV.ok_w (hok c hc)).2.2.2.1
      have hx : cvf BV.x l < 2 ^ tot l := cvf_lt _ _ fun c hc => (BV.ok_w (hok c hc)).2.2.2.2
      rw [h0] at hv hx ⊢
      have a1 : cvf BV.v l = 0 := by simpa using hv
      have a2 : cvf BV.x l = 0 := by simpa using hx
      rw [a1, a2]; rfl
    · rw [cs_vs l hok]
      refine B_is (by omega) h1 (vs_length ..) (cvf_lt _ _ fun c hc => (BV.ok_w (hok c hc)).2.2.2.1) (cvf_lt _ _ fun c hc => (BV.ok_w (hok c hc)).2.2.2.2) fun i hi => vs_getD _ _ _ _ hi
  · rw [if_neg (by omega)]
    exact B_out (.inr (by rw [cs_length]; omega))
theorem tot_replicate (n : Nat) (b : BV) : tot (List.replicate n b) = n * b.w := by
  induction n with
  | zero => simp [tot]
  | succ n ih => rw [List.replicate_succ, tot, ih, Nat.succ_mul]; omega
def repS (b : BV) (n : Int) : Int × Int × Int := if b.ok = true ∧ 1 ≤ n ∧ n ≤ 64 then catS (List.replicate n.toNat b) else (0, 0, 0)
theorem Rep_l0 (b : BV) (hu : b.u) (n : Nat) (hn : n ≤ 64) (d : Nat) : ∀ i : Nat, i + d = n → Ev (fun k => bits_Rep.l0 k ((List.replicate i b).map BV.s) (n : Int) (i : Int) b.W (b.v : Int) (b.x : Int)) (catS (List.replicate n b)) := by
  induction d with
  | zero =>
    intro i hi
    obtain rfl : i = n := by omega
    refine Ev.step (fun k => by rw [bits_Rep.l0]) ?_
    refine Ev.neg (by omega) ?_
    refine Ev.bind (Cat_ev _ (by intro c hc; rw [List.eq_of_mem_replicate hc]; exact hu) (by simp; omega)) ?_
    exact Ev.now _
  | succ d ih =>
    intro i hi
    have ih := ih (i + 1) (by omega)
    rw [List.replicate_succ', List.map_append] at ih
    refine Ev.step (fun k => by rw [bits_Rep.l0]) ?_
    refine Ev.pos (by omega) (Ev.pos (by simp; omega) ?_)
    rw [w64 (by omega)]
    exact ih
theorem Rep_ev (b : BV) (hu : b.u) (n : Int) (hn : -9223372036854775808 ≤ n ∧ n ≤ 9223372036854775807) : Ev (fun k => bits_Rep.f k b.W (b.v : Int) (b.x : Int) n) (repS b n) := by
  unfold bits_Rep.f
  refine Ev.bind (valid1 hu.1 hu.2) ?_
  unfold repS
  by_cases h1 : b.ok = true
  · obtain ⟨hw, h2, h3, h4, h5⟩ := BV.ok_w h1
    rw [show okB b.W b.v b.x = true from h1]
    refine Ev.pos rfl ?_
    by_cases h6 : n < 1
    · refine Ev.pos h6 (Ev.step (fun k => by rw [bits_Rep.j0]) (Ev.pos rfl ((Ev.now _).eq ?_)))
      rw [if_neg (by omega)]
    · refine Ev.neg h6 (Ev.neg (by omega) (Ev.step (fun k => by rw [bits_Rep.j0]) ?_))
      obtain ⟨m, rfl⟩ := Int.eq_ofNat_of_zero_le (show 0 ≤ n by omega)
      obtain ⟨q, hq0⟩ : ∃ q : Nat, 64 / b.w = q := ⟨_, rfl⟩
      have hqle : q ≤ 64 := hq0 ▸ Nat.div_le_self 64 b.w
      have hq : wrap64 (Int.tdiv 64 b.W) = (q : Int) := by
        rw [hw, show Int.tdiv 64 (b.w : Int) = ((64 / b.w : Nat) : Int) from rfl, hq0]
        exact w64 (by omega)
      rw [hq]
      have hmul : m ≤ q ↔ m * b.w ≤ 64 := by rw [← hq0]; exact Nat.le_div_iff_mul_le (by omega)
      clear hq hq0
      by_cases h7 : m ≤ q
      · have hm64 : m ≤ 64 := Nat.le_trans h7 hqle
        refine Ev.neg (by simp; omega) ?_
        rw [if_pos ⟨h1, by omega, by omega⟩, Int.toNat_natCast]
        exact Rep_l0 b hu m hm64 m 0 (by omega)
      · refine Ev.pos (by simp; omega) ((Ev.now _).eq ?_)
        split
        · unfold catS
          rw [if_neg]
          rintro ⟨_, h⟩
          rw [Int.toNat_natCast, tot_replicate] at h
          exact h7 (hmul.2 h)
        · rfl
  · rw [Bool.not_eq_true] at h1
    rw [show okB b.W b.v b.x = false from h1]
    refine Ev.neg (by decide) (Ev.step (fun k => by rw [bits_Rep.j0]) (Ev.pos rfl ((Ev.now _).eq ?_)))
    rw [if_neg (by rw [h1]; rintro ⟨h, _⟩; cases h)]
end Go.Proofs.YtfigblfjogpojaaDoor.PBits
end
