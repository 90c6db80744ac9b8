/- Part 17 of the proof of BitsTextsCardSaid: The law BitsTexts: for all arguments it returns true; each argument reads behind the call as it read before. Out of the plain theorem of YtfigblfjogpojaaDoorPureBitsTexts and the printed contract. -/
import Derived.Test.YtfigblfjogpojaaDoorQBitsTexts8
import Derived.Test.YtfigblfjogpojaaDoorQBitsTexts15
section
namespace Go.Proofs.YtfigblfjogpojaaDoorW.PrintWords
set_option linter.unusedVariables false
section
variable {α β : Type} {f g : Nat → Option α} {r : α} {c : Prop} [Decidable c]
theorem Ev.pos (h : c) (k : Ev f r) : Ev (fun n => if c then f n else g n) r := Ev.congr (fun n => if_pos h) k
theorem Ev.neg (h : ¬ c) (k : Ev g r) : Ev (fun n => if c then f n else g n) r := Ev.congr (fun n => if_neg h) k
theorem Ev.val {o : Option α} (h : o = some r) : Ev (fun _ => o) r := Ev.congr (fun _ => h) (Ev.now r)
theorem Ev.bnd {o : Option α} {F : Nat → α → Option β} {b : β} (h : o = some r) (k : Ev (fun n => F n r) b) : Ev (fun n => o.bind (F n)) b := Ev.congr (fun n => by rw [h]; rfl) k
theorem Ev.eq {s : α} (k : Ev f s) (h : s = r) : Ev f r := h ▸ k
end
end Go.Proofs.YtfigblfjogpojaaDoorW.PrintWords
namespace Go.Proofs.YtfigblfjogpojaaDoor.PBits
open Go.RowKit Go.Proofs.YtfigblfjogpojaaDoorW.PrintWords Go.Proofs.YtfigblfjogpojaaDoorW.PrintLast Go.Proofs.YtfigblfjogpojaaDoorW.PrintMore Go.Proofs.YtfigblfjogpojaaDoor.Bz
set_option linter.unusedVariables false
set_option linter.unusedSimpArgs false
theorem w64 {n : Int} (h : -9223372036854775808 ≤ n ∧ n ≤ 9223372036854775807) : wrap64 n = n := by unfold wrap64; omega
theorem mask_is (w : Nat) : bits_mask.f (w : Int) = some ((msk w : Nat) : Int) := by
  unfold bits_mask.f
  by_cases h : 64 ≤ w
  · rw [if_pos (by omega)]
    unfold msk
    rw [Nat.min_eq_right h]; rfl
  · rw [if_neg (by omega), if_pos (by omega), one_shl, IntKind.wrap_u64]
    unfold msk
    rw [Nat.min_eq_left (by omega), Nat.one_shiftLeft, Nat.mod_eq_of_lt (Nat.pow_lt_pow_right (by decide) (by omega))]
    have h1 : 2 ^ w < 2 ^ 64 := Nat.pow_lt_pow_right (by decide) (by omega)
    have h2 : 0 < 2 ^ w := Nat.pos_of_ne_zero (by simp)
    generalize 2 ^ w = q at h1 h2
    congr 1
    omega
def okB (W : Int) (v x : Nat) : Bool := decide (1 ≤ W ∧ W ≤ 64 ∧ v < 2 ^ W.toNat ∧ x < 2 ^ W.toNat)
theorem okB_nat {W : Int} {v x : Nat} (h : okB W v x = true) : ∃ w : Nat, W = (w : Int) ∧ 1 ≤ w ∧ w ≤ 64 ∧ v < 2 ^ w ∧ x < 2 ^ w := by
  unfold okB at h
  have h := of_decide_eq_true h
  exact ⟨W.toNat, by omega, by omega, by omega, h.2.2⟩
theorem lt_bit {v i : Nat} (h : v.testBit i = false) : (v < 2 ^ (i + 1) ↔ v < 2 ^ i) := by
  constructor
  · intro h1
    refine lt_of_bits fun j hj => ?_
    by_cases e : j = i
    · subst e; exact h
    · exact bit_out h1 (by omega)
  · intro h1
    exact Nat.lt_of_lt_of_le h1 (Nat.pow_le_pow_right (by decide) (by omega))
theorem Valid_l0 (W : Int) (v x : Nat) (hv : v < 2 ^ 64) (hx : x < 2 ^ 64) (d : Nat) : ∀ i : Nat, i + d = 64 → Ev (fun k => maskref1_Valid.l0 k (i : Int) W (v : Int) (x : Int)) (decide (v < 2 ^ i ∧ x < 2 ^ i)) := by
  induction d with
  | zero =>
    intro i hi
    obtain rfl : i = 64 := by omega
    refine Ev.step (fun k => by rw [maskref1_Valid.l0]) ?_
    exact Ev.neg (by omega) ((Ev.now true).eq (by simp [hv, hx]))
  | succ d ih =>
    intro i hi
    refine Ev.step (fun k => by rw [maskref1_Valid.l0]) ?_
    refine Ev.pos (by omega) (Ev.pos (by omega) ?_)
    rw [bitof v i hv, bitof x i hx]
    cases hb : v.testBit i with
    | true =>
      refine Ev.neg (by simp) ((Ev.now false).eq ?_)
      have : ¬ v < 2 ^ i := fun h => by rw [bit_out h (Nat.le_refl i)] at hb; cases hb
      simp [this]
    | false =>
      refine Ev.pos (by simp) ?_
      cases hc : x.testBit i with
      | true =>
        refine Ev.neg (by simp) ((Ev.now false).eq ?_)
        have : ¬ x < 2 ^ i := fun h => by rw [bit_out h (Nat.le_refl i)] at hc; cases hc
        simp [this]
      | false =>
        refine Ev.pos (by simp) ?_
        rw [w64 (by omega)]
        refine (ih (i + 1) (by omega)).eq ?_
        rw [decide_eq_decide, lt_bit hb, lt_bit hc]
theorem Valid_ev (W : Int) (v x : Nat) (hv : v < 2 ^ 64) (hx : x < 2 ^ 64) : Ev (fun k => maskref1_Valid.f k W (v : Int) (x : Int)) (okB W v x) := by
  unfold maskref1_Valid.f
  by_cases h1 : W < 1
  · refine Ev.pos h1 (Ev.step (fun k => by rw [maskref1_Valid.j0]) (Ev.pos rfl ((Ev.now false).eq ?_)))
    unfold okB
    simp only [Bool.false_eq, decide_eq_false_iff_not]
    omega
  · refine Ev.neg h1 (Ev.step (fun k => by rw [maskref1_Valid.j0]) ?_)
    by_cases h2 : W > 64
    · refine Ev.pos (by simpa using h2) ((Ev.now false).eq ?_)
      unfold okB
      simp only [Bool.false_eq, decide_eq_false_iff_not]
      omega
    · refine Ev.neg (by simpa using h2) ?_
      obtain ⟨w, rfl⟩ := Int.eq_ofNat_of_zero_le (show 0 ≤ W by omega)
      refine (Valid_l0 (w : Int) v x hv hx (64 - w) w (by omega)).eq ?_
      unfold okB
      rw [decide_eq_decide, Int.toNat_natCast]
      exact ⟨fun h => ⟨by omega, by omega, h⟩, fun h => h.2.2⟩
theorem Check_ev (W : Int) (v x : Nat) (hv : v < 2 ^ 64) (hx : x < 2 ^ 64) : Ev (fun k => bits_Check.f k W (v : Int) (x : Int)) (if W < 1 ∨ W > 64 then 2 else if okB W v x = true then 0 else 4) := by
  unfold bits_Check.f
  by_cases h1 : W < 1
  · refine Ev.pos h1 (Ev.step (fun k => by rw [bits_Check.j0]) (Ev.pos rfl ((Ev.now 2).eq ?_)))
    rw [if_pos (.inl h1)]
  · refine Ev.neg h1 (Ev.step (fun k => by rw [bits_Check.j0]) ?_)
    by_cases h2 : W > 64
    · refine Ev.pos (by simpa using h2) ((Ev.now 2).eq ?_)
      rw [if_pos (.inr h2)]
    · refine Ev.neg (by simpa using h2) ?_
      obtain ⟨w, rfl⟩ := Int.eq_ofNat_of_zero_le (show 0 ≤ W by omega)
      refine Ev.bnd (mask_is w) ?_
      rw [or_n v x hv hx, andNot_n _ _ (or_lt hv hx) (msk_lt w), if_neg (show ¬ ((w : Int) < 1 ∨ (w : Int) > 64) by omega)]
      have key : andn (v ||| x) (msk w) = 0 ↔ okB (w : Int) v x = true := by
        unfold okB
        rw [decide_eq_true_iff, Int.toNat_natCast]
        constructor
        · intro h
          have hb : ∀ i, w ≤ i → v.testBit i = false ∧ x.testBit i = false := by
            intro i hi
            have := congrArg (fun n => Nat.testBit n i) h
            simp only [testBit_andn _ _ i (or_lt hv hx) (msk_lt w), Nat.testBit_or, testBit_msk, Nat.zero_testBit] at this
            have hn : ¬ (i < w ∧ i < 64) := by omega
            simpa [hn] using this
          exact ⟨by omega, by omega, lt_of_bits fun i hi => (hb i hi).1, lt_of_bits fun i hi => (hb i hi).2⟩
        · rintro ⟨_, h64, h3, h4⟩
          apply Nat.eq_of_testBit_eq
          intro i
          rw [testBit_andn _ _ i (or_lt hv hx) (msk_lt w), Nat.testBit_or, testBit_msk, Nat.zero_testBit]
          by_cases hi : i < w
          · have : i < w ∧ i < 64 := by omega
            simp [this]
          · rw [bit_out h3 (by omega), bit_out h4 (by omega)]; simp
      by_cases h3 : andn (v ||| x) (msk w) = 0
      · rw [if_pos (key.1 h3)]
        exact Ev.pos (by omega) (Ev.now 0)
      · rw [if_neg (fun h => h3 (key.2 h))]
        exact Ev.neg (by omega) (Ev.now 4)
structure BV where
  W : Int
  v : Nat
  x : Nat
def BV.s (b : BV) : S24 := ⟨b.W, (b.v : Int), (b.x : Int)⟩
def BV.u (b : BV) : Prop := b.v < 2 ^ 64 ∧ b.x < 2 ^ 64
def BV.ok (b : BV) : Bool := okB b.W b.v b.x
theorem valid_l0 (l : List BV) (hl : ∀ b ∈ l, b.u) (hm : l.length ≤ 9223372036854775807) (d : Nat) : ∀ i : Nat, i + d = l.length → Ev (fun k => bits_valid.l0 k (l.map BV.s) ((l.map BV.s).length : Int) (i : Int)) ((l.drop i).all BV.ok) := by
  induction d with
  | zero =>
    intro i hi
    refine Ev.step (fun k => by rw [bits_valid.l0]) ?_
    refine Ev.neg (by rw [List.length_map]; omega) ((Ev.now true).eq ?_)
    rw [List.drop_eq_nil_of_le (by omega)]; rfl
  | succ d ih =>
    intro i hi
    have hlt : i < l.length := by omega
    refine Ev.step (fun k => by rw [bits_valid.l0]) ?_
    refine Ev.pos (by rw [List.length_map]; omega) (Ev.pos (by omega) (Ev.pos (by rw [List.length_map]; omega) ?_))
    have hr : rd_T24 (l.map BV.s) (i : Int) = (l[i]).s := by
      unfold rd_T24
      rw [Int.toNat_natCast, List.getD_eq_getElem?_getD, List.getElem?_map, List.getElem?_eq_getElem hlt]; rfl
    rw [hr, List.drop_eq_getElem_cons hlt, List.all_cons]
    have hu := hl _ (List.getElem_mem hlt)
    generalize l[i] = b at hu
    refine Ev.bind (Check_ev b.W b.v b.x hu.1 hu.2) ?_
    by_cases h1 : b.ok = true
    · obtain ⟨w, hw, h2, h3, _⟩ := okB_nat h1
      rw [if_neg (by omega), if_pos (show okB b.W b.v b.x = true from h1), h1, Bool.true_and, w64 (by omega)]
      exact Ev.pos rfl (ih (i + 1) (by omega))
    · rw [Bool.not_eq_true] at h1
      rw [h1, Bool.false_and]
      refine Ev.neg ?_ (Ev.now false)
      split
      · decide
      · rw [if_neg (by unfold BV.ok at h1; rw [h1]; decide)]; decide
theorem valid_ev (l : List BV) (hl : ∀ b ∈ l, b.u) (hm : l.length ≤ 9223372036854775807) : Ev (fun k => bits_valid.f k (l.map BV.s)) (l.all BV.ok) := by
  unfold bits_valid.f
  exact (valid_l0 l hl hm l.length 0 (by omega)).eq (by simp)
theorem valid1 {W : Int} {v x : Nat} (hv : v < 2 ^ 64) (hx : x < 2 ^ 64) : Ev (fun k => bits_valid.f k ([(⟨W, (v : Int), (x : Int)⟩ : S24)] : List S24)) (okB W v x) :=
  (valid_ev [⟨W, v, x⟩] (by intro b hb; simp only [List.mem_singleton] at hb; subst hb; exact ⟨hv, hx⟩) (by simp)).eq (by simp [BV.ok])
theorem valid2 {W : Int} {v x : Nat} (hv : v < 2 ^ 64) (hx : x < 2 ^ 64) {W' : Int} {v' x' : Nat} (hv' : v' < 2 ^ 64) (hx' : x' < 2 ^ 64) :
    Ev (fun k => bits_valid.f k ([(⟨W, (v : Int), (x : Int)⟩ : S24), (⟨W', (v' : Int), (x' : Int)⟩ : S24)] : List S24)) (okB W v x && okB W' v' x') :=
  (valid_ev [⟨W, v, x⟩, ⟨W', v', x'⟩] (by intro b hb; simp only [List.mem_cons, List.not_mem_nil, or_false] at hb; rcases hb with rfl | rfl <;> first | exact ⟨hv, hx⟩ | exact ⟨hv', hx'⟩) (by simp)).eq (by simp [BV.ok])
theorem V_l0 (w v x : Nat) (hv : v < 2 ^ 64) (hx : x < 2 ^ 64) (hw : w ≤ 64) (d : Nat) : ∀ i : Nat, i + d = w → Ev (fun k => maskref1_V.l0 k (vs i v x) (w : Int) (i : Int) (w : Int) (v : Int) (x : Int)) (vs w v x) := by
  induction d with
  | zero =>
    intro i hi
    obtain rfl : i = w := by omega
    refine Ev.step (fun k => by rw [maskref1_V.l0]) ?_
    exact Ev.neg (by omega) (Ev.now _)
  | succ d ih =>
    intro i hi
    have ih := ih (i + 1) (by omega)
    rw [vs_succ] at ih
    have hlen : (vs i v x).length < 140737488355328 := by rw [vs_length]; omega
    refine Ev.step (fun k => by rw [maskref1_V.l0]) ?_
    refine Ev.pos (by omega) (Ev.pos (by omega) ?_)
    rw [bitof x i hx, bitof v i hv]
    have hw1 : wrap64 ((i : Int) + 1) = ((i + 1 : Nat) : Int) := w64 (by omega)
    cases hb : x.testBit i with
    | true =>
      refine Ev.pos (by simp) (Ev.step (fun k => by rw [maskref1_V.j1]) ?_)
      cases hc : v.testBit i with
      | true =>
        have e : st v x i = 120 := by unfold st; rw [hb, hc]; rfl
        rw [e] at ih
        refine Ev.pos (by simp) (Ev.pos hlen ?_)
        rw [hw1]; exact ih
      | false =>
        have e : st v x i = 122 := by unfold st; rw [hb, hc]; rfl
        rw [e] at ih
        refine Ev.neg (by simp) (Ev.pos (by omega) ?_)
        rw [bitof x i hx, hb]
        refine Ev.pos (by simp) (Ev.pos hlen ?_)
        rw [hw1]; exact ih
    | false =>
      refine Ev.neg (by simp) (Ev.step (fun k => by rw [maskref1_V.j1]) ?_)
      refine Ev.neg (by simp) (Ev.pos (by omega) ?_)
      rw [bitof x i hx, bitof v i hv, hb]
      refine Ev.neg (by simp) ?_
      cases hc : v.testBit i with
      | true =>
        have e : st v x i = 49 := by unfold st; rw [hb, hc]; rfl
        rw [e] at ih
        refine Ev.pos (by simp) (Ev.pos hlen ?_)
        rw [hw1]; exact ih
      | false =>
        have e : st v x i = 48 := by unfold st; rw [hb, hc]; rfl
        rw [e] at ih
        refine Ev.neg (by simp) (Ev.pos hlen ?_)
        rw [hw1]; exact ih
theorem V_ev {w v x : Nat} (hv : v < 2 ^ 64) (hx : x < 2 ^ 64) (hw : w ≤ 64) : Ev (fun k => maskref1_V.f k (w : Int) (v : Int) (x : Int)) (vs w v x) := by
  unfold maskref1_V.f
  exact V_l0 w v x hv hx hw w 0 (by omega)
def acc (f : Int → Bool) (l : List Int) (n : Nat) : Nat := (List.range n).foldl (fun a i => if f (l.getD i 0) then a ||| 1 <<< i else a) 0
theorem acc_succ (f : Int → Bool) (l : List Int) (n : Nat) : acc f l (n + 1) = if f (l.getD n 0) then acc f l n ||| 1 <<< n else acc f l n := by
  unfold acc; rw [List.range_succ, List.foldl_append]; rfl
theorem acc_lt (f : Int → Bool) (l : List Int) (n : Nat) : acc f l n < 2 ^ n := lt_of_bits fun i hi => by
  unfold acc
  rw [num_go]
  have h : ¬ i < n := by omega
  simp [h]
theorem acc_or (f : Int → Bool) (l : List Int) (n : Nat) (hn : n < 64) (h : f (l.getD n 0) = true) : Go.bits .or .u64 ((acc f l n : Nat) : Int) (shl .u64 1 (n : Int)) = ((acc f l (n + 1) : Nat) : Int) := by
  rw [one_shl, or_n _ _ (lt64 (acc_lt f l n) (by omega)) (one_shl_lt n), acc_succ, if_pos h, Nat.mod_eq_of_lt (by rw [Nat.one_shiftLeft]; exact Nat.pow_lt_pow_right (by decide) hn)]
theorem B_l0 (l : List Int) (W : Int) (hl : l.length ≤ 64) (d : Nat) : ∀ i : Nat, i + d = l.length → Ev (fun k => maskref1_B.l0 k l (l.length : Int) (i : Int) W ((acc one l i : Nat) : Int) ((acc unk l i : Nat) : Int)) (W, ((num one l : Nat) : Int), ((num unk l : Nat) : Int)) := by
  induction d with
  | zero =>
    intro i hi
    obtain rfl : i = l.length := by omega
    refine Ev.step (fun k => by rw [maskref1_B.l0]) ?_
    exact Ev.neg (by omega) (Ev.now _)
  | succ d ih =>
    intro i hi
    have ih := ih (i + 1) (by omega)
    refine Ev.step (fun k => by rw [maskref1_B.l0]) ?_
    refine Ev.pos (by omega) (Ev.pos (by omega) (Ev.pos (by omega) ?_))
    have hr : rd l (i : Int) = l.getD i 0 := by unfold rd; rw [Int.toNat_natCast]
    rw [hr]
    have hw1 : wrap64 ((i : Int) + 1) = ((i + 1 : Nat) : Int) := w64 (by omega)
    have hone : ∀ c : Int, one c = (c == 49 || c == 120) := fun _ => rfl
    have hunk : ∀ c : Int, unk c = (c == 120 || c == 122) := fun _ => rfl
    have j2 : Ev (fun k => maskref1_B.j2 k (i : Int) (l.getD i 0) l (l.length : Int) (i : Int) (one (l.getD i 0)) W ((acc one l i : Nat) : Int) ((acc unk l i : Nat) : Int)) (W, ((num one l : Nat) : Int), ((num unk l : Nat) : Int)) := by
      have j3 : Ev (fun k => maskref1_B.j3 k (i : Int) (l.getD i 0) l (l.length : Int) (i : Int) W ((acc one l (i + 1) : Nat) : Int) ((acc unk l i : Nat) : Int)) (W, ((num one l : Nat) : Int), ((num unk l : Nat) : Int)) := by
        refine Ev.step (fun k => by rw [maskref1_B.j3]) ?_
        rw [hw1]
        by_cases h1 : l.getD i 0 = 120
        · refine Ev.pos h1 (Ev.pos (by omega) ?_)
          rw [acc_or unk l i (by omega) (by rw [h1]; rfl)]; exact ih
        · refine Ev.neg h1 ?_
          by_cases h2 : l.getD i 0 = 122
          · refine Ev.pos h2 (Ev.pos (by omega) ?_)
            rw [acc_or unk l i (by omega) (by rw [h2]; rfl)]; exact ih
          · refine Ev.neg h2 ?_
            have e : acc unk l (i + 1) = acc unk l i := by rw [acc_succ, if_neg]; rw [hunk, beq_eq_false_iff_ne.mpr h1, beq_eq_false_iff_ne.mpr h2]; decide
            rw [e] at ih; exact ih
      refine Ev.step (fun k => by rw [maskref1_B.j2]) ?_
      cases h : one (l.getD i 0) with
      | true => refine Ev.pos rfl (Ev.pos (by omega) ?_); rw [acc_or one l i (by omega) h]; exact j3
      | false =>
        refine Ev.neg (by decide) ?_
        have e : acc one l (i + 1) = acc one l i := by rw [acc_succ, h]; rfl
        rw [e] at j3; exact j3
    by_cases h1 : l.getD i 0 = 49
    · refine Ev.pos h1 ?_
      rwa [show one (l.getD i 0) = true by rw [h1]; rfl] at j2
    · refine Ev.neg h1 ?_
      rwa [show one (l.getD i 0) = (l.getD i 0 == 120) by rw [hone, beq_eq_false_iff_ne.mpr h1, Bool.false_or]] at j2
theorem B_ev {l : List Int} (h1 : 1 ≤ l.length) (h2 : l.length ≤ 64) : Ev (fun k => maskref1_B.f k l) ((l.length : Int), ((num one l : Nat) : Int), ((num unk l : Nat) : Int)) := by
  unfold maskref1_B.f
  refine Ev.neg (by omega) (Ev.step (fun k => by rw [maskref1_B.j0]) (Ev.neg (by simp; omega) ?_))
  exact B_l0 l _ h2 l.length 0 (by omega)
theorem B_is {l : List Int} {w v x : Nat} (h1 : 1 ≤ w) (h2 : w ≤ 64) (hl : l.length = w) (hv : v < 2 ^ w) (hx : x < 2 ^ w) (h : ∀ i, i < w → l.getD i 0 = st v x i) : Ev (fun k => maskref1_B.f k l) ((w : Int), (v : Int), (x : Int)) := by
  subst hl
  obtain ⟨e1, e2⟩ := num_eq hv hx h
  have := B_ev h1 h2
  rwa [e1, e2] at this
end Go.Proofs.YtfigblfjogpojaaDoor.PBits
end
