/- Part 20 of the proof of BitsChosenCardSaid: The law BitsChosen: for all arguments it returns true; each argument reads behind the call as it read before. Out of the plain theorem of YtfigblfjogpojaaDoorPureBitsChosen and the printed contract. -/
import Derived.Test.YtfigblfjogpojaaDoorQBitsChosen18
section
namespace Go.Proofs.YtfigblfjogpojaaDoor.PBits
open Go.RowKit Go.Proofs.YtfigblfjogpojaaDoorW.PrintWords Go.Proofs.YtfigblfjogpojaaDoorW.PrintLast Go.Proofs.YtfigblfjogpojaaDoorW.PrintMore Go.Proofs.YtfigblfjogpojaaDoor.Bz
set_option linter.unusedVariables false
set_option linter.unusedSimpArgs false
def fitS (kind x y : Int) : Bool := (kind != 0 && (x == 122 || y == 122)) || (kind == 2 && (x == 120 || y == 120)) || x == y
open Classical in
theorem Fit_l0 (a b : List Int) (n : Nat) (ha : a.length = n) (hb : b.length = n) (hn : n ≤ 64) (kind : Int) (d : Nat) : ∀ i : Nat, i + d = n →
    Ev (fun k => maskref1_Fit.l0 k a b kind (n : Int) (i : Int)) (decide (∀ j, i ≤ j → j < n → fitS kind (a.getD j 0) (b.getD j 0) = true)) := by
  induction d with
  | zero =>
    intro i hi
    refine Ev.step (fun k => by rw [maskref1_Fit.l0]) (Ev.neg (by omega) ((Ev.now _).eq ?_))
    rw [eq_comm, decide_eq_true_iff]
    intro j h1 h2; omega
  | succ d ih =>
    intro i hi
    have ih := ih (i + 1) (by omega)
    have one : decide (∀ j, i ≤ j → j < n → fitS kind (a.getD j 0) (b.getD j 0) = true) = (fitS kind (a.getD i 0) (b.getD i 0) && decide (∀ j, i + 1 ≤ j → j < n → fitS kind (a.getD j 0) (b.getD j 0) = true)) := by
      rw [Bool.eq_iff_iff, Bool.and_eq_true, decide_eq_true_iff, decide_eq_true_iff]
      constructor
      · intro h; exact ⟨h i (Nat.le_refl _) (by omega), fun j h1 h2 => h j (by omega) h2⟩
      · rintro ⟨h1, h2⟩ j h3 h4
        rcases Nat.lt_or_ge i j with h | h
        · exact h2 j h h4
        · rw [show j = i by omega]; exact h1
    rw [one]
    generalize hR : decide (∀ j, i + 1 ≤ j → j < n → fitS kind (a.getD j 0) (b.getD j 0) = true) = R at ih
    have j2 : ∀ s : Bool, Ev (fun k => maskref1_Fit.j2 k a b kind (i : Int) s (n : Int) (i : Int)) ((s || a.getD i 0 == b.getD i 0) && R) := by
      intro s
      refine Ev.step (fun k => by rw [maskref1_Fit.j2]) ?_
      rw [w64 (by omega), rd_nat, rd_nat]
      cases s with
      | true => exact Ev.pos rfl (ih.eq (by simp))
      | false =>
        refine Ev.neg (by decide) (Ev.pos (by omega) (Ev.pos (by omega) (Ev.pos (by omega) ?_)))
        by_cases h : a.getD i 0 = b.getD i 0
        · exact Ev.pos h (ih.eq (by rw [h]; simp))
        · exact Ev.neg h ((Ev.now _).eq (by rw [beq_eq_false_iff_ne.mpr h]; rfl))
    refine Ev.step (fun k => by rw [maskref1_Fit.l0]) (Ev.pos (by omega) ?_)
    rw [rd_nat, rd_nat]
    by_cases h0 : kind = 0
    · refine Ev.pos h0 (Ev.neg (by omega) ((j2 false).eq ?_))
      subst h0; simp [fitS]
    · refine Ev.neg h0 (Ev.pos (by omega) (Ev.pos (by omega) ?_))
      have k0 : (kind != 0) = true := by simpa using h0
      by_cases h1 : a.getD i 0 = 122
      · refine Ev.pos h1 ((j2 true).eq ?_)
        unfold fitS; rw [h1, k0]; simp
      · have n1 := beq_eq_false_iff_ne.mpr h1
        refine Ev.neg h1 (Ev.pos (by omega) ?_)
        by_cases h2 : b.getD i 0 = 122
        · refine Ev.pos h2 ((j2 true).eq ?_)
          unfold fitS; rw [h2, k0]; simp
        · have n2 := beq_eq_false_iff_ne.mpr h2
          refine Ev.neg h2 ?_
          by_cases h3 : kind = 2
          · refine Ev.pos h3 ?_
            by_cases h4 : a.getD i 0 = 120
            · refine Ev.pos h4 ((j2 true).eq ?_)
              unfold fitS; rw [h4, h3]; simp
            · refine Ev.neg h4 ((j2 _).eq ?_)
              have n4 := beq_eq_false_iff_ne.mpr h4
              unfold fitS; rw [n1, n2, n4, h3]; simp
          · refine Ev.neg h3 ((j2 _).eq ?_)
            have n3 := beq_eq_false_iff_ne.mpr h3
            unfold fitS; rw [n1, n2, n3]; simp
open Classical in
theorem Fit_ev (a b : List Int) (n : Nat) (ha : a.length = n) (hb : b.length = n) (hn : n ≤ 64) (kind : Int) :
    Ev (fun k => maskref1_Fit.f k a b kind) (decide (kind = 0 ∨ kind = 1 ∨ kind = 2) && decide (∀ j, j < n → fitS kind (a.getD j 0) (b.getD j 0) = true)) := by
  have key : Ev (fun k => maskref1_Fit.j0 k a b kind false) (decide (∀ j, j < n → fitS kind (a.getD j 0) (b.getD j 0) = true)) := by
    refine Ev.step (fun k => by rw [maskref1_Fit.j0]) (Ev.neg (by decide) ?_)
    rw [ha]
    refine (Fit_l0 a b n ha hb hn kind n 0 (by omega)).eq ?_
    rw [decide_eq_decide]
    exact ⟨fun h j hj => h j (Nat.zero_le _) hj, fun h j _ hj => h j hj⟩
  unfold maskref1_Fit.f
  by_cases h0 : kind = 0
  · exact Ev.pos h0 (key.eq (by simp [h0]))
  · by_cases h1 : kind = 1
    · exact Ev.neg h0 (Ev.pos h1 (key.eq (by simp [h1])))
    · refine Ev.neg h0 (Ev.neg h1 ?_)
      by_cases h2 : kind = 2
      · rw [show (kind != 2) = false by simp [h2]]
        exact key.eq (by simp [h2])
      · rw [show (kind != 2) = true by simp [h2]]
        exact Ev.step (fun k => by rw [maskref1_Fit.j0]) (Ev.pos rfl ((Ev.now _).eq (by simp [h0, h1, h2])))
open Classical in
theorem nz {N w : Nat} (hN : N < 2 ^ w) (f : Nat → Bool) (h : ∀ i, i < w → N.testBit i = !f i) : (((N : Nat) : Int) == 0) = decide (∀ j, j < w → f j = true) := by
  rw [Bool.eq_iff_iff, decide_eq_true_iff, beq_iff_eq]
  have e := zero_iff hN
  constructor
  · intro h0 j hj
    have := e.1 (by omega) j hj
    rw [h j hj] at this
    simpa using this
  · intro h0
    have : N = 0 := e.2 fun i hi => by rw [h i hi, h0 i hi]; rfl
    omega
structure Two (w va xa vb xb : Nat) : Prop where
  w1 : 1 ≤ w
  w64 : w ≤ 64
  va : va < 2 ^ w
  xa : xa < 2 ^ w
  vb : vb < 2 ^ w
  xb : xb < 2 ^ w
theorem okB_of {w v x : Nat} (h1 : 1 ≤ w) (h2 : w ≤ 64) (hv : v < 2 ^ w) (hx : x < 2 ^ w) : okB (w : Int) v x = true := by
  unfold okB; rw [decide_eq_true_iff, Int.toNat_natCast]; exact ⟨by omega, by omega, hv, hx⟩
theorem Two.alike {w va xa vb xb : Nat} (h : Two w va xa vb xb) : Ev (fun k => bits_alike.f k (w : Int) (va : Int) (xa : Int) (w : Int) (vb : Int) (xb : Int)) true :=
  (alike_ev (lt64 h.va h.w64) (lt64 h.xa h.w64) (lt64 h.vb h.w64) (lt64 h.xb h.w64)).eq (by rw [okB_of h.w1 h.w64 h.va h.xa, okB_of h.w1 h.w64 h.vb h.xb]; simp)
open Classical in
theorem Fits_ev {w va xa vb xb : Nat} (h : Two w va xa vb xb) (kind : Int) :
    Ev (fun k => bits_Fits.f k (w : Int) (va : Int) (xa : Int) (w : Int) (vb : Int) (xb : Int) kind)
      (decide (kind = 0 ∨ kind = 1 ∨ kind = 2) && decide (∀ j, j < w → fitS kind ((vs w va xa).getD j 0) ((vs w vb xb).getD j 0) = true)) := by
  have a1 := lt64 h.va h.w64
  have a2 := lt64 h.xa h.w64
  have b1 := lt64 h.vb h.w64
  have b2 := lt64 h.xb h.w64
  have s1 : va ^^^ vb < 2 ^ 64 := xor_lt a1 b1
  have s2 : xa ^^^ xb < 2 ^ 64 := xor_lt a2 b2
  have s3 : (va ^^^ vb) ||| (xa ^^^ xb) < 2 ^ 64 := or_lt s1 s2
  have s4 : andn xa va < 2 ^ 64 := andn_lt a2
  have s5 : andn xb vb < 2 ^ 64 := andn_lt b2
  have s6 : andn xa va ||| andn xb vb < 2 ^ 64 := or_lt s4 s5
  have s7 : xa ||| xb < 2 ^ 64 := or_lt a2 b2
  have t3 : (va ^^^ vb) ||| (xa ^^^ xb) < 2 ^ w := or_lt (xor_lt h.va h.vb) (xor_lt h.xa h.xb)
  unfold bits_Fits.f
  refine Ev.bind h.alike (Ev.pos rfl ?_)
  rw [xor_n _ _ a1 b1, xor_n _ _ a2 b2, or_n _ _ s1 s2, andNot_0 _ s3, andNot_n _ _ a2 a1, andNot_n _ _ b2 b1, or_n _ _ s4 s5, andNot_n _ _ s3 s6, or_n _ _ a2 b2, andNot_n _ _ s3 s7]
  by_cases h0 : kind = 0
  · subst h0
    refine Ev.pos rfl ((Ev.now _).eq ?_)
    rw [nz t3 (fun j => fitS 0 ((vs w va xa).getD j 0) ((vs w vb xb).getD j 0))]
    · simp
    · intro i hi
      rw [vs_getD _ _ _ _ hi, vs_getD _ _ _ _ hi, Nat.testBit_or, Nat.testBit_xor, Nat.testBit_xor]
      unfold st
      cases va.testBit i <;> cases xa.testBit i <;> cases vb.testBit i <;> cases xb.testBit i <;> rfl
  · refine Ev.neg h0 ?_
    by_cases h1 : kind = 1
    · subst h1
      refine Ev.pos rfl ((Ev.now _).eq ?_)
      rw [nz (andn_lt t3) (fun j => fitS 1 ((vs w va xa).getD j 0) ((vs w vb xb).getD j 0))]
      · simp
      · intro i hi
        rw [vs_getD _ _ _ _ hi, vs_getD _ _ _ _ hi, testBit_andn _ _ _ s3 s6, Nat.testBit_or, Nat.testBit_or, Nat.testBit_xor, Nat.testBit_xor, testBit_andn _ _ _ a2 a1, testBit_andn _ _ _ b2 b1]
        unfold st
        cases va.testBit i <;> cases xa.testBit i <;> cases vb.testBit i <;> cases xb.testBit i <;> rfl
    · refine Ev.neg h1 ?_
      by_cases h2 : kind = 2
      · subst h2
        refine Ev.pos rfl ((Ev.now _).eq ?_)
        rw [nz (andn_lt t3) (fun j => fitS 2 ((vs w va xa).getD j 0) ((vs w vb xb).getD j 0))]
        · simp
        · intro i hi
          rw [vs_getD _ _ _ _ hi, vs_getD _ _ _ _ hi, testBit_andn _ _ _ s3 s7, Nat.testBit_or, Nat.testBit_or, Nat.testBit_xor, Nat.testBit_xor]
          unfold st
          cases va.testBit i <;> cases xa.testBit i <;> cases vb.testBit i <;> cases xb.testBit i <;> rfl
      · exact Ev.neg h2 ((Ev.now _).eq (by simp [h0, h1, h2]))
structure Gives (g : Nat → Option (Int × Int × Int)) (w : Nat) (f : Nat → Int) (V X : Nat) : Prop where
  ev : Ev g ((w : Int), (V : Int), (X : Int))
  v : V < 2 ^ w
  x : X < 2 ^ w
  st : ∀ i, i < w → st V X i = f i
theorem Gives.B {g : Nat → Option (Int × Int × Int)} {w : Nat} {f : Nat → Int} {V X : Nat} (h : Gives g w f V X) (h1 : 1 ≤ w) (h2 : w ≤ 64) {l : List Int} (hl : l.length = w) (hf : ∀ i, i < w → l.getD i 0 = f i) :
    Ev (fun k => maskref1_B.f k l) ((w : Int), (V : Int), (X : Int)) := B_is h1 h2 hl h.v h.x fun i hi => (hf i hi).trans (h.st i hi).symm
theorem Resolve_gives {w va xa vb xb : Nat} (h : Two w va xa vb xb) : ∃ V X, Gives (fun k => bits_Resolve.f k (w : Int) (va : Int) (xa : Int) (w : Int) (vb : Int) (xb : Int)) w (fun i => resS (st va xa i) (st vb xb i)) V X := by
  have a1 := lt64 h.va h.w64
  have a2 := lt64 h.xa h.w64
  have b1 := lt64 h.vb h.w64
  have b2 := lt64 h.xb h.w64
  have s1 : va ^^^ vb < 2 ^ 64 := xor_lt a1 b1
  have s2 : xa ^^^ xb < 2 ^ 64 := xor_lt a2 b2
  have s3 : (va ^^^ vb) ||| (xa ^^^ xb) < 2 ^ 64 := or_lt s1 s2
  have s4 : andn xa va < 2 ^ 64 := andn_lt a2
  have s5 : andn xb vb < 2 ^ 64 := andn_lt b2
  have s6 : andn xa va ||| andn xb vb < 2 ^ 64 := or_lt s4 s5
  have p1 : va &&& andn xb vb < 2 ^ 64 := and_lt a1
  have p2 : vb &&& andn xa va < 2 ^ 64 := and_lt b1
  have p3 : xa &&& andn xb vb < 2 ^ 64 := and_lt a2
  have p4 : xb &&& andn xa va < 2 ^ 64 := and_lt b2
  have p5 : va &&& vb < 2 ^ 64 := and_lt a1
  have p6 : xa &&& xb < 2 ^ 64 := and_lt a2
  have p7 : andn ((va ^^^ vb) ||| (xa ^^^ xb)) (andn xa va ||| andn xb vb) < 2 ^ 64 := andn_lt s3
  have m := msk_lt' h.w64
  have m6 := msk_lt w
  refine ⟨_, _, (⟨?_, and_lt' m, and_lt' m, ?_⟩ : Gives _ _ _ ((va &&& andn xb vb ||| vb &&& andn xa va ||| va &&& vb ||| andn ((va ^^^ vb) ||| (xa ^^^ xb)) (andn xa va ||| andn xb vb)) &&& msk w) ((xa &&& andn xb vb ||| xb &&& andn xa va ||| xa &&& xb ||| andn ((va ^^^ vb) ||| (xa ^^^ xb)) (andn xa va ||| andn xb vb)) &&& msk w))⟩
  · unfold bits_Resolve.f
    refine Ev.bind h.alike (Ev.pos rfl (Ev.bnd (mask_is w) (Ev.bnd (mask_is w) ((Ev.now _).eq ?_))))
    rw [xor_n _ _ a1 b1, xor_n _ _ a2 b2, or_n _ _ s1 s2, andNot_n _ _ a2 a1, andNot_n _ _ b2 b1, or_n _ _ s4 s5, andNot_n _ _ s3 s6, and_n _ _ a1 s5, and_n _ _ b1 s4, and_n _ _ a2 s5, and_n _ _ b2 s4, and_n _ _ a1 b1, and_n _ _ a2 b2,
      or_n _ _ p1 p2, or_n _ _ p3 p4, or_n _ _ (or_lt p1 p2) p5, or_n _ _ (or_lt p3 p4) p6, or_n _ _ (or_lt (or_lt p1 p2) p5) p7, or_n _ _ (or_lt (or_lt p3 p4) p6) p7, and_n _ _ (or_lt (or_lt (or_lt p1 p2) p5) p7) m6, and_n _ _ (or_lt (or_lt (or_lt p3 p4) p6) p7) m6]
  · intro i hi
    unfold st
    have hm : (msk w).testBit i = true := by rw [testBit_msk]; simp; exact ⟨hi, by have := h.w64; omega⟩
    simp only [Nat.testBit_and, Nat.testBit_or, Nat.testBit_xor, testBit_andn _ _ _ s3 s6, testBit_andn _ _ _ a2 a1, testBit_andn _ _ _ b2 b1, hm]
    cases va.testBit i <;> cases xa.testBit i <;> cases vb.testBit i <;> cases xb.testBit i <;> rfl
theorem make3_gives {w one unk : Nat} (h64 : w ≤ 64) (ho : one < 2 ^ 64) (hu : unk < 2 ^ 64) : Gives (fun _ => bits_make3.f (w : Int) (one : Int) (unk : Int)) w (fun i => stb (one.testBit i || unk.testBit i) (unk.testBit i)) ((one ||| unk) &&& msk w) (unk &&& msk w) := by
  have m := msk_lt' h64
  have m6 := msk_lt w
  refine ⟨?_, and_lt' m, and_lt' m, ?_⟩
  · unfold bits_make3.f
    refine Ev.bnd (mask_is w) (Ev.bnd (mask_is w) ((Ev.now _).eq ?_))
    rw [or_n _ _ ho hu, and_n _ _ (or_lt ho hu) m6, and_n _ _ hu m6]
  · intro i hi
    unfold st
    have hm : (msk w).testBit i = true := by rw [testBit_msk]; simp; exact ⟨hi, by omega⟩
    simp only [Nat.testBit_and, Nat.testBit_or, hm, Bool.and_true]
end Go.Proofs.YtfigblfjogpojaaDoor.PBits
end
