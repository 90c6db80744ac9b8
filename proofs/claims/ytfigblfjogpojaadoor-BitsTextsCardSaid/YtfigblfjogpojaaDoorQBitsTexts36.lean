/- Part 37 of the proof of BitsTextsCardSaid: The law BitsTexts: for all arguments it returns true; each argument reads behind the call as it read before. Out of the plain theorem of YtfigblfjogpojaaDoorPureBitsTexts and the printed contract. -/
import Derived.Test.YtfigblfjogpojaaDoorQBitsTexts23
import Derived.Test.YtfigblfjogpojaaDoorQBitsTexts29
import Derived.Test.YtfigblfjogpojaaDoorQBitsTexts34
import Derived.Test.YtfigblfjogpojaaDoorQBitsTexts33
import Derived.Test.YtfigblfjogpojaaDoorQBitsTexts35
section
namespace Go.Proofs.YtfigblfjogpojaaDoor.PBits
open Go.RowKit Go.Proofs.YtfigblfjogpojaaDoorW.PrintWords Go.Proofs.YtfigblfjogpojaaDoorW.PrintLast Go.Proofs.YtfigblfjogpojaaDoorW.PrintMore Go.Proofs.YtfigblfjogpojaaDoor.Bz
set_option linter.unusedVariables false
set_option linter.unusedSimpArgs false
set_option linter.unusedSectionVars false
open Classical in
theorem TruthW_l0 (l : List Int) (hs : ∀ i, i < l.length → isSt (l.getD i 0)) (hn : l.length ≤ 1000) (d : Nat) : ∀ (i : Nat) (c : Int), i + d = l.length →
    Ev (fun k => maskref1_Truth.l0 k c l (l.length : Int) (i : Int)) (if ∃ j, i ≤ j ∧ j < l.length ∧ l.getD j 0 = 49 then 116 else if ∃ j, i ≤ j ∧ j < l.length ∧ l.getD j 0 ≠ 48 then 117 else c) := by
  induction d with
  | zero =>
    intro i c hi
    refine Ev.step (fun k => by rw [maskref1_Truth.l0]) (Ev.neg (by omega) ((Ev.now _).eq ?_))
    rw [if_neg (by rintro ⟨j, h1, h2, _⟩; omega), if_neg (by rintro ⟨j, h1, h2, _⟩; omega)]
  | succ d ih =>
    intro i c hi
    refine Ev.step (fun k => by rw [maskref1_Truth.l0]) (Ev.pos (by omega) (Ev.pos (by omega) (Ev.pos (by omega) ?_)))
    rw [rd_nat, w64 (by omega)]
    by_cases h1 : l.getD i 0 = 49
    · refine Ev.pos h1 ((Ev.now _).eq ?_)
      rw [if_pos ⟨i, Nat.le_refl _, by omega, h1⟩]
    · refine Ev.neg h1 ?_
      by_cases h2 : l.getD i 0 = 48
      · refine Ev.pos h2 ((ih (i + 1) c (by omega)).eq ?_)
        have e1 : (∃ j, i + 1 ≤ j ∧ j < l.length ∧ l.getD j 0 = 49) ↔ (∃ j, i ≤ j ∧ j < l.length ∧ l.getD j 0 = 49) :=
          ⟨fun ⟨j, a, b, c⟩ => ⟨j, by omega, b, c⟩, fun ⟨j, a, b, c⟩ => ⟨j, by rcases Nat.lt_or_ge i j with h | h <;> first | omega | exact absurd (show l.getD i 0 = 49 by rw [show i = j by omega]; exact c) h1, b, c⟩⟩
        have e2 : (∃ j, i + 1 ≤ j ∧ j < l.length ∧ l.getD j 0 ≠ 48) ↔ (∃ j, i ≤ j ∧ j < l.length ∧ l.getD j 0 ≠ 48) :=
          ⟨fun ⟨j, a, b, c⟩ => ⟨j, by omega, b, c⟩, fun ⟨j, a, b, c⟩ => ⟨j, by rcases Nat.lt_or_ge i j with h | h <;> first | omega | exact absurd (show l.getD j 0 = 48 by rw [show j = i by omega]; exact h2) c, b, c⟩⟩
        simp only [e1, e2]
      · refine Ev.neg h2 ((ih (i + 1) 117 (by omega)).eq ?_)
        have e1 : (∃ j, i + 1 ≤ j ∧ j < l.length ∧ l.getD j 0 = 49) ↔ (∃ j, i ≤ j ∧ j < l.length ∧ l.getD j 0 = 49) :=
          ⟨fun ⟨j, a, b, c⟩ => ⟨j, by omega, b, c⟩, fun ⟨j, a, b, c⟩ => ⟨j, by rcases Nat.lt_or_ge i j with h | h <;> first | omega | exact absurd (show l.getD i 0 = 49 by rw [show i = j by omega]; exact c) h1, b, c⟩⟩
        simp only [e1]
        split
        · rfl
        · rw [if_pos (show ∃ j, i ≤ j ∧ j < l.length ∧ l.getD j 0 ≠ 48 from ⟨i, Nat.le_refl _, by omega, h2⟩)]
          split <;> rfl
open Classical in
theorem TruthW_ev {w v x : Nat} (hv : v < 2 ^ w) (hx : x < 2 ^ w) (hw : w ≤ 1000) : Ev (fun k => maskref1_Truth.f k (vs w v x)) (truS v x) := by
  unfold maskref1_Truth.f
  refine (TruthW_l0 (vs w v x) (fun i hi => by rw [vs_length] at hi; rw [vs_getD _ _ _ _ hi]; exact stb_is _ _) (by rw [vs_length]; exact hw) _ 0 102 (by rw [Nat.zero_add])).eq ?_
  unfold truS
  rw [vs_length]
  have e1 : (∃ j, 0 ≤ j ∧ j < w ∧ (vs w v x).getD j 0 = 49) ↔ ∃ i, v.testBit i = true ∧ x.testBit i = false := by
    constructor
    · rintro ⟨j, _, h, e⟩
      rw [vs_getD _ _ _ _ h] at e
      unfold st stb at e
      cases h1 : v.testBit j <;> cases h2 : x.testBit j <;> simp [h1, h2] at e
      exact ⟨j, h1, h2⟩
    · rintro ⟨i, h1, h2⟩
      have hi : i < w := by
        rcases Nat.lt_or_ge i w with h | h
        · exact h
        · rw [bit_out hv h] at h1; cases h1
      exact ⟨i, Nat.zero_le _, hi, by rw [vs_getD _ _ _ _ hi]; unfold st stb; rw [h1, h2]; rfl⟩
  simp only [e1]
  by_cases h : ∃ i, v.testBit i = true ∧ x.testBit i = false
  · rw [if_pos h, if_pos h]
  · rw [if_neg h, if_neg h]
    have e2 : (∃ j, 0 ≤ j ∧ j < w ∧ (vs w v x).getD j 0 ≠ 48) ↔ x ≠ 0 := by
      have e3 := zero_iff hx
      constructor
      · rintro ⟨j, _, hj, e⟩ h0
        rw [vs_getD _ _ _ _ hj] at e
        unfold st stb at e
        rw [e3.1 h0 j hj] at e
        cases h4 : v.testBit j with
        | true => exact h ⟨j, h4, e3.1 h0 j hj⟩
        | false => rw [h4] at e; exact e rfl
      · intro h3
        refine Classical.byContradiction fun h4 => h3 (e3.2 fun i hi => ?_)
        rcases hb : x.testBit i with _ | _
        · rfl
        · refine absurd ⟨i, Nat.zero_le _, hi, ?_⟩ h4
          rw [vs_getD _ _ _ _ hi]; unfold st stb; rw [hb]
          cases v.testBit i <;> simp
    by_cases h4 : x = 0
    · rw [if_pos h4, if_neg (by rw [e2]; simpa using h4)]
    · rw [if_neg h4, if_pos (e2.2 h4)]
theorem addW_bit (a b : Nat) (c : Bool) (i : Nat) (hi : i < 128) : (a + b + c.toNat).testBit i = ((a.testBit i ^^ b.testBit i) ^^ BitVec.carry i (BitVec.ofNat 128 a) (BitVec.ofNat 128 b) c) := by
  have h := BitVec.getLsbD_add_add_bool hi (BitVec.ofNat 128 a) (BitVec.ofNat 128 b) c
  have e : (BitVec.ofNat 128 a + BitVec.ofNat 128 b + BitVec.setWidth 128 (BitVec.ofBool c)).getLsbD i = (a + b + c.toNat).testBit i := by
    have e1 : BitVec.setWidth 128 (BitVec.ofBool c) = BitVec.ofNat 128 c.toNat := by cases c <;> rfl
    rw [e1, ← BitVec.ofNat_add, ← BitVec.ofNat_add, BitVec.getLsbD_ofNat]
    simp [hi]
  rw [e] at h
  rw [h, BitVec.getLsbD_ofNat, BitVec.getLsbD_ofNat]
  simp [hi, Bool.xor_assoc]
theorem carryW_step (a b : Nat) (c : Bool) (i : Nat) (hi : i < 128) : BitVec.carry (i + 1) (BitVec.ofNat 128 a) (BitVec.ofNat 128 b) c = ((a.testBit i && b.testBit i) || (BitVec.carry i (BitVec.ofNat 128 a) (BitVec.ofNat 128 b) c && (a.testBit i ^^ b.testBit i))) := by
  rw [BitVec.carry_succ, BitVec.getLsbD_ofNat, BitVec.getLsbD_ofNat]
  simp only [hi, decide_true, Bool.true_and]
  generalize BitVec.carry i (BitVec.ofNat 128 a) (BitVec.ofNat 128 b) c = g
  cases a.testBit i <;> cases b.testBit i <;> cases g <;> rfl
theorem plusW_l0 (w a b : Nat) (c : Bool) (hw : w ≤ 128) (d : Nat) : ∀ i : Nat, i + d = w →
    Ev (fun k => maskref1_plus.l0 k (vs w a 0) (vs w b 0) (kb (BitVec.carry i (BitVec.ofNat 128 a) (BitVec.ofNat 128 b) c)) (vs i (a + b + c.toNat) 0) (w : Int) (i : Int)) (vs w (a + b + c.toNat) 0) := by
  induction d with
  | zero =>
    intro i hi
    obtain rfl : i = w := by omega
    exact Ev.step (fun k => by rw [maskref1_plus.l0]) (Ev.neg (by omega) (Ev.now _))
  | succ d ih =>
    intro i hi
    have ih := ih (i + 1) (by omega)
    rw [vs_succ, st_kb, addW_bit _ _ _ _ (show i < 128 by omega), carryW_step _ _ _ _ (show i < 128 by omega)] at ih
    refine Ev.step (fun k => by rw [maskref1_plus.l0]) (Ev.pos (by omega) (Ev.pos (by omega) (Ev.pos (by rw [vs_length]; omega) (Ev.pos (by rw [vs_length]; omega) ?_))))
    rw [rd_vs _ _ _ _ (by omega), rd_vs _ _ _ _ (by omega), w64 (by omega), st_kb, st_kb]
    refine Ev.bind (XorOf_ev _ _) (Ev.bind (XorOf_ev _ _) (Ev.pos (by rw [vs_length]; omega) (Ev.bind (AndOf_ev _ _) (Ev.bind (XorOf_ev _ _) (Ev.bind (AndOf_ev _ _) (Ev.bind (OrOf_ev _ _) ?_))))))
    rw [xorS_kb, xorS_kb, andS_kb, andS_kb, orS_kb]
    exact ih
theorem plusW_ev (w a b : Nat) (c : Bool) (hw : w ≤ 128) : Ev (fun k => maskref1_plus.f k (vs w a 0) (vs w b 0) (kb c)) (vs w (a + b + c.toNat) 0) := by
  unfold maskref1_plus.f
  have h := plusW_l0 w a b c hw w 0 (by omega)
  rw [vs_length]
  have e : BitVec.carry 0 (BitVec.ofNat 128 a) (BitVec.ofNat 128 b) c = c := by simp [BitVec.carry_zero]
  rw [e] at h
  exact h
theorem okB_num' {w v x : Nat} (h1 : 1 ≤ w) (h2 : w ≤ 64) (hv : v < 2 ^ w) (hx : x < 2 ^ w) : okB (w : Int) v x = true := by
  unfold okB; rw [decide_eq_true_iff, Int.toNat_natCast]; exact ⟨by omega, by omega, hv, hx⟩
def txtB (v x : Nat) : Nat → ByteArray → ByteArray
  | 0, s => s
  | n + 1, s => txtB v x n (s ++ strOfNums ([st v x n] : List Int))
theorem one_size (a : Int) : (strOfNums ([a] : List Int)).size = 1 := rfl
section
variable {w v x : Nat} (h1 : 1 ≤ w) (h2 : w ≤ 64) (hv : v < 2 ^ w) (hx : x < 2 ^ w)
include h1 h2 hv hx
theorem Text_l0 : ∀ (n : Nat) (acc : ByteArray), n ≤ w → acc.size + n ≤ 1000 → Ev (fun k => bits_Text.l0 k acc ((n : Int) - 1) (w : Int) (v : Int) (x : Int)) (txtB v x n acc) := by
  intro n
  induction n with
  | zero =>
    intro acc _ _
    refine Ev.step (fun k => by rw [bits_Text.l0]) ?_
    exact Ev.neg (by omega) (Ev.now _)
  | succ n ih =>
    intro acc hn hs
    rw [show ((n + 1 : Nat) : Int) - 1 = (n : Int) by omega]
    have hb := Bit_ev h1 h2 hv hx (n : Int)
    unfold bitS at hb
    rw [if_pos (by omega), Int.toNat_natCast] at hb
    refine Ev.step (fun k => by rw [bits_Text.l0]) (Ev.pos (by omega) (Ev.bind hb (Ev.bnd rfl ?_)))
    rw [w64 (n := (n : Int) - 1) (by omega)]
    refine Ev.pos (by rw [one_size]; omega) ?_
    exact ih _ (by omega) (by rw [ByteArray.size_append, one_size]; omega)
theorem Shown_l0 : ∀ (n : Nat) (acc : ByteArray), n ≤ w → acc.size + n ≤ 1000 → Ev (fun k => maskref1_Shown.l0 k (vs w v x) acc ((n : Int) - 1)) (txtB v x n acc) := by
  intro n
  induction n with
  | zero =>
    intro acc _ _
    refine Ev.step (fun k => by rw [maskref1_Shown.l0]) ?_
    exact Ev.neg (by omega) (Ev.now _)
  | succ n ih =>
    intro acc hn hs
    rw [show ((n + 1 : Nat) : Int) - 1 = (n : Int) by omega]
    refine Ev.step (fun k => by rw [maskref1_Shown.l0]) (Ev.pos (by omega) (Ev.pos (by omega) (Ev.pos (by rw [vs_length]; omega) (Ev.bnd rfl ?_))))
    rw [rd_vs w v x n (by omega), w64 (n := (n : Int) - 1) (by omega)]
    refine Ev.pos (by rw [one_size]; omega) ?_
    exact ih _ (by omega) (by rw [ByteArray.size_append, one_size]; omega)
end
theorem dec_two : ∀ n : Fin 100, maskref1_decimal.f 5 (n.1 : Int) = some ⟨(Lib.decDigits n.1).toArray⟩ := by decide +kernel
theorem dec_size : ∀ n : Fin 100, (Lib.decDigits n.1).length ≤ 2 := by decide +kernel
theorem Text_none {W : Int} {v x : Nat} (hv : v < 2 ^ 64) (hx : x < 2 ^ 64) (h : okB W v x = false) : Ev (fun k => bits_Text.f k W (v : Int) (x : Int)) ⟨#[]⟩ := by
  unfold bits_Text.f
  refine Ev.bind (valid1 hv hx) ?_
  rw [h]
  exact Ev.neg (by decide) (Ev.now _)
theorem Text_same {w v x : Nat} (h1 : 1 ≤ w) (h2 : w ≤ 64) (hv : v < 2 ^ w) (hx : x < 2 ^ w) : ∃ t, Ev (fun k => bits_Text.f k (w : Int) (v : Int) (x : Int)) t ∧ Ev (fun k => maskref1_Shown.f k (w : Int) (v : Int) (x : Int)) t := by
  have hv6 := lt64 hv h2
  have hx6 := lt64 hx h2
  have hd := dec_two ⟨w, by omega⟩
  have hz := dec_size ⟨w, by omega⟩
  simp only at hd hz
  have hsz : (⟨(Lib.decDigits w).toArray⟩ : ByteArray).size ≤ 2 := hz
  have s2 : (⟨#[39, 98]⟩ : ByteArray).size = 2 := rfl
  refine ⟨txtB v x w ((⟨(Lib.decDigits w).toArray⟩ : ByteArray) ++ (⟨#[39, 98]⟩ : ByteArray)), ?_, ?_⟩
  · unfold bits_Text.f
    refine Ev.bind (valid1 hv6 hx6) ?_
    rw [okB_num' h1 h2 hv hx]
    have hi : strconv_Itoa.f (w : Int) = some ⟨(Lib.decDigits w).toArray⟩ := by
      unfold strconv_Itoa.f
      rw [if_pos (by omega), Int.toNat_natCast]
    refine Ev.pos rfl (Ev.bnd hi (Ev.pos (by omega) ?_))
    rw [w64 (n := (w : Int) - 1) (by omega)]
    exact Text_l0 h1 h2 hv hx w _ (Nat.le_refl _) (by rw [ByteArray.size_append]; omega)
  · unfold maskref1_Shown.f
    refine Ev.bind (V_ev hv6 hx6 h2) (Ev.bind (Ev.of (fun k => maskref1_decimal.mono _ k) hd) (Ev.pos (by omega) ?_))
    rw [vs_length, w64 (n := (w : Int) - 1) (by omega)]
    exact Shown_l0 h1 h2 hv hx w _ (Nat.le_refl _) (by rw [ByteArray.size_append]; omega)
end Go.Proofs.YtfigblfjogpojaaDoor.PBits
end
