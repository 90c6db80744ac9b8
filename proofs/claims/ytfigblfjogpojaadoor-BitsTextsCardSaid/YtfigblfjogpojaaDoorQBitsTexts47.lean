/- Part 48 of the proof of BitsTextsCardSaid: The law BitsTexts: for all arguments it returns true; each argument reads behind the call as it read before. Out of the plain theorem of YtfigblfjogpojaaDoorPureBitsTexts and the printed contract. -/
import Derived.Test.YtfigblfjogpojaaDoorQBitsTexts43
import Derived.Test.YtfigblfjogpojaaDoorQBitsTexts30
import Derived.Test.YtfigblfjogpojaaDoorQBitsTexts46
section
namespace Go.Proofs.YtfigblfjogpojaaDoor.PBits
open Go.RowKit Go.Proofs.YtfigblfjogpojaaDoorW.PrintWords Go.Proofs.YtfigblfjogpojaaDoorW.PrintLast Go.Proofs.YtfigblfjogpojaaDoorW.PrintMore Go.Proofs.YtfigblfjogpojaaDoor.Bz
set_option linter.unusedVariables false
set_option linter.unusedSimpArgs false
set_option linter.unusedSectionVars false
abbrev R4 := Int × Int × Int × Int
def syn4 : R4 := (0, 0, 0, 10)
theorem bt_get (s : ByteArray) (i : Nat) (h : i < s.size) : bt s (i : Int) = ((s[i]'h).toNat : Int) := by
  unfold bt
  simp only [Int.toNat_natCast]
  rw [dif_pos h]
theorem bt_cut (s : ByteArray) (a b i : Nat) (hb : b ≤ s.size) (h : a + i < b) : bt (s.extract a b) (i : Int) = bt s ((a + i : Nat) : Int) := by
  have hz : (s.extract a b).size = b - a := by rw [ByteArray.size_extract]; omega
  rw [bt_get _ _ (by omega), bt_get _ _ (by omega)]
  congr 2
  simp [ByteArray.getElem_extract]
section
variable (s : ByteArray) (hs : s.size ≤ 100)
def isd (i : Nat) : Prop := i < s.size ∧ 48 ≤ bt s (i : Int) ∧ bt s (i : Int) ≤ 57
def dgt (i : Nat) : Int := bt s (i : Int) - 48
def capN : Nat → Int
  | 0 => 0
  | i + 1 => mn (10 * capN i + dgt s i) 1000
def letN : Nat → Int
  | 0 => 0
  | i + 1 => if letN i < 1000 then 10 * letN i + dgt s i else letN i
theorem nums_are (k : Nat) (h : ∀ i, i < k → isd s i) : 0 ≤ capN s k ∧ capN s k ≤ 1000 ∧ 0 ≤ letN s k ∧ letN s k ≤ 10000 ∧ (capN s k < 1000 → letN s k = capN s k) ∧ (letN s k < 1000 → letN s k = capN s k) := by
  induction k with
  | zero =>
    have e1 : capN s 0 = 0 := rfl
    have e2 : letN s 0 = 0 := rfl
    rw [e1, e2]
    exact ⟨by omega, by omega, by omega, by omega, fun _ => rfl, fun _ => rfl⟩
  | succ k ih =>
    obtain ⟨a1, a2, a3, a4, a5, a6⟩ := ih (fun i hi => h i (by omega))
    obtain ⟨_, b1, b2⟩ := h k (by omega)
    have hd : 0 ≤ dgt s k ∧ dgt s k ≤ 9 := by unfold dgt; omega
    have e1 : capN s (k + 1) = mn (10 * capN s k + dgt s k) 1000 := rfl
    have e2 : letN s (k + 1) = if letN s k < 1000 then 10 * letN s k + dgt s k else letN s k := rfl
    unfold mn at e1
    generalize capN s k = A at *
    generalize letN s k = B at *
    generalize dgt s k = D at *
    rw [e1, e2]
    split <;> split <;> (refine ⟨?_, ?_, ?_, ?_, ?_, ?_⟩ <;> omega)
include hs
theorem size_l0 {R : Int × Int × Int} : ∀ d i, i + d = s.size → (∀ j, j < i → isd s j) → (∀ k, k ≤ s.size → (∀ j, j < k → isd s j) → ¬ isd s k → Ev (fun n => bits_size.j1 n s (capN s k) (k : Int) false) R) → Ev (fun n => bits_size.l0 n s (capN s i) (i : Int)) R := by
  intro d
  induction d with
  | zero =>
    intro i hi hok h
    refine Ev.step (fun k => by rw [bits_size.l0]) (Ev.neg (by omega) ?_)
    exact h i (by omega) hok (fun a => by unfold isd at a; omega)
  | succ d ih =>
    intro i hi hok h
    refine Ev.step (fun k => by rw [bits_size.l0]) (Ev.pos (by omega) (Ev.pos (by omega) ?_))
    by_cases h1 : bt s (i : Int) ≥ 48
    · refine Ev.pos h1 ?_
      by_cases h2 : bt s (i : Int) ≤ 57
      · rw [decide_eq_true h2]
        obtain ⟨a1, a2, _⟩ := nums_are s i hok
        refine Ev.step (fun k => by rw [bits_size.j1]) ?_
        refine Ev.pos rfl (Ev.pos (by omega) (Ev.pos (by omega) ?_))
        have e : mn (wrap64 (wrap64 (10 * capN s i) + (bt s (i : Int) - 48) % 256)) 1000 = capN s (i + 1) := by
          show _ = mn (10 * capN s i + dgt s i) 1000
          unfold dgt
          rw [w64 (n := 10 * capN s i) (by omega), w64 (by omega), show (bt s (i : Int) - 48) % 256 = bt s (i : Int) - 48 by omega]
        rw [e, w64 (n := (i : Int) + 1) (by omega)]
        refine ih (i + 1) (by omega) (fun j hj => ?_) h
        rcases Nat.lt_or_ge j i with h3 | h3
        · exact hok j h3
        · obtain rfl : j = i := by omega
          exact ⟨by omega, h1, h2⟩
      · rw [decide_eq_false h2]
        exact h i (by omega) hok (fun a => h2 a.2.2)
    · exact Ev.neg h1 (h i (by omega) hok (fun a => h1 a.2.1))
theorem first_l0 {R : R4} : ∀ d i, i + d = s.size → (∀ j, j < i → isd s j) → (∀ k, k ≤ s.size → (∀ j, j < k → isd s j) → ¬ isd s k → Ev (fun n => maskref1_ReadBits.j1 n s (k : Int) false) R) → Ev (fun n => maskref1_ReadBits.l0 n s (i : Int)) R := by
  intro d
  induction d with
  | zero =>
    intro i hi hok h
    refine Ev.step (fun k => by rw [maskref1_ReadBits.l0]) (Ev.neg (by omega) ?_)
    exact h i (by omega) hok (fun a => by unfold isd at a; omega)
  | succ d ih =>
    intro i hi hok h
    refine Ev.step (fun k => by rw [maskref1_ReadBits.l0]) (Ev.pos (by omega) (Ev.pos (by omega) ?_))
    by_cases h1 : bt s (i : Int) ≥ 48
    · refine Ev.pos h1 ?_
      by_cases h2 : bt s (i : Int) ≤ 57
      · rw [decide_eq_true h2]
        refine Ev.step (fun k => by rw [maskref1_ReadBits.j1]) ?_
        refine Ev.pos rfl ?_
        rw [w64 (n := (i : Int) + 1) (by omega)]
        refine ih (i + 1) (by omega) (fun j hj => ?_) h
        rcases Nat.lt_or_ge j i with h3 | h3
        · exact hok j h3
        · obtain rfl : j = i := by omega
          exact ⟨by omega, h1, h2⟩
      · rw [decide_eq_false h2]
        exact h i (by omega) hok (fun a => h2 a.2.2)
    · exact Ev.neg h1 (h i (by omega) hok (fun a => h1 a.2.1))
theorem width_l1 {R : R4} (k : Nat) (hk : k ≤ s.size) (hd : ∀ j, j < k → isd s j) (h : Ev (fun n => maskref1_ReadBits.l1 n s (k : Int) (letN s k) (s.extract 0 k) (k : Int)) R) : ∀ d i, i + d = k → Ev (fun n => maskref1_ReadBits.l1 n s (k : Int) (letN s i) (s.extract 0 k) (i : Int)) R := by
  have hz : (s.extract 0 k).size = k := by rw [ByteArray.size_extract]; omega
  intro d
  induction d with
  | zero =>
    intro i hi
    obtain rfl : i = k := by omega
    exact h
  | succ d ih =>
    intro i hi
    obtain ⟨_, _, a3, a4, _⟩ := nums_are s i (fun j hj => hd j (by omega))
    obtain ⟨_, b1, b2⟩ := hd i (by omega)
    have hb : bt (s.extract 0 k) (i : Int) = bt s (i : Int) := by
      have := bt_cut s 0 k i hk (by omega)
      rw [Nat.zero_add] at this; exact this
    have w1 : wrap32 (bt s (i : Int)) = bt s (i : Int) := by unfold wrap32; omega
    have w2 : wrap32 (127 - bt s (i : Int)) = 127 - bt s (i : Int) := by unfold wrap32; omega
    have w3 : wrap32 (bt s (i : Int) - 48) = bt s (i : Int) - 48 := by unfold wrap32; omega
    refine Ev.step (fun n => by rw [maskref1_ReadBits.l1]) (Ev.pos (by rw [hz]; omega) (Ev.pos (by omega) ?_))
    rw [hb, w1, w2, w3, w64 (n := 1000 - (i : Int)) (by omega), w64 (n := (i : Int) + 1) (by omega)]
    refine Ev.pos (by omega) (Ev.pos (by omega) ?_)
    have nxt := ih (i + 1) (by omega)
    by_cases hc : letN s i < 1000
    · refine Ev.pos hc ?_
      have e : letN s (i + 1) = 10 * letN s i + (bt s (i : Int) - 48) := by
        show (if letN s i < 1000 then 10 * letN s i + dgt s i else letN s i) = _
        rw [if_pos hc]; rfl
      rw [e] at nxt
      rw [w64 (n := bt s (i : Int) - 48) (by omega), w64 (n := 10 * letN s i) (by omega), w64 (by omega)]
      exact nxt
    · refine Ev.neg hc ?_
      have e : letN s (i + 1) = letN s i := by
        show (if letN s i < 1000 then 10 * letN s i + dgt s i else letN s i) = _
        rw [if_neg hc]
      rw [e] at nxt
      exact nxt
end
theorem quad {f : Nat → Option R4} {R : R4} (h : Ev f R) : Ev (fun k => (f k).bind fun b => some (b.1, b.2.1, b.2.2.1, b.2.2.2)) R := Ev.bind h (Ev.now _)
section
variable (x : ByteArray) (hs : x.size ≤ 100) {W1 bad W2 : Int} (hw : wide W1 bad W2)
include hs hw
theorem base_same : ∃ R, Ev (fun k => bits_Read.j2 k x W1 bad) R ∧ Ev (fun k => maskref1_ReadBits.j5 k x W2) R := by
  by_cases h2 : (x.size : Int) < 2
  · refine ⟨syn4, ?_, ?_⟩
    · refine Ev.step (fun k => by rw [bits_Read.j2]) ?_
      exact Ev.pos h2 (Ev.now _)
    · refine Ev.step (fun k => by rw [maskref1_ReadBits.j5]) ?_
      exact Ev.pos h2 (Ev.now _)
  have hz : (x.extract 1 x.size).size = x.size - 1 := by rw [ByteArray.size_extract]; omega
  have hby := bt_byte x 0
  have size_ : ∀ r, r = (if bt x 0 = 98 then (1 : Int) else if bt x 0 = 111 then 3 else if bt x 0 = 104 then 4 else if bt x 0 = 100 then 99 else 0) → sizeT.f (bt x 0) = some r := by
    intro r hr
    unfold sizeT.f
    rw [if_pos hby, hr]
  have refE : ∀ {R : R4} (r : Int), sizeT.f (bt x 0) = some r → Ev (fun k => if r = 0 then some ((0, 0, 0, 10) : R4) else if r = 99 then (if 1 ≤ (x.size : Int) then ((maskref1_readDecimal.f k (x.extract 1 x.size) W2).bind fun bt249 => (some (bt249.1, bt249.2.1, bt249.2.2.1, bt249.2.2.2))) else none) else (if 1 ≤ (x.size : Int) then ((maskref1_readDigits.f k (x.extract 1 x.size) W2 r).bind fun bt253 => (some (bt253.1, bt253.2.1, bt253.2.2.1, bt253.2.2.2))) else none)) R → Ev (fun k => maskref1_ReadBits.j5 k x W2) R := by
    intro R r hr h
    refine Ev.step (fun k => by rw [maskref1_ReadBits.j5]) ?_
    exact Ev.neg h2 (Ev.bnd rfl (Ev.pos (by omega) (Ev.bnd hr h)))
  have grp : ∀ (g : Nat), (g = 1 ∨ g = 3 ∨ g = 4) → sizeT.f (bt x 0) = some (g : Int) → (∀ {R : R4}, Ev (fun k => bits_Read.j3 k x W1 bad (g : Int)) R → Ev (fun k => bits_Read.j2 k x W1 bad) R) → ∃ R, Ev (fun k => bits_Read.j2 k x W1 bad) R ∧ Ev (fun k => maskref1_ReadBits.j5 k x W2) R := by
    intro g hg hsz hj
    obtain ⟨R, r1, r2⟩ := grouped_same (x.extract 1 x.size) (by omega) (by omega) g hg hw
    refine ⟨R, hj ?_, refE (g : Int) hsz ?_⟩
    · refine Ev.step (fun k => by rw [bits_Read.j3]) ?_
      exact Ev.neg (by omega) (Ev.pos (by omega) (quad r1))
    · exact Ev.neg (by omega) (Ev.neg (by omega) (Ev.pos (by omega) (quad r2)))
  by_cases e1 : bt x 0 = 98
  · refine grp 1 (.inl rfl) (size_ _ (by rw [if_pos e1]; rfl)) (fun h => ?_)
    refine Ev.step (fun k => by rw [bits_Read.j2]) ?_
    exact Ev.neg h2 (Ev.pos (by omega) (Ev.pos e1 h))
  by_cases e2 : bt x 0 = 111
  · refine grp 3 (.inr (.inl rfl)) (size_ _ (by rw [if_neg e1, if_pos e2]; rfl)) (fun h => ?_)
    refine Ev.step (fun k => by rw [bits_Read.j2]) ?_
    exact Ev.neg h2 (Ev.pos (by omega) (Ev.neg e1 (Ev.pos e2 h)))
  by_cases e3 : bt x 0 = 104
  · refine grp 4 (.inr (.inr rfl)) (size_ _ (by rw [if_neg e1, if_neg e2, if_pos e3]; rfl)) (fun h => ?_)
    refine Ev.step (fun k => by rw [bits_Read.j2]) ?_
    exact Ev.neg h2 (Ev.pos (by omega) (Ev.neg e1 (Ev.neg e2 (Ev.pos e3 h))))
  by_cases e4 : bt x 0 = 100
  · obtain ⟨R, r1, r2⟩ := decimal_same (x.extract 1 x.size) (by omega) (by omega) 1 (.inl rfl) hw
    refine ⟨R, ?_, refE 99 (size_ _ (by rw [if_neg e1, if_neg e2, if_neg e3, if_pos e4])) ?_⟩
    · refine Ev.step (fun k => by rw [bits_Read.j2]) ?_
      exact Ev.neg h2 (Ev.pos (by omega) (Ev.neg e1 (Ev.neg e2 (Ev.neg e3 (Ev.pos e4 (Ev.pos (by omega) (quad r1)))))))
    · exact Ev.neg (by decide) (Ev.pos rfl (Ev.pos (by omega) (quad r2)))
  · refine ⟨syn4, ?_, refE 0 (size_ _ (by rw [if_neg e1, if_neg e2, if_neg e3, if_neg e4])) (Ev.pos rfl (Ev.now _))⟩
    refine Ev.step (fun k => by rw [bits_Read.j2]) ?_
    refine Ev.neg h2 (Ev.pos (by omega) (Ev.neg e1 (Ev.neg e2 (Ev.neg e3 (Ev.neg e4 ?_)))))
    refine Ev.step (fun k => by rw [bits_Read.j3]) ?_
    exact Ev.pos rfl (Ev.now _)
theorem sign_same (b : Bool) (hb : b = true → 1 ≤ x.size) : ∃ R, Ev (fun k => bits_Read.j1 k x W1 bad b) R ∧ Ev (fun k => maskref1_ReadBits.j4 k x W2 b) R := by
  cases b with
  | true =>
    have hz : (x.extract 1 x.size).size = x.size - 1 := by rw [ByteArray.size_extract]; omega
    obtain ⟨R, r1, r2⟩ := base_same (x.extract 1 x.size) (by omega) hw
    have := hb rfl
    refine ⟨R, ?_, ?_⟩
    · refine Ev.step (fun k => by rw [bits_Read.j1]) ?_
      exact Ev.pos rfl (Ev.pos (by omega) r1)
    · refine Ev.step (fun k => by rw [maskref1_ReadBits.j4]) ?_
      exact Ev.pos rfl (Ev.pos (by omega) r2)
  | false =>
    obtain ⟨R, r1, r2⟩ := base_same x hs hw
    refine ⟨R, ?_, ?_⟩
    · refine Ev.step (fun k => by rw [bits_Read.j1]) ?_
      exact Ev.neg (by decide) r1
    · refine Ev.step (fun k => by rw [maskref1_ReadBits.j4]) ?_
      exact Ev.neg (by decide) r2
end
end Go.Proofs.YtfigblfjogpojaaDoor.PBits
end
