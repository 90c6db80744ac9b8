/- Part 21 of the proof of SyntaxExprsUptoSaid: The law SyntaxExprs, where the tree that it reads is of bulk at most 1048576: it returns true; the tree reads behind the call as it read before. Out of the plain theorem of YtlamgdibnnmbmaaPureSyntaxExprs and the printed contract. -/
import Derived.Test.YtlamgdibnnmbmaaQSyntaxExprsUpto18
import Derived.Test.YtlamgdibnnmbmaaQSyntaxExprsUpto19
import Derived.KernelRfl
section
namespace Go.Proofs.Ytlamgdibnnmbmaa.PSyn
open Go.RowKit Go.Proofs.YtlamgdibnnmbmaaW.PrintWords Go.Proofs.YtlamgdibnnmbmaaW.PrintLast Go.Proofs.YtlamgdibnnmbmaaW.PrintMore
set_option linter.unusedVariables false
set_option linter.unusedSimpArgs false
def splitS : List UInt8 → List UInt8 → List (List UInt8)
  | cur, [] => if cur = [] then [] else [cur]
  | cur, c :: r => if c = 32 then (if cur = [] then splitS [] r else cur :: splitS [] r) else splitS (cur ++ [c]) r
def ofL (l : List UInt8) : ByteArray := ⟨l.toArray⟩
theorem ofL_toList (l : List UInt8) : (ofL l).toList = l := by
  rw [ByteArray.toList_eq]; rfl
theorem ba_ext {s : ByteArray} {l : List UInt8} (h : s.data.toList = l) : s = ofL l := by
  cases s with | mk d => unfold ofL; congr 1; apply Array.ext'; simpa using h
theorem extract_list (s : ByteArray) (a b : Nat) : (s.extract a b).data.toList = (s.data.toList.take b).drop a := by
  simp [ByteArray.data_extract, Array.toList_extract, List.extract_eq_take_drop, List.drop_take]
theorem bt_cons (s : ByteArray) (i : Nat) {c : UInt8} {r : List UInt8} (h : s.data.toList.drop i = c :: r) : i < s.size ∧ bt s (i : Int) = (c.toNat : Int) ∧ s.data.toList.drop (i + 1) = r := by
  have hl : i < s.data.toList.length := by
    rcases Nat.lt_or_ge i s.data.toList.length with h1 | h1
    · exact h1
    · rw [List.drop_eq_nil_of_le h1] at h; cases h
  rw [List.drop_eq_getElem_cons hl] at h
  injection h with h1 h2
  refine ⟨by simpa using hl, ?_, h2⟩
  have hs : i < s.size := by simpa using hl
  have := bt_at s (i : Int) (by simpa using hs)
  rw [← this, ← h1]
  rfl
theorem bt_none (s : ByteArray) (i : Nat) (h : s.data.toList.drop i = []) : s.size ≤ i := by
  have := List.drop_eq_nil_iff.1 h
  simpa using this
theorem Split_l0 (s : ByteArray) (hs : s.size ≤ 100000) : ∀ (rest cur : List UInt8) (i from_ : Nat) (out : List ByteArray), s.data.toList.drop i = rest → i ≤ s.size → from_ ≤ i → (s.data.toList.take i).drop from_ = cur → out.length ≤ i →
    Ev (fun k => maskref1_Split.l0 k s out (from_ : Int) (i : Int)) (out ++ (splitS cur rest).map ofL) := by
  intro rest
  induction rest with
  | nil =>
    intro cur i from_ out hr hi hf hc ho
    have hi2 := bt_none s i hr
    obtain rfl : i = s.size := by omega
    have stop : ∀ (o : List ByteArray) (fr : Int), Ev (fun k => maskref1_Split.l0 k s o fr (wrap64 ((s.size : Int) + 1))) o := by
      intro o fr
      rw [w64 (n := (s.size : Int) + 1) (by omega)]
      exact Ev.step (fun k => by rw [maskref1_Split.l0]) (Ev.neg (by omega) (Ev.now _))
    have hclen : cur.length = s.size - from_ := by rw [← hc]; simp
    refine Ev.step (fun k => by rw [maskref1_Split.l0]) (Ev.pos (by omega) (Ev.pos rfl ?_))
    refine Ev.step (fun k => by rw [maskref1_Split.j1]) (Ev.pos rfl ?_)
    by_cases hcur : cur = []
    · subst hcur
      simp only [List.length_nil] at hclen
      refine Ev.neg (by omega) ((stop out _).eq ?_)
      simp [splitS]
    · have : 0 < cur.length := List.length_pos_iff.2 hcur
      refine Ev.pos (by omega) (Ev.pos (by omega) (Ev.pos (by omega) (Ev.pos (by omega) (Ev.pos (by omega) ?_))))
      have he : s.extract (from_ : Int).toNat (s.size : Int).toNat = ofL cur := ba_ext (by rw [extract_list, Int.toNat_natCast, Int.toNat_natCast]; exact hc)
      rw [he]
      refine (stop _ _).eq ?_
      simp [splitS, hcur]
  | cons c r ih =>
    intro cur i from_ out hr hi hf hc ho
    obtain ⟨hlt, hb, hr'⟩ := bt_cons s i hr
    have hclen : cur.length = i - from_ := by rw [← hc]; simp; omega
    refine Ev.step (fun k => by rw [maskref1_Split.l0]) (Ev.pos (by omega) (Ev.neg (by omega) (Ev.pos (by omega) (Ev.pos (by omega) ?_))))
    rw [hb]
    by_cases h32 : c = 32
    · subst h32
      rw [show (((32 : UInt8).toNat : Int) == 32) = true from rfl]
      refine Ev.step (fun k => by rw [maskref1_Split.j1]) (Ev.pos rfl ?_)
      rw [w64 (n := (i : Int) + 1) (by omega)]
      have nextE : ∀ o : List ByteArray, o.length ≤ i + 1 → Ev (fun k => maskref1_Split.l0 k s o ((i : Int) + 1) ((i : Int) + 1)) (o ++ (splitS [] r).map ofL) := by
        intro o h
        exact ih [] (i + 1) (i + 1) o hr' (by omega) (Nat.le_refl _) (by rw [List.drop_eq_nil_iff]; simp; omega) h
      by_cases hcur : cur = []
      · subst hcur
        simp only [List.length_nil] at hclen
        refine Ev.neg (by omega) ((nextE out (by omega)).eq ?_)
        simp [splitS]
      · have : 0 < cur.length := List.length_pos_iff.2 hcur
        refine Ev.pos (by omega) (Ev.pos (by omega) (Ev.pos (by omega) (Ev.pos (by omega) (Ev.pos (by omega) ?_))))
        have he : s.extract (from_ : Int).toNat (i : Int).toNat = ofL cur := ba_ext (by rw [extract_list, Int.toNat_natCast, Int.toNat_natCast]; exact hc)
        rw [he]
        refine (nextE _ (by simp; omega)).eq ?_
        simp [splitS, hcur]
    · have hne : ((c.toNat : Int) == 32) = false := by
        rw [beq_eq_false_iff_ne]
        intro e
        apply h32
        have : c.toNat = 32 := by omega
        exact UInt8.toNat_inj.1 this
      rw [hne]
      refine Ev.step (fun k => by rw [maskref1_Split.j1]) (Ev.neg (by decide) ?_)
      rw [w64 (n := (i : Int) + 1) (by omega)]
      have e := ih (cur ++ [c]) (i + 1) from_ out hr' (by omega) (by omega) (by
        have hli : i < s.data.toList.length := by simpa using hlt
        rw [List.take_succ_eq_append_getElem hli, List.drop_append_of_le_length (by simp; omega), hc]
        congr 1
        rw [List.drop_eq_getElem_cons hli] at hr
        injection hr with h1 _
        rw [h1]) (by omega)
      refine e.eq ?_
      simp [splitS, h32]
theorem Split_ev (s : ByteArray) (hs : s.size ≤ 100000) : Ev (fun k => maskref1_Split.f k s) ((splitS [] s.data.toList).map ofL) := by
  unfold maskref1_Split.f
  have e := Split_l0 s hs s.data.toList [] 0 0 [] (List.drop_zero ..) (Nat.zero_le _) (Nat.le_refl _) (by simp) (Nat.le_refl _)
  rw [List.nil_append] at e
  exact e
def formsL : List S73 := (shapesL.map fun s => (⟨s.f0, s.f1, if s.f2.size = 0 then ⟨#[45]⟩ else s.f2⟩ : S73)).set 52 ⟨⟨#[88]⟩, ⟨#[88, 88, 43]⟩, ⟨#[45]⟩⟩
set_option maxRecDepth 100000 in
theorem forms_ev : Ev (fun k => maskref1_forms.f k) formsL := by
  unfold maskref1_forms.f
  refine Ev.bind (Split_ev _ (by decide +kernel)) ?_
  refine Ev.pos (by decide +kernel) ?_
  exact Ev.of (fun k => maskref1_forms.mono_l k _ _ _ _ _) (k := 600) (by kernel_rfl)
end Go.Proofs.Ytlamgdibnnmbmaa.PSyn
end
