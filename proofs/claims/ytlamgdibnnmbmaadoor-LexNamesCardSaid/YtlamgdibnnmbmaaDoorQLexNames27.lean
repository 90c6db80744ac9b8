/- Part 28 of the proof of LexNamesCardSaid: The law LexNames: for all arguments it returns true; each argument reads behind the call as it read before. Out of the plain theorem of YtlamgdibnnmbmaaDoorPureLexNames and the printed contract. -/
import Derived.Test.YtlamgdibnnmbmaaDoorQLexNames23
import Derived.Test.YtlamgdibnnmbmaaDoorQLexNames24
import Derived.Test.YtlamgdibnnmbmaaDoorQLexNames26
section
namespace Go.Proofs.YtlamgdibnnmbmaaDoor.PLex
open Go.RowKit Go.Proofs.YtlamgdibnnmbmaaDoorW.PrintWords Go.Proofs.YtlamgdibnnmbmaaDoorW.PrintLast Go.Proofs.YtlamgdibnnmbmaaDoorW.PrintMore
set_option linter.unusedVariables false
set_option linter.unusedSimpArgs false
def WORDS : List ByteArray := lex_Words.f.getD []
def SIGNS : List ByteArray := lex_Signs.f.getD []
def ofN (v : Int) : Int × Int × Int := (bits_Of.f 32 v).getD (0, 0, 0)
def numE (T : ByteArray) (a k1 k2 : Nat) : Int := if k1 - a < k2 - a then 10 else if 1 < k1 - a ∧ ((T[a]!).toNat : Int) = 48 then 10 else if 2147483647 < valN T a (k1 - a) then 3 else 0
def numP (T : ByteArray) (a k1 : Nat) (t : S63) : Int × Nat × S63 :=
  (numE T a k1 (runTo T wordP k1), if numE T a k1 (runTo T wordP k1) = 0 then k1 - a else 0, { t with f0 := 3, f5 := ⟨(ofN (valN T a (k1 - a))).1, (ofN (valN T a (k1 - a))).2.1, (ofN (valN T a (k1 - a))).2.2⟩, f6 := true })
def numF (k : Nat) (T : ByteArray) (a : Nat) (t : S63) : Option (Int × Nat × S63) :=
  if h : runTo T figureP a < T.size then
    if T[runTo T figureP a]'h = 39 then
      (bits_Read.f k (T.extract a (runTo T wordP (runTo T figureP a + 1)))).bind fun r => some (r.2.2.2, runTo T wordP (runTo T figureP a + 1) - a, { t with f0 := 3, f5 := ⟨r.1, r.2.1, r.2.2.1⟩, f6 := Lib.contains (T.extract a (runTo T wordP (runTo T figureP a + 1))).data.toList [39, 115] })
    else some (numP T a (runTo T figureP a) t)
  else some (numP T a (runTo T figureP a) t)
def quoteE (T : ByteArray) (a k1 : Nat) : Int :=
  if k1 - a = 1 then 10 else if h : k1 < T.size then if Lib.indexByte [32, 9, 10] (T[k1]'h) < 0 then 10 else if 40 < k1 - a - 1 then 3 else 0 else if 40 < k1 - a - 1 then 3 else 0
def tokF (k : Nat) (T : ByteArray) (a : Nat) (t : S63) : Option (Int × Nat × S63) :=
  if h : a < T.size then
    if letterP (T[a]'h) then
      (slices_BinarySearch_string_string.f k WORDS (T.extract a (runTo T wordP a))).bind fun r =>
        some (if 40 < runTo T wordP a - a then 3 else 0, if 40 < runTo T wordP a - a then 0 else runTo T wordP a - a, { t with f0 := if r.2 then 2 else 1, f3 := T.extract a (runTo T wordP a) })
    else if figureP (T[a]'h) then numF k T a t
    else if ((T[a]'h).toNat : Int) == 34 then some ((textF T (T.size + 1) (a + 1) []).1, (textF T (T.size + 1) (a + 1) []).2.1 - a, { t with f0 := 4, f3 := strOfNums (textF T (T.size + 1) (a + 1) []).2.2 })
    else if ((T[a]'h).toNat : Int) == 92 then
      some (quoteE T a (runTo T quoteP (a + 1)), if quoteE T a (runTo T quoteP (a + 1)) = 0 then runTo T quoteP (a + 1) - a else 0, { t with f0 := 1, f3 := T.extract (a + 1) (runTo T quoteP (a + 1)), f4 := true })
    else match SIGNS.find? (fun p => Lib.hasPrefix (tail T a).data.toList p.data.toList) with
      | some p => some (0, p.size, { t with f0 := 5, f3 := p })
      | none => some (10, 0, t)
  else none
theorem no34 {c : Int} (h : (c == 92) = true) : (c == 34) = false := by
  have := eq_of_beq h; exact beq_eq_false_iff_ne.2 (by omega)
theorem w64_succ {a a1 S : Nat} (h : a1 = a + 1) (hS : S ≤ 1000000) (ha : a ≤ S) : wrap64 ((a : Int) + 1) = (a1 : Int) := by rw [w64' (by omega) (by omega)]; omega
theorem small1 {T : ByteArray} {s : Sc} (hs : s.Ok T) : s.at_ + 1 ≤ 2000000 := by have := hs.size; have := hs.at_; omega
theorem quote_ways {T : ByteArray} {a k n rn : Nat} {er : Int} (he : er = quoteE T a k) (hr : rn = if er = 0 then n else 0) (hn : a + n = k) (h1 : 1 ≤ n) (hkl : k ≤ T.size) (hS : T.size ≤ 1000000) :
    ∃ m : Nat, m = n - 1 ∧ wrap64 ((n : Int) - 1) = (m : Int) ∧ IntKind.i64.wrap ((n : Int) - 1) = (m : Int) ∧
    ((((n : Int) == 1) = true ∧ (n == 1) = true ∧ er = 10 ∧ rn = 0) ∨
     (((n : Int) == 1) = false ∧ (n == 1) = false ∧ ∃ h : k < T.size, decide ((k : Int) < (T.size : Int)) = true ∧ decide (k < T.size) = true ∧ ∃ ib : Int, Lib.indexByte [32, 9, 10] (T[k]'h) = ib ∧ decide (ib < 0) = true ∧ er = 10 ∧ rn = 0) ∨
     (((n : Int) == 1) = false ∧ (n == 1) = false ∧ ∃ h : k < T.size, decide ((k : Int) < (T.size : Int)) = true ∧ decide (k < T.size) = true ∧ ∃ ib : Int, Lib.indexByte [32, 9, 10] (T[k]'h) = ib ∧ decide (ib < 0) = false ∧ decide (40 < m) = true ∧ decide ((40 : Int) < (m : Int)) = true ∧ er = 3 ∧ rn = 0) ∨
     (((n : Int) == 1) = false ∧ (n == 1) = false ∧ ∃ h : k < T.size, decide ((k : Int) < (T.size : Int)) = true ∧ decide (k < T.size) = true ∧ ∃ ib : Int, Lib.indexByte [32, 9, 10] (T[k]'h) = ib ∧ decide (ib < 0) = false ∧ decide (40 < m) = false ∧ decide ((40 : Int) < (m : Int)) = false ∧ er = 0 ∧ rn = n) ∨
     (((n : Int) == 1) = false ∧ (n == 1) = false ∧ decide ((k : Int) < (T.size : Int)) = false ∧ decide (k < T.size) = false ∧ decide (40 < m) = true ∧ decide ((40 : Int) < (m : Int)) = true ∧ er = 3 ∧ rn = 0) ∨
     (((n : Int) == 1) = false ∧ (n == 1) = false ∧ decide ((k : Int) < (T.size : Int)) = false ∧ decide (k < T.size) = false ∧ decide (40 < m) = false ∧ decide ((40 : Int) < (m : Int)) = false ∧ er = 0 ∧ rn = n)) := by
  have hka : k - a = n := by omega
  unfold quoteE at he
  rw [hka] at he
  have dN : ∀ {p q : Nat}, decide ((p : Int) < (q : Int)) = decide (p < q) := fun {p q} => decide_eq_decide.2 (by omega)
  refine ⟨n - 1, rfl, by rw [w64' (by omega) (by omega)]; omega, by rw [IntWalk.i64_in _ ⟨by omega, by omega⟩]; omega, ?_⟩
  rw [dN, show decide ((40 : Int) < ((n - 1 : Nat) : Int)) = decide (40 < n - 1) from decide_eq_decide.2 (by omega)]
  by_cases hn1 : n = 1
  · rw [if_pos hn1] at he
    rw [he, if_neg (by decide)] at hr
    exact .inl ⟨beq_iff_eq.2 (by omega), beq_iff_eq.2 hn1, he, hr⟩
  · rw [if_neg hn1] at he
    have b1 : ((n : Int) == 1) = false := beq_eq_false_iff_ne.2 (by omega)
    have b2 : (n == 1) = false := beq_eq_false_iff_ne.2 hn1
    refine .inr ?_
    by_cases hkT : k < T.size
    · rw [dif_pos hkT] at he
      have d1 := decide_eq_true hkT
      by_cases hib : Lib.indexByte [32, 9, 10] (T[k]'hkT) < 0
      · rw [if_pos hib] at he
        rw [he, if_neg (by decide)] at hr
        exact .inl ⟨b1, b2, hkT, d1, d1, _, rfl, decide_eq_true hib, he, hr⟩
      · rw [if_neg hib] at he
        refine .inr ?_
        by_cases h40 : 40 < n - 1
        · rw [if_pos h40] at he
          rw [he, if_neg (by decide)] at hr
          exact .inl ⟨b1, b2, hkT, d1, d1, _, rfl, decide_eq_false hib, decide_eq_true h40, decide_eq_true h40, he, hr⟩
        · rw [if_neg h40] at he
          rw [he, if_pos rfl] at hr
          exact .inr (.inl ⟨b1, b2, hkT, d1, d1, _, rfl, decide_eq_false hib, decide_eq_false h40, decide_eq_false h40, he, hr⟩)
    · rw [dif_neg hkT] at he
      have d1 := decide_eq_false hkT
      refine .inr (.inr (.inr ?_))
      by_cases h40 : 40 < n - 1
      · rw [if_pos h40] at he
        rw [he, if_neg (by decide)] at hr
        exact .inl ⟨b1, b2, d1, d1, decide_eq_true h40, decide_eq_true h40, he, hr⟩
      · rw [if_neg h40] at he
        rw [he, if_pos rfl] at hr
        exact .inr ⟨b1, b2, d1, d1, decide_eq_false h40, decide_eq_false h40, he, hr⟩
theorem space_index (c : UInt8) {ib : Int} (h : Lib.indexByte [32, 9, 10] c = ib) : ∀ q : World, Calls Tryd.prog 84 #[.string ⟨#[32, 9, 10]⟩, .int .u8 (c.toNat : Int)] q fun e w' => e = .returned (.int .i64 ib) ∧ w' = q := by
  intro q
  have hi := Tryd.strings_IndexByte ⟨#[32, 9, 10]⟩ (c.toNat : Int) q
  have hcc : ((c.toNat : Int).toNat.toUInt8) = c := by simp
  have hl : Lib.indexByte (⟨#[32, 9, 10]⟩ : ByteArray).data.toList ((c.toNat : Int).toNat.toUInt8) = ib := by rw [hcc]; exact h
  rw [hl] at hi
  exact hi
@[reducible] def LeftR (gt : Nat) (t : S63) (r : Int × Nat × S63) (w : World) (e : Ending) (w' : World) : Prop := Left gt t r.2.2 r.2.1 r.1 w e w'
set_option maxHeartbeats 2000000 in
set_option maxRecDepth 100000 in
theorem token_text (T : ByteArray) (g gt : Nat) (s : Sc) (t : S63) (w : World) (hs : s.Ok T) (hlt : s.at_ < T.size) (hb : Blk w g T s) (ht : TBlk w gt t) (hne : g ≠ gt)
    (hl : letterP (T[s.at_]'hlt) = false) (hf : figureP (T[s.at_]'hlt) = false) (h34 : (((T[s.at_]'hlt).toNat : Int) == 34) = true) :
    Calls Tryd.prog 80 #[.pointer (some ⟨g, 0, none⟩), .pointer (some ⟨gt, 0, none⟩)] w (LeftR gt t ((textF T (T.size + 1) (s.at_ + 1) []).1, (textF T (T.size + 1) (s.at_ + 1) []).2.1 - s.at_, { t with f0 := 4, f3 := strOfNums (textF T (T.size + 1) (s.at_ + 1) []).2.2 }) w) := by
  have mixed : Tryd.prog.follows .mixedOrders = true := by kernel_rfl
  have hc0 : w.cell? ⟨g, 0, none⟩ = some (.string T) := (blk_cell hb 0).trans rfl
  have hc1 : w.cell? ⟨g, 1, none⟩ = some (.int .i64 s.at_) := (blk_cell hb 1).trans rfl
  have i0 : (0 : Int) ≤ (s.at_ : Int) := nn_int
  have i1 := lt_int hlt
  have hL := fun W => letter_walk (T[s.at_]'hlt) W
  have hF := fun W => figure_walk (T[s.at_]'hlt) W
  rw [hl] at hL
  rw [hf] at hF
  have HL := Aside0.mk hL
  have HF := Aside0.mk hF
  have HX := Aside0.mk (fun q => text_walk T g gt s t (w.drewN q) hs hlt hb ht hne)
  clear hL hF hl hf hb ht hs
  go_enter Tryd.func80, Tryd.ntmps80
  go_wp2_with fail
  go_quiet (fail)
  go_wp2_with (first | (go_at_call 53; (with_reducible refine (HL.out _).mono ?_); rintro e w2 ⟨rfl, rfl⟩) | (go_at_call 54; (with_reducible refine (HF.out _).mono ?_); rintro e w2 ⟨rfl, rfl⟩) | (go_at_call 108; (with_reducible refine (HX.out _).mono ?_); rintro e w2 ⟨rfl, hM, hU⟩))
  refine bodyPost_ret (results_tmp2 rfl _ _ _) rfl ?_
  exact ⟨rfl, ((Mut.refl gt w).drewN _).trans hM, hU⟩
theorem number_walk (k : Nat) (T : ByteArray) (g gt : Nat) (s : Sc) (t : S63) (w : World) (m : Int) (hg : 0 < g) (hgt : 0 < gt) (hm : w.cell? ⟨0, 0, none⟩ = some (.int .i64 m)) (hs : s.Ok T) (hlt : s.at_ < T.size) (hb : Blk w g T s) (ht : TBlk w gt t) (hne : g ≠ gt)
    (r : Int × Nat × S63) (h : numF k T s.at_ t = some r) :
    Calls Tryd.prog 107 #[.pointer (some ⟨g, 0, none⟩), .pointer (some ⟨gt, 0, none⟩)] w (LeftR gt t r w) := by
  have hge := runTo_ge T figureP _ s.at_ (Nat.le_refl _)
  have hle := runTo_le T figureP _ s.at_ (Nat.le_refl _)
  have plain : ∀ (hq : ∀ h : runTo T figureP s.at_ < T.size, T[runTo T figureP s.at_]'h ≠ 39), some (numP T s.at_ (runTo T figureP s.at_) t) = some r → Calls Tryd.prog 107 #[.pointer (some ⟨g, 0, none⟩), .pointer (some ⟨gt, 0, none⟩)] w (LeftR gt t r w) := by
    intro hq hr
    injection hr with hr
    subst hr
    have hge2 := runTo_ge T wordP _ (runTo T figureP s.at_) (Nat.le_refl _)
    have hle2 := runTo_le T wordP _ (runTo T figureP s.at_) (Nat.le_refl _)
    refine number_plain T ofN ?_ g gt s t w hs hlt hb ht hne (runTo T figureP s.at_ - s.at_) (runTo T figureP s.at_) (runTo T wordP (runTo T figureP s.at_) - s.at_) (runTo T wordP (runTo T figureP s.at_)) (numE T s.at_ (runTo T figureP s.at_) (runTo T wordP (runTo T figureP s.at_))) _ rfl ?_ rfl (by omega) (by omega) hq rfl (by omega) (by omega)
    · intro v W
      have hv : ∃ x, bits_Of.f 32 v = some x := by
        unfold bits_Of.f
        rw [if_neg (by omega), if_neg (by omega)]
        exact ⟨_, rfl⟩
      obtain ⟨⟨x1, x2, x3⟩, hx⟩ := hv
      have e : ofN v = (x1, x2, x3) := by unfold ofN; rw [hx]; rfl
      rw [e]
      exact bits_Of.calls 32 v x1 x2 x3 W hx
    · unfold numE; rw [getElem!_pos T s.at_ hlt]
  unfold numF at h
  split at h
  · rename_i hk
    split at h
    · rename_i hq
      have hge2 := runTo_ge T wordP _ (runTo T figureP s.at_ + 1) (Nat.le_refl _)
      have hle2 := runTo_le T wordP _ (runTo T figureP s.at_ + 1) (Nat.le_refl _)
      obtain ⟨⟨r1, r2, r3, r4⟩, hr, h⟩ := Option.bind_eq_some_iff.1 h
      injection h with h
      subst h
      exact number_quote T (fun _ => (r1, r2, r3, r4)) g gt s t w m hg hgt hm hs hlt hb ht hne (runTo T figureP s.at_ - s.at_) (runTo T figureP s.at_) (runTo T wordP (runTo T figureP s.at_ + 1) - s.at_) (runTo T wordP (runTo T figureP s.at_ + 1)) rfl (by omega) hk hq rfl (by omega) (by omega) (fun u W hu => by subst hu; exact bits_Read.calls k _ r1 r2 r3 r4 W hr)
    · rename_i hq
      exact plain (fun _ => hq) h
  · rename_i hk
    exact plain (fun h' => absurd h' hk) h
set_option maxHeartbeats 2000000 in
set_option maxRecDepth 100000 in
theorem token_figure (k : Nat) (T : ByteArray) (g gt : Nat) (s : Sc) (t : S63) (w : World) (m : Int) (hg : 0 < g) (hgt : 0 < gt) (hm : w.cell? ⟨0, 0, none⟩ = some (.int .i64 m)) (hs : s.Ok T) (hlt : s.at_ < T.size) (hb : Blk w g T s) (ht : TBlk w gt t) (hne : g ≠ gt)
    (hl : letterP (T[s.at_]'hlt) = false) (hf : figureP (T[s.at_]'hlt) = true) (r : Int × Nat × S63) (h : numF k T s.at_ t = some r) :
    Calls Tryd.prog 80 #[.pointer (some ⟨g, 0, none⟩), .pointer (some ⟨gt, 0, none⟩)] w (LeftR gt t r w) := by
  have mixed : Tryd.prog.follows .mixedOrders = true := by kernel_rfl
  have hc0 : w.cell? ⟨g, 0, none⟩ = some (.string T) := (blk_cell hb 0).trans rfl
  have hc1 : w.cell? ⟨g, 1, none⟩ = some (.int .i64 s.at_) := (blk_cell hb 1).trans rfl
  have i0 : (0 : Int) ≤ (s.at_ : Int) := nn_int
  have i1 := lt_int hlt
  have hL := fun W => letter_walk (T[s.at_]'hlt) W
  have hF := fun W => figure_walk (T[s.at_]'hlt) W
  rw [hl] at hL
  rw [hf] at hF
  have HL := Aside0.mk hL
  have HF := Aside0.mk hF
  have HX := Aside0.mk (fun q => number_walk k T g gt s t (w.drewN q) m hg hgt hm hs hlt hb ht hne r h)
  clear hL hF hl hf hb ht hs hm
  go_enter Tryd.func80, Tryd.ntmps80
  go_wp2_with fail
  go_quiet (fail)
  go_wp2_with (first | (go_at_call 53; (with_reducible refine (HL.out _).mono ?_); rintro e w2 ⟨rfl, rfl⟩) | (go_at_call 54; (with_reducible refine (HF.out _).mono ?_); rintro e w2 ⟨rfl, rfl⟩) | (go_at_call 107; (with_reducible refine (HX.out _).mono ?_); rintro e w2 ⟨rfl, hM, hU⟩))
  refine bodyPost_ret (results_tmp2 rfl _ _ _) rfl ?_
  exact ⟨rfl, ((Mut.refl gt w).drewN _).trans hM, hU⟩
set_option maxHeartbeats 2000000 in
set_option maxRecDepth 100000 in
theorem token_quoted (T : ByteArray) (g gt : Nat) (s : Sc) (t : S63) (w : World) (hs : s.Ok T) (hlt : s.at_ < T.size) (hb : Blk w g T s) (ht : TBlk w gt t) (hne : g ≠ gt)
    (hl : letterP (T[s.at_]'hlt) = false) (hf : figureP (T[s.at_]'hlt) = false) (h92 : (((T[s.at_]'hlt).toNat : Int) == 92) = true) (er : Int) (rn k n : Nat) (hk : k = runTo T quoteP (s.at_ + 1)) (hn : s.at_ + n = k) (hn1 : 1 ≤ n) (hkl : k ≤ T.size) (her : er = quoteE T s.at_ k) (hrn : rn = if er = 0 then n else 0) :
    Calls Tryd.prog 80 #[.pointer (some ⟨g, 0, none⟩), .pointer (some ⟨gt, 0, none⟩)] w (LeftR gt t (er, rn, { t with f0 := 1, f3 := T.extract (s.at_ + 1) k, f4 := true }) w) := by
  have mixed : Tryd.prog.follows .mixedOrders = true := by kernel_rfl
  have hc0 : w.cell? ⟨g, 0, none⟩ = some (.string T) := (blk_cell hb 0).trans rfl
  have hc1 : w.cell? ⟨g, 1, none⟩ = some (.int .i64 s.at_) := (blk_cell hb 1).trans rfl
  have i0 : (0 : Int) ≤ (s.at_ : Int) := nn_int
  have i1 := lt_int hlt
  have h34 : (((T[s.at_]'hlt).toNat : Int) == 34) = false := no34 h92
  have hL := fun W => letter_walk (T[s.at_]'hlt) W
  have hF := fun W => figure_walk (T[s.at_]'hlt) W
  rw [hl] at hL
  rw [hf] at hF
  have HL := Aside0.mk hL
  have HF := Aside0.mk hF
  have hR : ∀ q, Calls Tryd.prog 104 #[.pointer (some ⟨g, 0, none⟩), .int .i64 1, .func (.func 60) #[] #[]] (w.drewN q) fun e w' => e = .returned (.int .i64 (n : Int)) ∧ ∃ j, w' = w.drewN j := by
    intro q
    refine (run_walk T quoteP 60 Tryd.f60 Tryd.func60 (by kernel_rfl) rfl quotable_walk g 1 s (w.drewN q) hs (small1 hs) hb).mono fun e w' ⟨h1, j, h2⟩ => ⟨?_, q + j, by rw [h2, World.drewN_drewN]⟩
    rw [h1, ← hk, ← hn, Nat.add_sub_cancel_left]
  have HR := Aside0.mk hR
  obtain ⟨hz0, hz1, hz2, hz3, hz4, hz5, hz6, hz7, hz8⟩ := sq_cells9 ht
  obtain ⟨hf0, hf1, hf2, hf3, hf4, hf5, hf6, hf7, hf8⟩ := sq_frozen9 ht
  have HT := Aside0.mk ht
  have iw := add_num hn hkl hs.size
  obtain ⟨a1, ha1⟩ : ∃ a1, a1 = s.at_ + 1 := ⟨_, rfl⟩
  rw [← ha1]
  have iw1 : IntKind.i64.wrap ((s.at_ : Int) + 1) = (a1 : Int) := add_num (n := 1) ha1.symm (by rw [ha1]; exact hlt) hs.size
  have iw1b : wrap64 ((s.at_ : Int) + 1) = (a1 : Int) := w64_succ ha1 hs.size (Nat.le_of_lt hlt)
  have ik0 : (0 : Int) ≤ (k : Int) := nn_int
  have ik1 : (a1 : Int) ≤ (k : Int) := le_int (by rw [ha1, ← hn]; exact Nat.add_le_add_left hn1 _)
  have ik2 : (k : Int) ≤ (T.size : Int) := le_int hkl
  have ia0 : (0 : Int) ≤ (a1 : Int) := nn_int
  have HB := Aside0.mk hb
  have HNE := Aside0.mk hne
  have hgt2 := Ne.symm hne
  have HN := Aside0.mk (And.intro hn (And.intro hn1 hkl))
  have HS := Aside0.mk hs.size
  have HE := Aside0.mk (And.intro her hrn)
  clear ha1 hL hR hF hl hf hb ht hs her hrn hn hk hn1
  go_enter Tryd.func80, Tryd.ntmps80
  go_wp2_with fail
  go_quiet (fail)
  go_wp2_with (first | (go_at_call 53; (with_reducible refine (HL.out _).mono ?_); rintro e w2 ⟨rfl, rfl⟩) | (go_at_call 54; (with_reducible refine (HF.out _).mono ?_); rintro e w2 ⟨rfl, rfl⟩) | (go_at_call 104; (with_reducible refine (HR.out _).mono ?_); rintro e w2 ⟨rfl, q3, rfl⟩))
  have hgt1 := HNE.out
  have hS0 : w.cell? ⟨g, 0, none⟩ = some (.string T) ∧ w.cell? ⟨g, 1, none⟩ = some (.int .i64 s.at_) := ⟨hc0, hc1⟩
  go_region_held3 (fun w' => w'.cell? ⟨g, 0, none⟩ = some (.string T) ∧ w'.cell? ⟨g, 1, none⟩ = some (.int .i64 s.at_)) (go_keep) (fail)
  rename_i hHeld
  have hU3 : TBlk ((((w.drewN (q3 + 1)).setCell { block := gt, off := 0 } (.int .i64 1)).setCell { block := gt, off := 3 } (.string (T.extract a1 k))).setCell { block := gt, off := 4 } (.bool true)) gt { t with f0 := 1, f3 := T.extract a1 k, f4 := true } :=
    blk_put (blk_put (blk_put (w := w.drewN (q3 + 1)) HT.out 0 _ rfl) 3 _ rfl) 4 _ rfl
  have hM3 : Mut gt w ((((w.drewN (q3 + 1)).setCell { block := gt, off := 0 } (.int .i64 1)).setCell { block := gt, off := 3 } (.string (T.extract a1 k))).setCell { block := gt, off := 4 } (.bool true)) :=
    ((((Mut.refl gt w).drewN _).put 0 _).put 3 _).put 4 _
  have HU3 := Aside0.mk hU3
  have HM3 := Aside0.mk hM3
  clear hU3 hM3 hS0 hc0 hc1 hz0 hz1 hz2 hz3 hz4 hz5 hz6 hz7 hz8 hf0 hf1 hf2 hf3 hf4 hf5 hf6 hf7 hf8
  generalize ((((w.drewN (q3 + 1)).setCell { block := gt, off := 0 } (.int .i64 1)).setCell { block := gt, off := 3 } (.string (T.extract a1 k))).setCell { block := gt, off := 4 } (.bool true)) = w3 at *
  obtain ⟨hc0, hc1⟩ := hHeld
  have hways := quote_ways HE.out.1 HE.out.2 HN.out.1 HN.out.2.1 HN.out.2.2 HS.out
  obtain ⟨m, -, iw5, iw6, hways⟩ := hways
  rcases hways with ⟨e1, e2, hE, hr⟩ | ⟨e1, e2, hkT, d1, d2, ib, hib, d3, hE, hr⟩ | ⟨e1, e2, hkT, d1, d2, ib, hib, d3, d4, d5, hE, hr⟩ | ⟨e1, e2, hkT, d1, d2, ib, hib, d3, d4, d5, hE, hr⟩ | ⟨e1, e2, d1, d2, d4, d5, hE, hr⟩ | ⟨e1, e2, d1, d2, d4, d5, hE, hr⟩
  case inl =>
    as_aux_lemma =>
      go_wp2_with fail
      go_quiet (fail)
      go_wp2_with fail
      refine bodyPost_ret (results_tmp2 rfl _ _ _) rfl ?_
      subst hE hr
      exact ⟨rfl, HM3.out.drewN _, _, HU3.out, rfl, rfl, fun h => absurd (show (10 : Int) = 0 from h) (by decide)⟩
  case inr.inl =>
    as_aux_lemma =>
      have i1 := lt_int hkT
      have HIB := Aside0.mk (space_index (T[k]'hkT) hib)
      clear hib
      go_wp2_with fail
      go_quiet (first | (exact (HIB.out _).mono fun e w' ⟨h1, h2⟩ => ⟨h1, _, h2⟩))
      go_wp2_with fail
      refine bodyPost_ret (results_tmp2 rfl _ _ _) rfl ?_
      subst hE hr
      exact ⟨rfl, HM3.out.drewN _, _, HU3.out, rfl, rfl, fun h => absurd (show (10 : Int) = 0 from h) (by decide)⟩
  case inr.inr.inl =>
    as_aux_lemma =>
      have i1 := lt_int hkT
      have HIB := Aside0.mk (space_index (T[k]'hkT) hib)
      clear hib
      go_wp2_with fail
      go_quiet (first | (exact (HIB.out _).mono fun e w' ⟨h1, h2⟩ => ⟨h1, _, h2⟩))
      go_wp2_with fail
      refine bodyPost_ret (results_tmp2 rfl _ _ _) rfl ?_
      subst hE hr
      exact ⟨rfl, HM3.out.drewN _, _, HU3.out, rfl, rfl, fun h => absurd (show (3 : Int) = 0 from h) (by decide)⟩
  case inr.inr.inr.inl =>
    as_aux_lemma =>
      have i1 := lt_int hkT
      have HIB := Aside0.mk (space_index (T[k]'hkT) hib)
      clear hib
      go_wp2_with fail
      go_quiet (first | (exact (HIB.out _).mono fun e w' ⟨h1, h2⟩ => ⟨h1, _, h2⟩))
      go_wp2_with fail
      refine bodyPost_ret (results_tmp2 rfl _ _ _) rfl ?_
      subst hE hr
      exact ⟨rfl, HM3.out.drewN _, _, HU3.out, rfl, rfl, fun _ => rfl⟩
  case inr.inr.inr.inr.inl =>
    as_aux_lemma =>
      go_wp2_with fail
      go_quiet (fail)
      go_wp2_with fail
      refine bodyPost_ret (results_tmp2 rfl _ _ _) rfl ?_
      subst hE hr
      exact ⟨rfl, HM3.out.drewN _, _, HU3.out, rfl, rfl, fun h => absurd (show (3 : Int) = 0 from h) (by decide)⟩
  case inr.inr.inr.inr.inr =>
    as_aux_lemma =>
      go_wp2_with fail
      go_quiet (fail)
      go_wp2_with fail
      refine bodyPost_ret (results_tmp2 rfl _ _ _) rfl ?_
      subst hE hr
      exact ⟨rfl, HM3.out.drewN _, _, HU3.out, rfl, rfl, fun _ => rfl⟩
end Go.Proofs.YtlamgdibnnmbmaaDoor.PLex
end
