/- Part 28 of the proof of NoteReadsCardSaid: The law NoteReads: for all arguments it returns true; each argument reads behind the call as it read before. Out of the plain theorem of YtlamgdibnnmbmaaDoorPureNoteReads and the printed contract. -/
import Derived.Test.YtlamgdibnnmbmaaDoorQNoteReads26
section
namespace Go.Proofs.YtlamgdibnnmbmaaDoor.PRead
open Go.RowKit Go.Proofs.YtlamgdibnnmbmaaDoorW.PrintWords Go.Proofs.YtlamgdibnnmbmaaDoorW.PrintLast Go.Proofs.YtlamgdibnnmbmaaDoorW.PrintMore
set_option linter.unusedVariables false
set_option linter.unusedSimpArgs false
set_option linter.unusedSectionVars false
theorem size_ofL (l : List UInt8) : (ofL l).size = l.length := rfl
abbrev Res := ByteArray × Int × Int × Int × ByteArray × Int
def synE : Res := (⟨#[]⟩, 0, 0, 0, ⟨#[]⟩, 10)
def fin (f : ByteArray) (v w e : Int) (t : ByteArray) : Res := if chkV f v w e t = 0 then (f, v, w, e, t, 0) else (⟨#[]⟩, 0, 0, 0, ⟨#[]⟩, chkV f v w e t)
def nl (e : Nat) : List UInt8 := (nm (e : Int)).data.toList
def codeOf (N : List UInt8) : Option Nat := (List.range 23).find? fun i => decide (1 ≤ i) && nl i == N
theorem nl_inj : ∀ i j : Fin 23, 1 ≤ i.1 → 1 ≤ j.1 → nl i.1 = nl j.1 → i = j := by decide +kernel
theorem codeOf_some {N : List UInt8} {c : Nat} (h : codeOf N = some c) : 1 ≤ c ∧ c ≤ 22 ∧ nl c = N ∧ ∀ e, 1 ≤ e → e ≤ 22 → nl e = N → e = c := by
  have h1 := List.find?_some h
  have h2 := List.mem_of_find?_eq_some h
  rw [List.mem_range] at h2
  rw [Bool.and_eq_true, decide_eq_true_iff, beq_iff_eq] at h1
  refine ⟨h1.1, by omega, h1.2, fun e a b q => ?_⟩
  have := nl_inj ⟨e, by omega⟩ ⟨c, h2⟩ a h1.1 (q.trans h1.2.symm)
  exact congrArg Fin.val this
theorem codeOf_none {N : List UInt8} (h : codeOf N = none) : ∀ e, 1 ≤ e → e ≤ 22 → nl e ≠ N := by
  intro e a b q
  have := List.find?_eq_none.1 h e (List.mem_range.2 (by omega))
  rw [Bool.and_eq_true, decide_eq_true_iff, beq_iff_eq] at this
  exact this ⟨a, q⟩
def nameV (A : ByteArray) (v w : Int) (N T : List UInt8) : Res := match codeOf N with | some c => fin A v w (c : Int) (ofL T) | none => synE
def tailV (A : ByteArray) (v w : Int) : List UInt8 → Res
  | [] => synE
  | c :: m => if c = 32 then match (cutC 32 m).2 with | none => nameV A v w (cutC 32 m).1 [] | some [] => synE | some (x :: y) => nameV A v w (cutC 32 m).1 (x :: y) else synE
theorem tl_iff {a b : ByteArray} : a.toList = b.toList ↔ a.data.toList = b.data.toList := by rw [ByteArray.toList_eq, ByteArray.toList_eq]
theorem fault_fin (A : ByteArray) (v w e : Int) (T : ByteArray) (hA : A.size ≤ 140737488351232) (hT : T.size ≤ 140737488351232) :
    Ev (fun k => (maskref1_NoteFault.f k A v w e T).bind fun t146 => (if t146 = 0 then (some (A, v, w, e, T, 0)) else (some ((⟨#[]⟩ : ByteArray), 0, 0, 0, (⟨#[]⟩ : ByteArray), t146)))) (fin A v w e T) := by
  refine Ev.bind (Fault_ev A hA v w e T hT) ?_
  unfold fin
  by_cases h : chkV A v w e T = 0
  · exact Ev.pos h ((Ev.now _).eq (if_pos h).symm)
  · exact Ev.neg h ((Ev.now _).eq (if_neg h).symm)
section
variable (x11 : ByteArray) (q : Nat) (hq : q ≤ x11.size) (hx : x11.size ≤ 2000) (A : ByteArray) (v w : Int) (T : ByteArray) (hA : A.size ≤ 140737488351232) (hT : T.size ≤ 140737488351232) (N : List UInt8) (hN : x11.data.toList.take q = N)
include hq hx hN
theorem l2_step (c0 : Int) (e : Nat) (he : 1 ≤ e ∧ e ≤ 22) {R : Res} (h : Ev (fun k => maskref1_NoteRead.l2 k x11 (q : Int) ((e + 1 : Nat) : Int) A v w (if nl e = N then (e : Int) else c0) T) R) : Ev (fun k => maskref1_NoteRead.l2 k x11 (q : Int) (e : Int) A v w c0 T) R := by
  refine Ev.step (fun k => by rw [maskref1_NoteRead.l2]) (Ev.pos (by omega) (Ev.bind (Word_is (e : Int)) ?_))
  refine Ev.pos (by omega) (Ev.pos (by omega) ?_)
  have hex : (x11.extract 0 ((q : Int)).toNat).data.toList = N := by rw [extract_list, Int.toNat_natCast, List.drop_zero, hN]
  rw [w64 (n := (e : Int) + 1) (by omega)]
  by_cases h1 : nl e = N
  · rw [if_pos h1] at h
    exact Ev.pos (by rw [tl_iff, hex]; exact h1) h
  · rw [if_neg h1] at h
    exact Ev.neg (by rw [tl_iff, hex]; exact h1) h
include hA hT
theorem l2_end (c0 : Int) : Ev (fun k => maskref1_NoteRead.l2 k x11 (q : Int) ((23 : Nat) : Int) A v w c0 T) (if c0 = 0 then synE else fin A v w c0 T) := by
  refine Ev.step (fun k => by rw [maskref1_NoteRead.l2]) ?_
  refine Ev.neg (by omega) ?_
  by_cases h : c0 = 0
  · rw [if_pos h]
    exact Ev.pos h (Ev.now _)
  · rw [if_neg h]
    exact Ev.neg h (fault_fin A v w c0 T hA hT)
theorem l2_some {c : Nat} (hc : codeOf N = some c) : ∀ (n e : Nat), e + n = 23 → 1 ≤ e → Ev (fun k => maskref1_NoteRead.l2 k x11 (q : Int) (e : Int) A v w (if c < e then (c : Int) else 0) T) (fin A v w (c : Int) T) := by
  obtain ⟨h1, h2, h3, h4⟩ := codeOf_some hc
  intro n
  induction n with
  | zero =>
    intro e he he1
    obtain rfl : e = 23 := by omega
    rw [if_pos (by omega)]
    refine (l2_end x11 q hq hx A v w T hA hT N hN (c : Int)).eq ?_
    rw [if_neg (by omega)]
  | succ n ih =>
    intro e he he1
    refine l2_step x11 q hq hx A v w T N hN _ e (by omega) ((ih (e + 1) (by omega) (by omega)).congr fun k => ?_)
    congr 1
    by_cases h5 : nl e = N
    · have := h4 e he1 (by omega) h5
      subst this
      rw [if_pos h5, if_pos (by omega)]
    · rw [if_neg h5]
      have : e ≠ c := fun q => h5 (by rw [q]; exact h3)
      by_cases h6 : c < e
      · rw [if_pos h6, if_pos (by omega)]
      · rw [if_neg h6, if_neg (by omega)]
theorem l2_none (hc : codeOf N = none) : ∀ (n e : Nat), e + n = 23 → 1 ≤ e → Ev (fun k => maskref1_NoteRead.l2 k x11 (q : Int) (e : Int) A v w 0 T) synE := by
  have h4 := codeOf_none hc
  intro n
  induction n with
  | zero =>
    intro e he he1
    obtain rfl : e = 23 := by omega
    refine (l2_end x11 q hq hx A v w T hA hT N hN 0).eq ?_
    rw [if_pos rfl]
  | succ n ih =>
    intro e he he1
    refine l2_step x11 q hq hx A v w T N hN _ e (by omega) ((ih (e + 1) (by omega) (by omega)).congr fun k => ?_)
    rw [if_neg (h4 e he1 (by omega))]
theorem j5_ev {T' : List UInt8} (hT' : T = ofL T') : Ev (fun k => maskref1_NoteRead.j5 k x11 (q : Int) A v w 0 T) (nameV A v w N T') := by
  refine Ev.step (fun k => by rw [maskref1_NoteRead.j5]) ?_
  unfold nameV
  cases hc : codeOf N with
  | none => exact l2_none x11 q hq hx A v w T hA hT N hN hc 22 1 rfl (Nat.le_refl _)
  | some c =>
    have h := l2_some x11 q hq hx A v w T hA hT N hN hc 22 1 rfl (Nat.le_refl _)
    rw [if_neg (by have := (codeOf_some hc).1; omega)] at h
    subst hT'
    exact h
end
section
variable (m : List UInt8) (hm : m.length ≤ 1000) (A : ByteArray) (v w : Int) (hA : A.size ≤ 140737488351232)
include hm
theorem l1_ev {R : Res} : ∀ (r : List UInt8) (i : Nat), m.drop i = r → i ≤ m.length → Ev (fun k => maskref1_NoteRead.j4 k (ofL m) ((i + (cutC 32 r).1.length : Nat) : Int) A v w 0 ⟨#[]⟩) R → Ev (fun k => maskref1_NoteRead.l1 k (ofL m) (i : Int) A v w 0 ⟨#[]⟩) R := by
  have hz : (ofL m).size = m.length := rfl
  intro r
  induction r with
  | nil =>
    intro i hr hi h
    have := bt_none (ofL m) i hr
    refine Ev.step (fun k => by rw [maskref1_NoteRead.l1]) (Ev.neg (by omega) ?_)
    exact h
  | cons c r ih =>
    intro i hr hi h
    obtain ⟨hlt, hc, hr'⟩ := bt_drop (ofL m) i hr
    refine Ev.step (fun k => by rw [maskref1_NoteRead.l1]) (Ev.pos (by omega) (Ev.pos (by omega) ?_))
    rw [hc]
    unfold cutC at h
    by_cases h1 : c = 32
    · subst h1
      rw [if_pos rfl] at h
      exact Ev.pos rfl h
    · rw [if_neg h1] at h
      refine Ev.neg (fun e => h1 ((u8_lit c 32).1 e)) ?_
      rw [w64 (n := (i : Int) + 1) (by omega)]
      refine ih (i + 1) hr' (by omega) ?_
      rw [show i + 1 + (cutC 32 r).1.length = i + ((cutC 32 r).1.length + 1) by omega]
      exact h
include hA
theorem rest_ev : Ev (fun k => maskref1_NoteRead.l1 k (ofL m) 0 A v w 0 ⟨#[]⟩) (tailV A v w (32 :: m)) := by
  have hz : (ofL m).size = m.length := rfl
  refine l1_ev m hm A v w m 0 rfl (Nat.zero_le _) ?_
  rw [Nat.zero_add]
  have hle := cutC_len 32 m
  rw [tailV, if_pos rfl]
  refine Ev.step (fun k => by rw [maskref1_NoteRead.j4]) ?_
  cases h : (cutC 32 m).2 with
  | none =>
    have e := cutC_none 32 h
    refine Ev.neg (by rw [e]; omega) ?_
    refine (j5_ev (ofL m) (cutC 32 m).1.length (by omega) (by omega) A v w ⟨#[]⟩ hA (by decide) (cutC 32 m).1 (by rw [e]; exact List.take_length) (T' := []) rfl)
  | some b =>
    have e := cutC_some 32 h
    have hl : m.length = (cutC 32 m).1.length + (b.length + 1) := by
      have := congrArg List.length e
      rw [List.length_append, List.length_cons] at this; exact this
    refine Ev.pos (by omega) ?_
    rw [w64 (n := ((cutC 32 m).1.length : Int) + 1) (by omega)]
    have hb : ((ofL m).extract ((((cutC 32 m).1.length : Int) + 1)).toNat (ofL m).size) = ofL b := by
      refine ba_ext ?_
      rw [extract_list, show ((((cutC 32 m).1.length : Int) + 1)).toNat = (cutC 32 m).1.length + 1 by omega]
      show (m.take m.length).drop _ = _
      rw [List.take_length]
      generalize (cutC 32 m).1 = a at e
      subst e
      rw [show a ++ 32 :: b = (a ++ [32]) ++ b by simp]
      exact List.drop_left' (by simp)
    refine Ev.pos (by omega) (Ev.pos (by omega) ?_)
    rw [hb]
    cases b with
    | nil => exact Ev.pos (by rw [ByteArray.toList_eq]; rfl) (Ev.now _)
    | cons x y =>
      refine Ev.neg (by rw [ByteArray.toList_eq]; exact List.cons_ne_nil _ _) ?_
      refine (j5_ev (ofL m) (cutC 32 m).1.length (by omega) (by omega) A v w (ofL (x :: y)) hA (by rw [size_ofL]; omega) (cutC 32 m).1 ?_ (T' := x :: y) rfl)
      show m.take _ = _
      generalize (cutC 32 m).1 = a at e
      subst e
      exact List.take_left' rfl
end
end Go.Proofs.YtlamgdibnnmbmaaDoor.PRead
end
