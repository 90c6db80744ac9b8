/- Part 23 of the proof of LexNamesCardSaid: The law LexNames: for all arguments it returns true; each argument reads behind the call as it read before. Out of the plain theorem of YtlamgdibnnmbmaaDoorPureLexNames and the printed contract. -/
import Derived.Test.YtlamgdibnnmbmaaDoorQLexNames21
import Derived.Deep.RegionHeld3
section
namespace Go.Proofs.YtlamgdibnnmbmaaDoor.PLex
open Go.RowKit Go.Proofs.YtlamgdibnnmbmaaDoorW.PrintWords Go.Proofs.YtlamgdibnnmbmaaDoorW.PrintLast Go.Proofs.YtlamgdibnnmbmaaDoorW.PrintMore
set_option linter.unusedVariables false
set_option linter.unusedSimpArgs false
@[reducible] def SK (g : Nat) (T : ByteArray) (s : Sc) (w1 : World) : World → Prop := fun w' => w'.cell? ⟨g, 0, none⟩ = some (.string T) ∧ w'.cell? ⟨g, 1, none⟩ = some (.int .i64 s.at_) ∧ Below w1.heap.size w1 w'
theorem SK.alloc {g : Nat} {T : ByteArray} {s : Sc} {w1 W : World} (h : SK g T s w1 W) (o : Obj) : SK g T s w1 (W.alloc o) := by
  have hb : Below W.heap.size W (W.alloc o) := below_alloc (Below.refl _ _) o
  exact ⟨(hb.cell (World.block_lt_of_cell? W _ h.1)).trans h.1, (hb.cell (World.block_lt_of_cell? W _ h.2.1)).trans h.2.1, below_alloc h.2.2 o⟩
theorem SK.below {g : Nat} {T : ByteArray} {s : Sc} {w1 W W' : World} (h : SK g T s w1 W) (hb : Below W.heap.size W W') : SK g T s w1 W' :=
  ⟨(hb.cell (World.block_lt_of_cell? W _ h.1)).trans h.1, (hb.cell (World.block_lt_of_cell? W _ h.2.1)).trans h.2.1, ⟨hb.os.trans h.2.2.os, hb.tape.trans h.2.2.tape, hb.output.trans h.2.2.output, Nat.le_trans h.2.2.size hb.size, fun k hk => (hb.block k (Nat.lt_of_lt_of_le hk h.2.2.size)).trans (h.2.2.block k hk)⟩⟩
theorem SK.set {g : Nat} {T : ByteArray} {s : Sc} {w1 W : World} (h : SK g T s w1 W) (hg : g < w1.heap.size) {b i : Nat} (hb : w1.heap.size ≤ b) (v : Value) : SK g T s w1 (W.setCell ⟨b, i, none⟩ v) := by
  have hx := Below.heap_setCell W ⟨b, i, none⟩ v
  have hk : ∀ k, k < w1.heap.size → (W.setCell ⟨b, i, none⟩ v).heap[k]? = W.heap[k]? := fun k hk => hx k (by show k ≠ b; omega)
  refine ⟨?_, ?_, ⟨h.2.2.os, h.2.2.tape, h.2.2.output, by simpa [World.setCell] using h.2.2.size, fun k hkk => (hk k hkk).trans (h.2.2.block k hkk)⟩⟩
  · rw [← h.1]; simp only [World.cell?, hk g hg]
  · rw [← h.2.1]; simp only [World.cell?, hk g hg]
theorem box3 {W w2 : World} {a b c : Value} {ty : TypeId} (hB : Below (W.alloc (.cells #[a, b, c] ty)).heap.size (W.alloc (.cells #[a, b, c] ty)) w2) : w2.heap[W.heap.size]? = some (.cells #[a, b, c] ty (0, 0)) :=
  blk_below (heap_alloc_new W _) hB
theorem sub_small {T : ByteArray} {a b : Nat} (h : T.size ≤ 1000000) (hb : (b : Int) ≤ (T.size : Int)) : (T.extract a b).size < 4294967281 := by rw [ByteArray.size_extract]; omega
theorem add_num {a n k S : Nat} (h : a + n = k) (hk : k ≤ S) (hS : S ≤ 1000000) : IntKind.i64.wrap ((a : Int) + (n : Int)) = (k : Int) := by rw [wI (by omega) (by omega)]; omega
theorem add_one_num {a n k S : Nat} (h : a + n = k) (hk : k ≤ S) (hS : S ≤ 1000000) : wrap64 ((n : Int) + 1) = (n : Int) + 1 := w64' (by omega) (by omega)
theorem le_int {k S : Nat} (h : k ≤ S) : (k : Int) ≤ (S : Int) := by omega
theorem nn_int {k : Nat} : (0 : Int) ≤ (k : Int) := by omega
set_option maxHeartbeats 2000000 in
set_option maxRecDepth 100000 in
theorem number_quote (T : ByteArray) (R : ByteArray → Int × Int × Int × Int)
    (g gt : Nat) (s : Sc) (t : S63) (w : World) (m : Int) (hg : 0 < g) (hgt : 0 < gt) (hm : w.cell? ⟨0, 0, none⟩ = some (.int .i64 m)) (hs : s.Ok T) (hlt : s.at_ < T.size) (hb : Blk w g T s) (ht : TBlk w gt t) (hne : g ≠ gt) (n k n2 k2 : Nat) (hk : k = runTo T figureP s.at_) (hn : s.at_ + n = k) (hkl : k < T.size) (hq : T[k]'hkl = 39) (hk2 : k2 = runTo T wordP (k + 1)) (hn2 : s.at_ + n2 = k2) (hk2l : k2 ≤ T.size)
    (hR : ∀ (u : ByteArray) (W : World), u = T.extract s.at_ k2 → Calls Tryd.prog 130 #[.string u] W fun e w' => e = .returned (.tuple #[.agg #[.int .i64 (R u).1, .int .u64 (R u).2.1, .int .u64 (R u).2.2.1], .int .i64 (R u).2.2.2]) ∧ Below W.heap.size W w') :
    Calls Tryd.prog 107 #[.pointer (some ⟨g, 0, none⟩), .pointer (some ⟨gt, 0, none⟩)] w (Left gt t { t with f0 := 3, f5 := ⟨(R (T.extract s.at_ k2)).1, (R (T.extract s.at_ k2)).2.1, (R (T.extract s.at_ k2)).2.2.1⟩, f6 := Lib.contains (T.extract s.at_ k2).data.toList [39, 115] } n2 (R (T.extract s.at_ k2)).2.2.2 w) := by
  have mixed : Tryd.prog.follows .mixedOrders = true := by kernel_rfl
  have hw1 : Blk (w.setCell ⟨gt, 0, none⟩ (.int .i64 3)) g T s := (Below.heap_setCell _ _ _ _ hne).trans hb
  have hrun1 : Calls Tryd.prog 104 #[.pointer (some ⟨g, 0, none⟩), .int .i64 0, .func (.func 54) #[] #[]] (w.setCell ⟨gt, 0, none⟩ (.int .i64 3)) fun e w' => e = .returned (.int .i64 (n : Int)) ∧ ∃ k, w' = (w.setCell ⟨gt, 0, none⟩ (.int .i64 3)).drewN k := by
    refine (run_walk T figureP 54 Tryd.f54 Tryd.func54 (by kernel_rfl) rfl figure_walk g 0 s _ hs (by have := hs.size; have := hs.at_; omega) hw1).mono fun e w' ⟨h1, k, h2⟩ => ⟨?_, k, h2⟩
    rw [h1, Nat.add_zero, ← hk, ← hn, Nat.add_sub_cancel_left]
  have hrun2 : ∀ q, Calls Tryd.prog 104 #[.pointer (some ⟨g, 0, none⟩), .int .i64 ((n : Int) + 1), .func (.func 129) #[] #[]] ((w.setCell ⟨gt, 0, none⟩ (.int .i64 3)).drewN q) fun e w' => e = .returned (.int .i64 (n2 : Int)) ∧ ∃ k, w' = (w.setCell ⟨gt, 0, none⟩ (.int .i64 3)).drewN k := by
    intro q
    have hr := run_walk T wordP 129 Tryd.f129 Tryd.func129 (by kernel_rfl) rfl word_walk' g (n + 1) s ((w.setCell ⟨gt, 0, none⟩ (.int .i64 3)).drewN q) hs (by have := hs.size; have := hs.at_; omega) hw1
    rw [show ((n + 1 : Nat) : Int) = (n : Int) + 1 by omega] at hr
    refine hr.mono fun e w' ⟨h1, j, h2⟩ => ⟨?_, q + j, by rw [h2, World.drewN_drewN]⟩
    rw [h1, show s.at_ + (n + 1) = k + 1 by omega, ← hk2, ← hn2, Nat.add_sub_cancel_left]
  have HR := Aside0.mk hR
  have R1 := Aside0.mk hrun1
  have R2 := Aside0.mk hrun2
  obtain ⟨hz0, hz1, hz2, hz3, hz4, hz5, hz6, hz7, hz8⟩ := sq_cells9 ht
  obtain ⟨hf0, hf1, hf2, hf3, hf4, hf5, hf6, hf7, hf8⟩ := sq_frozen9 ht
  have hT : TBlk (w.setCell ⟨gt, 0, none⟩ (.int .i64 3)) gt { t with f0 := 3 } := blk_put ht 0 _ rfl
  have HT := Aside0.mk hT
  clear hT
  have HM := Aside0.mk hm
  have hkT : (k : Int) < (T.size : Int) := lt_int hkl
  have hk0 : (0 : Int) ≤ (k : Int) := nn_int
  have hk20 : (0 : Int) ≤ (k2 : Int) := nn_int
  have hkd : decide ((k : Int) < (T.size : Int)) = true := decide_eq_true hkT
  have iw := add_num hn (Nat.le_of_lt hkl) hs.size
  have iw2 := add_num hn2 hk2l hs.size
  have iw3 := add_one_num hn (Nat.le_of_lt hkl) hs.size
  have hq2 : (((T[k]'hkl).toNat : Int)) = 39 := by rw [hq]; rfl
  have ha1 : (s.at_ : Int) ≤ (k2 : Int) := le_int (by rw [← hn2]; exact Nat.le_add_right _ _)
  have ha2 : (k2 : Int) ≤ (T.size : Int) := le_int hk2l
  have ha0 : (0 : Int) ≤ (s.at_ : Int) := nn_int
  have HW := Aside0.mk hw1
  have HNE := Aside0.mk hne
  have HMW := Aside0.mk ((Mut.refl gt w).put 0 (.int .i64 3))
  obtain ⟨cb, hcb⟩ : ∃ cb : Bool, cb = Lib.contains (T.extract s.at_ k2).data.toList [39, 115] := ⟨_, rfl⟩
  rw [← hcb]
  have HCB := Aside0.mk hcb
  clear hcb
  have HGT := Aside0.mk (blk_lt HT.out)
  have hm0 : 0 < (w.setCell ⟨gt, 0, none⟩ (.int .i64 3)).heap.size ∧ (w.setCell ⟨gt, 0, none⟩ (.int .i64 3)).cell? ⟨0, 0, none⟩ = some (.int .i64 m) := by
    have h2 : (w.setCell ⟨gt, 0, none⟩ (.int .i64 3)).cell? ⟨0, 0, none⟩ = some (.int .i64 m) := Mut.cell0 ((Mut.refl gt w).put 0 _) hgt hm
    exact ⟨World.block_lt_of_cell? _ _ h2, h2⟩
  have HM0 := Aside0.mk hm0
  have k1 := hs.size
  clear hm0
  clear hR hrun1 hrun2 ht hm hk hn hk2 hn2 hs hb hne hq
  go_enter Tryd.func107, Tryd.ntmps107
  have hW1 := HW.out
  have HT3 := HT.out
  go_wp2_with (first | (go_at_call 104; (with_reducible refine R1.out.mono ?_); rintro e w2 ⟨rfl, q2, rfl⟩))
  clear hz0 hz1 hz2 hz3 hz4 hz5 hz6 hz7 hz8 hf0 hf1 hf2 hf3 hf4 hf5 hf6 hf7 hf8
  generalize w.setCell ⟨gt, 0, none⟩ (.int .i64 3) = w1 at *
  have hc0 : w1.cell? ⟨g, 0, none⟩ = some (.string T) := (blk_cell hW1 0).trans rfl
  have hc1 : w1.cell? ⟨g, 1, none⟩ = some (.int .i64 s.at_) := (blk_cell hW1 1).trans rfl
  clear hW1 HT3
  go_quiet (fail)
  go_wp2_with (first | (go_at_call 104; (with_reducible refine (R2.out _).mono ?_); rintro e w2 ⟨rfl, q3, rfl⟩))
  have hS0 : SK g T s w1 (w1.drewN q3).drew := ⟨hc0, hc1, below_drew1 (pw_below_drewN (Below.refl _ _) _)⟩
  clear hc0 hc1
  have HGW := Aside0.mk (blk_lt HW.out)
  go_region_held3 (fun w' => w'.cell? ⟨g, 0, none⟩ = some (.string T) ∧ w'.cell? ⟨g, 1, none⟩ = some (.int .i64 s.at_) ∧ Below w1.heap.size w1 w') (first | exact hS0 | exact SK.alloc hS0 _ | exact SK.below hS0 (by assumption) | exact SK.alloc (SK.below hS0 (by assumption)) _ | exact SK.below (SK.alloc hS0 _) (by assumption) | (repeat refine SK.set ?_ HGW.out (by exact hS0.2.2.size) _); exact SK.below (SK.alloc hS0 _) (by assumption)) (first | (go_at_call 130; refine (HR.out _ _ rfl).mono ?_; rintro e w2 ⟨rfl, hB2⟩; (try (have hbx : w2.heap[w1.heap.size]? = some (.cells #[.int .i64 0, .int .u64 0, .int .u64 0] 61 (0, 0)) := (by have h := box3 hB2; exact h); obtain ⟨y0, y1, y2⟩ := sq_cells3 hbx; obtain ⟨z0, z1, z2⟩ := sq_frozen3 hbx; have HBX := Aside0.mk hbx; clear hbx))))
  · have hbox : (w2.alloc (.cells #[.int .i64 (R (T.extract s.at_ k2)).1, .int .u64 (R (T.extract s.at_ k2)).2.1, .int .u64 (R (T.extract s.at_ k2)).2.2.1] 61)).heap[w2.heap.size]? = some (.cells #[.int .i64 (R (T.extract s.at_ k2)).1, .int .u64 (R (T.extract s.at_ k2)).2.1, .int .u64 (R (T.extract s.at_ k2)).2.2.1] 61 (0, 0)) := heap_alloc_new _ _
    have hS := SK.alloc (SK.below hS0 hB2) (.cells #[.int .i64 (R (T.extract s.at_ k2)).1, .int .u64 (R (T.extract s.at_ k2)).2.1, .int .u64 (R (T.extract s.at_ k2)).2.2.1] 61)
    have hge : w1.heap.size ≤ w2.heap.size := hB2.size
    generalize (w2.alloc (.cells #[.int .i64 (R (T.extract s.at_ k2)).1, .int .u64 (R (T.extract s.at_ k2)).2.1, .int .u64 (R (T.extract s.at_ k2)).2.2.1] 61)) = W at *
    generalize w2.heap.size = gb at *
    have hT7 : TBlk W gt { t with f0 := 3 } := (hS.2.2.block gt HGT.out).trans HT.out
    have hm7 : W.cell? ⟨0, 0, none⟩ = some (.int .i64 m) := (hS.2.2.cell HM0.out.1).trans HM0.out.2
    have hgt1 := HNE.out
    have hgt2 := HNE.out.symm
    have hgb1 : g ≠ gb := fun e => by have := HGW.out; omega
    have hgb2 : gt ≠ gb := fun e => by have := HGT.out; omega
    have HS := Aside0.mk hS
    have HBX7 := Aside0.mk hbox
    have HT7 := Aside0.mk hT7
    have hc7 : ∀ W' : World, W'.cell? ⟨0, 0, none⟩ = some (.int .i64 m) → Calls Tryd.prog 131 #[.string (T.extract s.at_ k2), .string ⟨#[39, 115]⟩] W' fun e w' => e = .returned (.bool cb) ∧ w' = W' :=
      fun W' h => by rw [HCB.out]; exact Tryd.strings_Contains (T.extract s.at_ k2) ⟨#[39, 115]⟩ m W' (sub_small k1 ha2) h
    have HC7 := Aside0.mk hc7
    have HM7 := Aside0.mk hm7
    generalize R (T.extract s.at_ k2) = r at *
    obtain ⟨x0, x1, x2⟩ := sq_cells3 hbox
    obtain ⟨hz0, hz1, hz2, hz3, hz4, hz5, hz6, hz7, hz8⟩ := sq_cells9 hT7
    obtain ⟨hf0, hf1, hf2, hf3, hf4, hf5, hf6, hf7, hf8⟩ := sq_frozen9 hT7
    have y0 := hS.1
    have y1 := hS.2.1
    clear hS hbox hT7 hm7 hc7 hS0 hge
    go_wp2_with fail
    go_region_held3 (fun w' => w'.cell? ⟨g, 0, none⟩ = some (.string T) ∧ w'.cell? ⟨g, 1, none⟩ = some (.int .i64 s.at_) ∧ w'.cell? ⟨gb, 0, none⟩ = some (.int .i64 r.1) ∧ w'.cell? ⟨gb, 1, none⟩ = some (.int .u64 r.2.1) ∧ w'.cell? ⟨gb, 2, none⟩ = some (.int .u64 r.2.2.1)) (go_keep) (first | (go_at_call 131; refine (HC7.out W.drew HM7.out).mono ?_; rintro e w3 ⟨rfl, rfl⟩))
    go_wp2
    refine bodyPost_ret (results_tmp2 rfl _ _ _) rfl ?_
    exact ⟨rfl, ((((((HMW.out.below HS.out.2.2).put 5 _).put 6 _).put 7 _).put 8 _).drew), { t with f0 := 3, f5 := ⟨r.1, r.2.1, r.2.2.1⟩, f6 := cb }, blk_put (blk_put (blk_put (blk_put HT7.out 5 _ rfl) 6 _ rfl) 7 _ rfl) 8 _ rfl, rfl, rfl, fun _ => rfl⟩
  · have hbox := blk_put (blk_put (blk_put HBX.out 0 (.int .i64 (R (T.extract s.at_ k2)).1) rfl) 1 (.int .u64 (R (T.extract s.at_ k2)).2.1) rfl) 2 (.int .u64 (R (T.extract s.at_ k2)).2.2.1) rfl
    have hS := SK.set (SK.set (SK.set (SK.below (SK.alloc hS0 _) hB2) HGW.out (b := w1.heap.size) (i := 0) (Nat.le_refl _) (.int .i64 (R (T.extract s.at_ k2)).1)) HGW.out (b := w1.heap.size) (i := 1) (Nat.le_refl _) (.int .u64 (R (T.extract s.at_ k2)).2.1)) HGW.out (b := w1.heap.size) (i := 2) (Nat.le_refl _) (.int .u64 (R (T.extract s.at_ k2)).2.2.1)
    have hge : w1.heap.size ≤ w1.heap.size := Nat.le_refl _
    have hbox' : (((w2.setCell ⟨w1.heap.size, 0, none⟩ (.int .i64 (R (T.extract s.at_ k2)).1)).setCell ⟨w1.heap.size, 1, none⟩ (.int .u64 (R (T.extract s.at_ k2)).2.1)).setCell ⟨w1.heap.size, 2, none⟩ (.int .u64 (R (T.extract s.at_ k2)).2.2.1)).heap[w1.heap.size]? = some (.cells #[.int .i64 (R (T.extract s.at_ k2)).1, .int .u64 (R (T.extract s.at_ k2)).2.1, .int .u64 (R (T.extract s.at_ k2)).2.2.1] 61 (0, 0)) := hbox
    clear hbox
    have hbox := hbox'
    clear hbox'
    generalize (((w2.setCell ⟨w1.heap.size, 0, none⟩ (.int .i64 (R (T.extract s.at_ k2)).1)).setCell ⟨w1.heap.size, 1, none⟩ (.int .u64 (R (T.extract s.at_ k2)).2.1)).setCell ⟨w1.heap.size, 2, none⟩ (.int .u64 (R (T.extract s.at_ k2)).2.2.1)) = W at *
    obtain ⟨gb, hgb⟩ : ∃ gb, gb = w1.heap.size := ⟨_, rfl⟩
    rw [← hgb] at hbox ⊢
    replace hge : w1.heap.size ≤ gb := Nat.le_of_eq hgb.symm
    clear hgb
    have hT7 : TBlk W gt { t with f0 := 3 } := (hS.2.2.block gt HGT.out).trans HT.out
    have hm7 : W.cell? ⟨0, 0, none⟩ = some (.int .i64 m) := (hS.2.2.cell HM0.out.1).trans HM0.out.2
    have hgt1 := HNE.out
    have hgt2 := HNE.out.symm
    have hgb1 : g ≠ gb := fun e => by have := HGW.out; omega
    have hgb2 : gt ≠ gb := fun e => by have := HGT.out; omega
    have HS := Aside0.mk hS
    have HBX7 := Aside0.mk hbox
    have HT7 := Aside0.mk hT7
    have hc7 : ∀ W' : World, W'.cell? ⟨0, 0, none⟩ = some (.int .i64 m) → Calls Tryd.prog 131 #[.string (T.extract s.at_ k2), .string ⟨#[39, 115]⟩] W' fun e w' => e = .returned (.bool cb) ∧ w' = W' :=
      fun W' h => by rw [HCB.out]; exact Tryd.strings_Contains (T.extract s.at_ k2) ⟨#[39, 115]⟩ m W' (sub_small k1 ha2) h
    have HC7 := Aside0.mk hc7
    have HM7 := Aside0.mk hm7
    generalize R (T.extract s.at_ k2) = r at *
    obtain ⟨x0, x1, x2⟩ := sq_cells3 hbox
    obtain ⟨hz0, hz1, hz2, hz3, hz4, hz5, hz6, hz7, hz8⟩ := sq_cells9 hT7
    obtain ⟨hf0, hf1, hf2, hf3, hf4, hf5, hf6, hf7, hf8⟩ := sq_frozen9 hT7
    have y0 := hS.1
    have y1 := hS.2.1
    clear hS hbox hT7 hm7 hc7 hS0 hge
    go_wp2_with fail
    go_region_held3 (fun w' => w'.cell? ⟨g, 0, none⟩ = some (.string T) ∧ w'.cell? ⟨g, 1, none⟩ = some (.int .i64 s.at_) ∧ w'.cell? ⟨gb, 0, none⟩ = some (.int .i64 r.1) ∧ w'.cell? ⟨gb, 1, none⟩ = some (.int .u64 r.2.1) ∧ w'.cell? ⟨gb, 2, none⟩ = some (.int .u64 r.2.2.1)) (go_keep) (first | (go_at_call 131; refine (HC7.out W.drew HM7.out).mono ?_; rintro e w3 ⟨rfl, rfl⟩))
    go_wp2
    refine bodyPost_ret (results_tmp2 rfl _ _ _) rfl ?_
    exact ⟨rfl, ((((((HMW.out.below HS.out.2.2).put 5 _).put 6 _).put 7 _).put 8 _).drew), { t with f0 := 3, f5 := ⟨r.1, r.2.1, r.2.2.1⟩, f6 := cb }, blk_put (blk_put (blk_put (blk_put HT7.out 5 _ rfl) 6 _ rfl) 7 _ rfl) 8 _ rfl, rfl, rfl, fun _ => rfl⟩
end Go.Proofs.YtlamgdibnnmbmaaDoor.PLex
end
