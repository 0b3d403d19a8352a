/- For every string the law FnExactParseAggregator of the given program returns true and leaves its argument as it was; no condition. -/
import Derived.Test.YtphkghnppcfdpaaPaf1
namespace Go.Proofs.Ytphkghnppcfdpaa.P
open Go.RowKit Go.Proofs.YtphkghnppcfdpaaW.PrintWords Go.Proofs.YtphkghnppcfdpaaW.PrintLast Go.Proofs.YtphkghnppcfdpaaW.PrintMore
attribute [local go_sem] max2_int min2_int max_two min_two max_three min_three max_four min_four   -- for this text's walks alone
set_option linter.unusedVariables false
set_option linter.unusedSimpArgs false

/-! ### laws_eqGroupTaskS: function 89 -/
def laws_eqGroupTaskS.l0 : Nat → List (S79) → List (S79) → Int → Option (Bool)
 | 0, _, _, _ => none
 | k + 1, x0, x1, x5 => if x5 < (x0.length : Int) then (if 0 ≤ x5 then (if x5 < (x1.length : Int) then ((laws_eqGroupTask.f k ((rd_T79 x0 x5).f0) ((rd_T79 x0 x5).f1) ((rd_T79 x1 x5).f0) ((rd_T79 x1 x5).f1)).bind fun t318 => (if t318 = true then (laws_eqGroupTaskS.l0 k x0 x1 (wrap64 (x5 + 1))) else (some false))) else (none)) else (none)) else (some true)
def laws_eqGroupTaskS.f (k : Nat) (l0 : List (S79)) (l1 : List (S79)) : Option (Bool) := if (l0.length : Int) = (l1.length : Int) then (laws_eqGroupTaskS.l0 k l0 l1 0) else (some false)
theorem laws_eqGroupTaskS.mono_l : ∀ k, (∀ y0 y1 y2, LeO (laws_eqGroupTaskS.l0 k y0 y1 y2) (laws_eqGroupTaskS.l0 (k + 1) y0 y1 y2))
 | 0 => fun _ _ _ r h => by simp [laws_eqGroupTaskS.l0] at h
 | k + 1 => by
  have ih0 := laws_eqGroupTaskS.mono_l k
  ·intro y0 y1 y2
   unfold laws_eqGroupTaskS.l0
   repeat' first
   | (with_reducible exact ih0 _ _ _)
   | (with_reducible exact laws_eqGroupTask.mono _ _ _ _ _)
   | (with_reducible exact LeO.refl _)
   | (with_reducible refine LeO.ite ?_ ?_)
   | (with_reducible refine LeO.bind ?_ (fun _ => ?_))
theorem laws_eqGroupTaskS.mono : ∀ a0 a1 k, LeO (laws_eqGroupTaskS.f k a0 a1) (laws_eqGroupTaskS.f (k + 1) a0 a1) := by
 intro a0 a1 k
 have ih0 := laws_eqGroupTaskS.mono_l k
 unfold laws_eqGroupTaskS.f
 repeat' first
   | (with_reducible exact ih0 _ _ _)
   | (with_reducible exact LeO.refl _)
   | (with_reducible refine LeO.ite ?_ ?_)
def laws_eqGroupTaskS.T6 : Bool × List (List Nat × List Nat) := (true, [([], []), ([], []), ([0, 1], [0, 1]), ([2], [2]), ([], []), ([], []), ([4, 5], [4, 5]), ([6], [6]), ([3, 7], [3, 7]), ([8], [8])])
def laws_eqGroupTaskS.B6 : List Nat := [0, 0, 3, 7, 0, 0, 48, 112, 255, 511]
theorem laws_eqGroupTaskS.tab6 : rtab .any (opsOf Try.f89 6) = laws_eqGroupTaskS.T6 := by kernel_rfl
theorem laws_eqGroupTaskS.bits6 : waitsOk laws_eqGroupTaskS.T6.2 laws_eqGroupTaskS.B6 = true := by kernel_rfl
set_option maxHeartbeats 8000000 in
set_option maxRecDepth 100000 in
theorem laws_eqGroupTaskS.calls (k : Nat) (A0 : Option Addr) (c0 : Nat) (l0 : List (S79)) (A1 : Option Addr) (c1 : Nat) (l1 : List (S79)) (r : Bool) (w : World) (hr0 : Kd.C k79 w A0 l0.length l0) (hc0 : l0.length ≤ c0) (hr1 : Kd.C k79 w A1 l1.length l1) (hc1 : l1.length ≤ c1) (h : laws_eqGroupTaskS.f k l0 l1 = some r) :
  Calls Try.prog 89 #[.slice A0 l0.length c0, .slice A1 l1.length c1] w fun e w' => e = .returned (.bool r) ∧ Below w.heap.size w w' := by
 have hu79 := Try.underlying79
 have HR0 := Aside0.mk hr0
 have HC0 := Aside0.mk hc0
 clear hr0 hc0
 have HR1 := Aside0.mk hr1
 have HC1 := Aside0.mk hc1
 clear hr1 hc1
 have HB := Aside0.mk (Below.refl w.heap.size w)
 have H : (if (l0.length : Int) = (l1.length : Int) then (laws_eqGroupTaskS.l0 k l0 l1 0) else (some false)) = some r := h
 clear h
 by_cases c3 : (l0.length : Int) = (l1.length : Int)
 ·rw [if_pos c3] at H
  have c3b0 : ((l0.length : Int) == (l1.length : Int)) = true := beq_iff_eq.mpr c3
  have c3b1 : ((l0.length : Int) != (l1.length : Int)) = false := bne_eq_false_iff_eq.mpr c3
  have c3b2 : (l0.length == l1.length) = true := by (simp at c3 ⊢; omega)
  clear c3
  have H' := Aside0.mk H
  clear H
  go_enter Try.func89, Try.ntmps89
  go_wp2
  go_loopg [5] k (fun kq v5 w' => ∃ (x5_1 : Int), v5 = .int .i64 x5_1 ∧ Aside0 (laws_eqGroupTaskS.l0 kq l0 l1 x5_1 = some r) ∧ Aside0 (kq ≤ k) ∧ Aside0 (Below w.heap.size w w'))
  case atStart => exact ⟨(0), rfl, H', ⟨Nat.le_refl _⟩, ⟨HB.out⟩⟩
  case round =>
   clear H'
   try clear c3b0
   try clear c3b1
   try clear c3b2
   obtain ⟨x5_1, rfl, HA, HK1, HB⟩ := hrel
   cases gk with
   | zero => exact absurd HA.out (by simp [laws_eqGroupTaskS.l0])
   | succ k1 =>
    have H := HA.out
    clear HA
    simp only [laws_eqGroupTaskS.l0] at H
    by_cases c4 : x5_1 < (l0.length : Int)
    ·rw [if_pos c4] at H
     have c4b0 : decide (x5_1 < (l0.length : Int)) = true := decide_eq_true c4
     clear c4
     by_cases c5 : 0 ≤ x5_1
     ·rw [if_pos c5] at H
      have c5b0 : decide (0 ≤ x5_1) = true := decide_eq_true c5
      clear c5
      by_cases c6 : x5_1 < (l1.length : Int)
      ·rw [if_pos c6] at H
       have c6b0 : decide (x5_1 < (l1.length : Int)) = true := decide_eq_true c6
       clear c6
       replace H := Option.bind_eq_some_iff.mp H
       obtain ⟨t318, A70, H⟩ := H
       have A7 := Aside0.mk A70
       clear A70
       by_cases c8 : t318 = true
       ·subst c8
        rw [if_pos rfl] at H
        have H' := Aside0.mk H
        clear H
        try go_wp2
        have n0_ := Aside0.mk (below_drew1 HB.out)
        clear HB
        have HB := n0_
        clear n0_
        have p316 : 0 ≤ (x5_1 : Int) := of_decide_eq_true (by (with_reducible assumption))
        have q316 : x5_1 < (l0.length : Int) := of_decide_eq_true (by (with_reducible assumption))
        obtain ⟨ad316, A316_0, c316_0, e316, hx316_0, hx316_1, hl316_0, hi316_0⟩ := at_T79 HR0.out x5_1 p316 q316
        have hw316_1 := hx316_1
        have hw316_0 := hx316_0
        cases e316
        replace hx316_0 := (HB.out.cell (World.block_lt_of_cell? w _ hx316_0)).trans hx316_0
        replace hx316_1 := (HB.out.cell (World.block_lt_of_cell? w _ hx316_1)).trans hx316_1
        have HR316_0 := Aside0.mk hi316_0
        have HC316_0 := Aside0.mk hl316_0
        clear hi316_0 hl316_0
        replace p316 := eq_true p316
        replace q316 := eq_true q316
        have p317 : 0 ≤ (x5_1 : Int) := of_decide_eq_true (by (with_reducible assumption))
        have q317 : x5_1 < (l1.length : Int) := of_decide_eq_true (by (with_reducible assumption))
        obtain ⟨ad317, A317_0, c317_0, e317, hx317_0, hx317_1, hl317_0, hi317_0⟩ := at_T79 HR1.out x5_1 p317 q317
        have hw317_1 := hx317_1
        have hw317_0 := hx317_0
        cases e317
        replace hx317_0 := (HB.out.cell (World.block_lt_of_cell? w _ hx317_0)).trans hx317_0
        replace hx317_1 := (HB.out.cell (World.block_lt_of_cell? w _ hx317_1)).trans hx317_1
        have HR317_0 := Aside0.mk hi317_0
        have HC317_0 := Aside0.mk hl317_0
        clear hi317_0 hl317_0
        replace p317 := eq_true p317
        replace q317 := eq_true q317
        refine start_ (n := 10) (S := fun w' => w'.cell? (ad316.add ((x5_1).toNat * 2)) = some (.slice A316_0 ((rd_T79 l0 x5_1).f0).length c316_0) ∧ w'.cell? ⟨(ad316.add ((x5_1).toNat * 2)).block, (ad316.add ((x5_1).toNat * 2)).off + 1, none⟩ = some (.int .i64 ((rd_T79 l0 x5_1).f1)) ∧ w'.cell? (ad317.add ((x5_1).toNat * 2)) = some (.slice A317_0 ((rd_T79 l1 x5_1).f0).length c317_0) ∧ w'.cell? ⟨(ad317.add ((x5_1).toNat * 2)).block, (ad317.add ((x5_1).toNat * 2)).off + 1, none⟩ = some (.int .i64 ((rd_T79 l1 x5_1).f1))) (ds := []) #[false, false, false, false, false, false, false, false, false, false] (by kernel_rfl) rfl rfl ⟨((HB.out.cell (World.block_lt_of_cell? w _ hw316_0)).trans hw316_0), ((HB.out.cell (World.block_lt_of_cell? w _ hw316_1)).trans hw316_1), ((HB.out.cell (World.block_lt_of_cell? w _ hw317_0)).trans hw317_0), ((HB.out.cell (World.block_lt_of_cell? w _ hw317_1)).trans hw317_1)⟩ (fun hHeld => ?_); refine with_tabW laws_eqGroupTaskS.tab6 laws_eqGroupTaskS.bits6 (fun HT_ HW_ => ?_)
        generalize wr.drew = w9 at HB HR316_0 HR317_0 hx316_0 hx316_1 hx317_0 hx317_1 hHeld ⊢
        refine pure_ (i := 0) (N := some 17) (v := ?_) (a' := ?_) #[true, false, false, false, false, false, false, false, false, false] rfl rfl (any_of HT_.out (by kernel_rfl)) (fun _ _ _ h => h) (Or.inl ⟨rfl, ?_⟩) ?_ ?_
        rotate_left
        ·intro w'
         go_simp
         with_reducible rfl
        rotate_left
        ·simp only [Act.put, List.setIfInBounds_toArray, List.set_cons_zero, List.set_cons_succ, i64_w, i32_w]
         rfl
        refine pure_ (i := 1) (N := some 18) (v := ?_) (a' := ?_) #[true, true, false, false, false, false, false, false, false, false] rfl rfl (any_of HT_.out (by kernel_rfl)) (fun _ _ _ h => h) (Or.inl ⟨rfl, ?_⟩) ?_ ?_
        rotate_left
        ·intro w'
         go_simp
         with_reducible rfl
        rotate_left
        ·simp only [Act.put, List.setIfInBounds_toArray, List.set_cons_zero, List.set_cons_succ, i64_w, i32_w]
         rfl
        refine pure_ (i := 2) (N := some 19) (v := ?_) (a' := ?_) #[true, true, true, false, false, false, false, false, false, false] rfl rfl (any_of HT_.out (by kernel_rfl)) (fun _ _ _ h => h) (Or.inl ⟨rfl, ?_⟩) ?_ ?_
        rotate_left
        ·intro w'
         go_simp
         with_reducible rfl
        rotate_left
        ·simp only [Act.put, List.setIfInBounds_toArray, List.set_cons_zero, List.set_cons_succ, i64_w, i32_w]
         rfl
        refine pure_ (i := 4) (N := some 21) (v := ?_) (a' := ?_) #[true, true, true, false, true, false, false, false, false, false] rfl rfl (any_of HT_.out (by kernel_rfl)) (fun _ _ _ h => h) (Or.inl ⟨rfl, ?_⟩) ?_ ?_
        rotate_left
        ·intro w'
         go_simp
         with_reducible rfl
        rotate_left
        ·simp only [Act.put, List.setIfInBounds_toArray, List.set_cons_zero, List.set_cons_succ, i64_w, i32_w]
         rfl
        refine pure_ (i := 5) (N := some 22) (v := ?_) (a' := ?_) #[true, true, true, false, true, true, false, false, false, false] rfl rfl (any_of HT_.out (by kernel_rfl)) (fun _ _ _ h => h) (Or.inl ⟨rfl, ?_⟩) ?_ ?_
        rotate_left
        ·intro w'
         go_simp
         with_reducible rfl
        rotate_left
        ·simp only [Act.put, List.setIfInBounds_toArray, List.set_cons_zero, List.set_cons_succ, i64_w, i32_w]
         rfl
        refine pure_ (i := 6) (N := some 23) (v := ?_) (a' := ?_) #[true, true, true, false, true, true, true, false, false, false] rfl rfl (any_of HT_.out (by kernel_rfl)) (fun _ _ _ h => h) (Or.inl ⟨rfl, ?_⟩) ?_ ?_
        rotate_left
        ·intro w'
         go_simp
         with_reducible rfl
        rotate_left
        ·simp only [Act.put, List.setIfInBounds_toArray, List.set_cons_zero, List.set_cons_succ, i64_w, i32_w]
         rfl
        refine take_ (i := 3) (N := some 20) (v := ?_) (a' := ?_) #[true, true, true, true, true, true, true, false, false, false] rfl rfl (take_ofW HT_.out HW_.out (by kernel_rfl)) (fun _ _ _ h => h) (Or.inl ⟨rfl, ?_⟩) hHeld ?_ ?_
        rotate_left
        ·rintro w' ⟨s0, s1, s2, s3⟩
         go_simp
         with_reducible rfl
        rotate_left
        ·simp only [Act.put, List.setIfInBounds_toArray, List.set_cons_zero, List.set_cons_succ, i64_w, i32_w]
         rfl
        refine take_ (i := 7) (N := some 24) (v := ?_) (a' := ?_) #[true, true, true, true, true, true, true, true, false, false] rfl rfl (take_ofW HT_.out HW_.out (by kernel_rfl)) (fun _ _ _ h => h) (Or.inl ⟨rfl, ?_⟩) hHeld ?_ ?_
        rotate_left
        ·rintro w' ⟨s0, s1, s2, s3⟩
         go_simp
         with_reducible rfl
        rotate_left
        ·simp only [Act.put, List.setIfInBounds_toArray, List.set_cons_zero, List.set_cons_succ, i64_w, i32_w]
         rfl
        refine one_ (i := 8) (N := some 25) #[true, true, true, true, true, true, true, true, true, false] rfl rfl (one_of HT_.out (by kernel_rfl)) (by decide) (fun K hK => ?_)
        refine goes_ Try.func139 (by kernel_rfl) rfl #[.agg #[.slice A316_0 ((rd_T79 l0 x5_1).f0).length c316_0, .int .i64 ((rd_T79 l0 x5_1).f1)], .agg #[.slice A317_0 ((rd_T79 l1 x5_1).f0).length c317_0, .int .i64 ((rd_T79 l1 x5_1).f1)]] rfl rfl rfl (by (try simp only [List.map_toArray, List.map_cons, List.map_nil]); rfl) ?_
        with_reducible refine (laws_eqGroupTask.calls k1 _ _ ((rd_T79 l0 x5_1).f0) ((rd_T79 l0 x5_1).f1) _ _ ((rd_T79 l1 x5_1).f0) ((rd_T79 l1 x5_1).f1) true _ ?side1 ?side2 ?side3 ?side4 A7.out).mono ?_
        (case side1 => repeat (exact (Kd.C_below HR316_0.out HB.out)))
        (case side2 => exact HC316_0.out)
        (case side3 => repeat (exact (Kd.C_below HR317_0.out HB.out)))
        (case side4 => exact HC317_0.out)
        rintro e w10 ⟨rfl, hb⟩
        refine ⟨_, rfl, ?_⟩
        have n0_ := Aside0.mk (below_step HB.out hb)
        clear HB
        have HB := n0_
        clear n0_
        (try clear hb)
        (try clear hb2)
        (try clear hk)
        (try clear hi)
        refine hK.out _ _ ⟨((HB.out.cell (World.block_lt_of_cell? w _ hw316_0)).trans hw316_0), ((HB.out.cell (World.block_lt_of_cell? w _ hw316_1)).trans hw316_1), ((HB.out.cell (World.block_lt_of_cell? w _ hw317_0)).trans hw317_0), ((HB.out.cell (World.block_lt_of_cell? w _ hw317_1)).trans hw317_1)⟩ (fun hHeld => ?_)
        clear hK K
        refine norm_ (a' := ?_) ?_ ?_
        rotate_left
        ·show Act.put _ (some 25) _ = _
         simp only [Act.put, List.setIfInBounds_toArray, List.set_cons_zero, List.set_cons_succ, i64_w, i32_w]
         rfl
        refine pure_ (i := 9) (N := some 26) (v := ?_) (a' := ?_) #[true, true, true, true, true, true, true, true, true, true] rfl rfl (any_of HT_.out (by kernel_rfl)) (fun _ _ _ h => h) (Or.inl ⟨rfl, ?_⟩) ?_ ?_
        rotate_left
        ·intro w'
         go_simp
         with_reducible rfl
        rotate_left
        ·simp only [Act.put, List.setIfInBounds_toArray, List.set_cons_zero, List.set_cons_succ, i64_w, i32_w]
         rfl
        refine done_ (done_of HT_.out (by kernel_rfl)) ?_
        try go_wp2
        go_roundg k1
        case measure => have := HK1.out; omega
        case rel => exact ⟨(wrap64 (x5_1 + 1)), rfl, H', ⟨by have := HK1.out; omega⟩, ⟨HB.out⟩⟩
       ·replace c8 := Bool.eq_false_iff.mpr c8
        subst c8
        rw [if_neg (show ¬ (false = true) by decide)] at H
        obtain rfl := Option.some.inj H
        try go_wp2
        have n0_ := Aside0.mk (below_drew1 HB.out)
        clear HB
        have HB := n0_
        clear n0_
        have p316 : 0 ≤ (x5_1 : Int) := of_decide_eq_true (by (with_reducible assumption))
        have q316 : x5_1 < (l0.length : Int) := of_decide_eq_true (by (with_reducible assumption))
        obtain ⟨ad316, A316_0, c316_0, e316, hx316_0, hx316_1, hl316_0, hi316_0⟩ := at_T79 HR0.out x5_1 p316 q316
        have hw316_1 := hx316_1
        have hw316_0 := hx316_0
        cases e316
        replace hx316_0 := (HB.out.cell (World.block_lt_of_cell? w _ hx316_0)).trans hx316_0
        replace hx316_1 := (HB.out.cell (World.block_lt_of_cell? w _ hx316_1)).trans hx316_1
        have HR316_0 := Aside0.mk hi316_0
        have HC316_0 := Aside0.mk hl316_0
        clear hi316_0 hl316_0
        replace p316 := eq_true p316
        replace q316 := eq_true q316
        have p317 : 0 ≤ (x5_1 : Int) := of_decide_eq_true (by (with_reducible assumption))
        have q317 : x5_1 < (l1.length : Int) := of_decide_eq_true (by (with_reducible assumption))
        obtain ⟨ad317, A317_0, c317_0, e317, hx317_0, hx317_1, hl317_0, hi317_0⟩ := at_T79 HR1.out x5_1 p317 q317
        have hw317_1 := hx317_1
        have hw317_0 := hx317_0
        cases e317
        replace hx317_0 := (HB.out.cell (World.block_lt_of_cell? w _ hx317_0)).trans hx317_0
        replace hx317_1 := (HB.out.cell (World.block_lt_of_cell? w _ hx317_1)).trans hx317_1
        have HR317_0 := Aside0.mk hi317_0
        have HC317_0 := Aside0.mk hl317_0
        clear hi317_0 hl317_0
        replace p317 := eq_true p317
        replace q317 := eq_true q317
        refine start_ (n := 10) (S := fun w' => w'.cell? (ad316.add ((x5_1).toNat * 2)) = some (.slice A316_0 ((rd_T79 l0 x5_1).f0).length c316_0) ∧ w'.cell? ⟨(ad316.add ((x5_1).toNat * 2)).block, (ad316.add ((x5_1).toNat * 2)).off + 1, none⟩ = some (.int .i64 ((rd_T79 l0 x5_1).f1)) ∧ w'.cell? (ad317.add ((x5_1).toNat * 2)) = some (.slice A317_0 ((rd_T79 l1 x5_1).f0).length c317_0) ∧ w'.cell? ⟨(ad317.add ((x5_1).toNat * 2)).block, (ad317.add ((x5_1).toNat * 2)).off + 1, none⟩ = some (.int .i64 ((rd_T79 l1 x5_1).f1))) (ds := []) #[false, false, false, false, false, false, false, false, false, false] (by kernel_rfl) rfl rfl ⟨((HB.out.cell (World.block_lt_of_cell? w _ hw316_0)).trans hw316_0), ((HB.out.cell (World.block_lt_of_cell? w _ hw316_1)).trans hw316_1), ((HB.out.cell (World.block_lt_of_cell? w _ hw317_0)).trans hw317_0), ((HB.out.cell (World.block_lt_of_cell? w _ hw317_1)).trans hw317_1)⟩ (fun hHeld => ?_); refine with_tabW laws_eqGroupTaskS.tab6 laws_eqGroupTaskS.bits6 (fun HT_ HW_ => ?_)
        generalize wr.drew = w11 at HB HR316_0 HR317_0 hx316_0 hx316_1 hx317_0 hx317_1 hHeld ⊢
        refine pure_ (i := 0) (N := some 17) (v := ?_) (a' := ?_) #[true, false, false, false, false, false, false, false, false, false] rfl rfl (any_of HT_.out (by kernel_rfl)) (fun _ _ _ h => h) (Or.inl ⟨rfl, ?_⟩) ?_ ?_
        rotate_left
        ·intro w'
         go_simp
         with_reducible rfl
        rotate_left
        ·simp only [Act.put, List.setIfInBounds_toArray, List.set_cons_zero, List.set_cons_succ, i64_w, i32_w]
         rfl
        refine pure_ (i := 1) (N := some 18) (v := ?_) (a' := ?_) #[true, true, false, false, false, false, false, false, false, false] rfl rfl (any_of HT_.out (by kernel_rfl)) (fun _ _ _ h => h) (Or.inl ⟨rfl, ?_⟩) ?_ ?_
        rotate_left
        ·intro w'
         go_simp
         with_reducible rfl
        rotate_left
        ·simp only [Act.put, List.setIfInBounds_toArray, List.set_cons_zero, List.set_cons_succ, i64_w, i32_w]
         rfl
        refine pure_ (i := 2) (N := some 19) (v := ?_) (a' := ?_) #[true, true, true, false, false, false, false, false, false, false] rfl rfl (any_of HT_.out (by kernel_rfl)) (fun _ _ _ h => h) (Or.inl ⟨rfl, ?_⟩) ?_ ?_
        rotate_left
        ·intro w'
         go_simp
         with_reducible rfl
        rotate_left
        ·simp only [Act.put, List.setIfInBounds_toArray, List.set_cons_zero, List.set_cons_succ, i64_w, i32_w]
         rfl
        refine pure_ (i := 4) (N := some 21) (v := ?_) (a' := ?_) #[true, true, true, false, true, false, false, false, false, false] rfl rfl (any_of HT_.out (by kernel_rfl)) (fun _ _ _ h => h) (Or.inl ⟨rfl, ?_⟩) ?_ ?_
        rotate_left
        ·intro w'
         go_simp
         with_reducible rfl
        rotate_left
        ·simp only [Act.put, List.setIfInBounds_toArray, List.set_cons_zero, List.set_cons_succ, i64_w, i32_w]
         rfl
        refine pure_ (i := 5) (N := some 22) (v := ?_) (a' := ?_) #[true, true, true, false, true, true, false, false, false, false] rfl rfl (any_of HT_.out (by kernel_rfl)) (fun _ _ _ h => h) (Or.inl ⟨rfl, ?_⟩) ?_ ?_
        rotate_left
        ·intro w'
         go_simp
         with_reducible rfl
        rotate_left
        ·simp only [Act.put, List.setIfInBounds_toArray, List.set_cons_zero, List.set_cons_succ, i64_w, i32_w]
         rfl
        refine pure_ (i := 6) (N := some 23) (v := ?_) (a' := ?_) #[true, true, true, false, true, true, true, false, false, false] rfl rfl (any_of HT_.out (by kernel_rfl)) (fun _ _ _ h => h) (Or.inl ⟨rfl, ?_⟩) ?_ ?_
        rotate_left
        ·intro w'
         go_simp
         with_reducible rfl
        rotate_left
        ·simp only [Act.put, List.setIfInBounds_toArray, List.set_cons_zero, List.set_cons_succ, i64_w, i32_w]
         rfl
        refine take_ (i := 3) (N := some 20) (v := ?_) (a' := ?_) #[true, true, true, true, true, true, true, false, false, false] rfl rfl (take_ofW HT_.out HW_.out (by kernel_rfl)) (fun _ _ _ h => h) (Or.inl ⟨rfl, ?_⟩) hHeld ?_ ?_
        rotate_left
        ·rintro w' ⟨s0, s1, s2, s3⟩
         go_simp
         with_reducible rfl
        rotate_left
        ·simp only [Act.put, List.setIfInBounds_toArray, List.set_cons_zero, List.set_cons_succ, i64_w, i32_w]
         rfl
        refine take_ (i := 7) (N := some 24) (v := ?_) (a' := ?_) #[true, true, true, true, true, true, true, true, false, false] rfl rfl (take_ofW HT_.out HW_.out (by kernel_rfl)) (fun _ _ _ h => h) (Or.inl ⟨rfl, ?_⟩) hHeld ?_ ?_
        rotate_left
        ·rintro w' ⟨s0, s1, s2, s3⟩
         go_simp
         with_reducible rfl
        rotate_left
        ·simp only [Act.put, List.setIfInBounds_toArray, List.set_cons_zero, List.set_cons_succ, i64_w, i32_w]
         rfl
        refine one_ (i := 8) (N := some 25) #[true, true, true, true, true, true, true, true, true, false] rfl rfl (one_of HT_.out (by kernel_rfl)) (by decide) (fun K hK => ?_)
        refine goes_ Try.func139 (by kernel_rfl) rfl #[.agg #[.slice A316_0 ((rd_T79 l0 x5_1).f0).length c316_0, .int .i64 ((rd_T79 l0 x5_1).f1)], .agg #[.slice A317_0 ((rd_T79 l1 x5_1).f0).length c317_0, .int .i64 ((rd_T79 l1 x5_1).f1)]] rfl rfl rfl (by (try simp only [List.map_toArray, List.map_cons, List.map_nil]); rfl) ?_
        with_reducible refine (laws_eqGroupTask.calls k1 _ _ ((rd_T79 l0 x5_1).f0) ((rd_T79 l0 x5_1).f1) _ _ ((rd_T79 l1 x5_1).f0) ((rd_T79 l1 x5_1).f1) false _ ?side1 ?side2 ?side3 ?side4 A7.out).mono ?_
        (case side1 => repeat (exact (Kd.C_below HR316_0.out HB.out)))
        (case side2 => exact HC316_0.out)
        (case side3 => repeat (exact (Kd.C_below HR317_0.out HB.out)))
        (case side4 => exact HC317_0.out)
        rintro e w12 ⟨rfl, hb⟩
        refine ⟨_, rfl, ?_⟩
        have n0_ := Aside0.mk (below_step HB.out hb)
        clear HB
        have HB := n0_
        clear n0_
        (try clear hb)
        (try clear hb2)
        (try clear hk)
        (try clear hi)
        refine hK.out _ _ ⟨((HB.out.cell (World.block_lt_of_cell? w _ hw316_0)).trans hw316_0), ((HB.out.cell (World.block_lt_of_cell? w _ hw316_1)).trans hw316_1), ((HB.out.cell (World.block_lt_of_cell? w _ hw317_0)).trans hw317_0), ((HB.out.cell (World.block_lt_of_cell? w _ hw317_1)).trans hw317_1)⟩ (fun hHeld => ?_)
        clear hK K
        refine norm_ (a' := ?_) ?_ ?_
        rotate_left
        ·show Act.put _ (some 25) _ = _
         simp only [Act.put, List.setIfInBounds_toArray, List.set_cons_zero, List.set_cons_succ, i64_w, i32_w]
         rfl
        refine pure_ (i := 9) (N := some 26) (v := ?_) (a' := ?_) #[true, true, true, true, true, true, true, true, true, true] rfl rfl (any_of HT_.out (by kernel_rfl)) (fun _ _ _ h => h) (Or.inl ⟨rfl, ?_⟩) ?_ ?_
        rotate_left
        ·intro w'
         go_simp
         with_reducible rfl
        rotate_left
        ·simp only [Act.put, List.setIfInBounds_toArray, List.set_cons_zero, List.set_cons_succ, i64_w, i32_w]
         rfl
        refine done_ (done_of HT_.out (by kernel_rfl)) ?_
        try go_wp2
        go_ret
        exact ⟨rfl, HB.out⟩
      ·rw [if_neg c6] at H
       exact absurd H (by simp)
     ·rw [if_neg c5] at H
      exact absurd H (by simp)
    ·rw [if_neg c4] at H
     have c4b0 : decide (x5_1 < (l0.length : Int)) = false := decide_eq_false c4
     clear c4
     obtain rfl := Option.some.inj H
     go_wp2
     go_ret
     exact ⟨rfl, HB.out⟩
 ·rw [if_neg c3] at H
  have c3b0 : ((l0.length : Int) == (l1.length : Int)) = false := beq_eq_false_iff_ne.mpr c3
  have c3b1 : ((l0.length : Int) != (l1.length : Int)) = true := bne_iff_ne.mpr c3
  have c3b2 : (l0.length == l1.length) = false := by (simp at c3 ⊢; omega)
  obtain rfl := Option.some.inj H
  go_enter Try.func89, Try.ntmps89
  go_wp2
  go_ret
  exact ⟨rfl, HB.out⟩

end Go.Proofs.Ytphkghnppcfdpaa.P
namespace Go.Proofs.Ytphkghnppcfdpaa.P
open Go.RowKit Go.Proofs.YtphkghnppcfdpaaW.PrintWords Go.Proofs.YtphkghnppcfdpaaW.PrintLast Go.Proofs.YtphkghnppcfdpaaW.PrintMore
attribute [local go_sem] max2_int min2_int max_two min_two max_three min_three max_four min_four   -- for this text's walks alone
set_option linter.unusedVariables false
set_option linter.unusedSimpArgs false

/-! ### laws_eqAggregator: function 14 -/
def laws_eqAggregator.f (k : Nat) (l0_0 : List (S79)) (a0_1 : Int) (a0_2 : Bool) (l1_0 : List (S79)) (a1_1 : Int) (a1_2 : Bool) : Option (Bool) := (laws_eqGroupTaskS.f k l0_0 l1_0).bind fun t321 => (if t321 = true then (if a0_1 = a1_1 then (if (a0_2 != a1_2) = true then (some false) else (some true)) else (some false)) else (some false))
theorem laws_eqAggregator.mono : ∀ a0 a1 a2 a3 a4 a5 k, LeO (laws_eqAggregator.f k a0 a1 a2 a3 a4 a5) (laws_eqAggregator.f (k + 1) a0 a1 a2 a3 a4 a5) := by
 intro a0 a1 a2 a3 a4 a5 k
 unfold laws_eqAggregator.f
 repeat' first
   | (with_reducible exact laws_eqGroupTaskS.mono _ _ _)
   | (with_reducible exact LeO.refl _)
   | (with_reducible refine LeO.bind ?_ (fun _ => ?_))
set_option maxHeartbeats 8000000 in
set_option maxRecDepth 100000 in
theorem laws_eqAggregator.calls (k : Nat) (A0_0 : Option Addr) (c0_0 : Nat) (l0_0 : List (S79)) (a0_1 : Int) (a0_2 : Bool) (A1_0 : Option Addr) (c1_0 : Nat) (l1_0 : List (S79)) (a1_1 : Int) (a1_2 : Bool) (r : Bool) (w : World) (hr0_0 : Kd.C k79 w A0_0 l0_0.length l0_0) (hc0_0 : l0_0.length ≤ c0_0) (hr1_0 : Kd.C k79 w A1_0 l1_0.length l1_0) (hc1_0 : l1_0.length ≤ c1_0) (h : laws_eqAggregator.f k l0_0 a0_1 a0_2 l1_0 a1_1 a1_2 = some r) :
  Calls Try.prog 14 #[.agg #[.slice A0_0 l0_0.length c0_0, .int .i64 a0_1, .bool a0_2], .agg #[.slice A1_0 l1_0.length c1_0, .int .i64 a1_1, .bool a1_2]] w fun e w' => e = .returned (.bool r) ∧ Below w.heap.size w w' := by
 have hu24 := Try.underlying24
 have HR0_0 := Aside0.mk hr0_0
 have HC0_0 := Aside0.mk hc0_0
 clear hr0_0 hc0_0
 have HR1_0 := Aside0.mk hr1_0
 have HC1_0 := Aside0.mk hc1_0
 clear hr1_0 hc1_0
 have HB := Aside0.mk (Below.refl w.heap.size w)
 have H : ((laws_eqGroupTaskS.f k l0_0 l1_0).bind fun t321 => (if t321 = true then (if a0_1 = a1_1 then (if (a0_2 != a1_2) = true then (some false) else (some true)) else (some false)) else (some false))) = some r := h
 clear h
 replace H := Option.bind_eq_some_iff.mp H
 obtain ⟨t321, A30, H⟩ := H
 have A3 := Aside0.mk A30
 clear A30
 by_cases c4 : t321 = true
 ·subst c4
  rw [if_pos rfl] at H
  by_cases c5 : a0_1 = a1_1
  ·rw [if_pos c5] at H
   have c5b0 : (a0_1 == a1_1) = true := beq_iff_eq.mpr c5
   have c5b1 : (a0_1 != a1_1) = false := bne_eq_false_iff_eq.mpr c5
   clear c5
   by_cases c6 : (a0_2 != a1_2) = true
   ·rw [if_pos c6] at H
    have c6b0 : (a0_2 != a1_2) = true := c6
    (try (have c6b1 : decide (a0_2 = a1_2) = false := by simpa using c6))
    (try (have c6b2 : (a0_2 == a1_2) = false := by simpa using c6))
    (try (have c6b3 : ¬ (a0_2 = a1_2) := by simpa using c6))
    clear c6
    obtain rfl := Option.some.inj H
    go_enter Try.func14, Try.ntmps14
    go_wp2_with (first | ((with_reducible refine gate_dst (N := 2) rfl ?_); refine box_event ?hg (N := 2) ?hd (cs := #[.slice A0_0 l0_0.length c0_0, .int .i64 a0_1, .bool a0_2]) (t := 24) ?hr ?_; (case hd => rfl); (case hg => rfl); (case hr => (go_simp; done)); intro gb319 hg w7 hbox hb; have n0_ := Aside0.mk (below_step HB.out hb); have n1_ := Aside0.mk (hbox); have n2_ := Aside0.mk ((by rw [hg]; exact (below_size HB.out) : w.heap.size ≤ gb319)); have n3_ := Aside0.mk ((by rw [hg]; exact (below_size HB.out) : w.heap.size ≤ gb319)); clear HB; have HB := n0_; have BK319 := n1_; have GW319 := n2_; have GE319 := n3_; clear n0_ n1_ n2_ n3_; clear hb hbox hg) | ((with_reducible refine gate_dst (N := 3) rfl ?_); refine box_event ?hg (N := 3) ?hd (cs := #[.slice A1_0 l1_0.length c1_0, .int .i64 a1_1, .bool a1_2]) (t := 24) ?hr ?_; (case hd => rfl); (case hg => rfl); (case hr => (go_simp; done)); intro gb320 hg w8 hbox hb; have n0_ := Aside0.mk (blk_below (g := gb319) (o := .cells #[.slice A0_0 l0_0.length c0_0, .int .i64 a0_1, .bool a0_2] 24 (0, 0)) BK319.out hb); have n1_ := Aside0.mk (below_step HB.out hb); have n2_ := Aside0.mk (hbox); have n3_ := Aside0.mk ((by rw [hg]; exact (below_size HB.out) : w.heap.size ≤ gb320)); have n4_ := Aside0.mk ((by rw [hg]; exact (below_size HB.out) : w.heap.size ≤ gb320)); have n5_ := Aside0.mk ((by rw [hg]; exact Nat.ne_of_lt (blk_lt (g := gb319) (o := .cells #[.slice A0_0 l0_0.length c0_0, .int .i64 a0_1, .bool a0_2] 24 (0, 0)) BK319.out) : gb319 ≠ gb320)); have n6_ := Aside0.mk ((by rw [hg]; exact Nat.ne_of_gt (blk_lt (g := gb319) (o := .cells #[.slice A0_0 l0_0.length c0_0, .int .i64 a0_1, .bool a0_2] 24 (0, 0)) BK319.out) : gb320 ≠ gb319)); clear BK319; clear HB; have BK319 := n0_; have HB := n1_; have BK320 := n2_; have GW320 := n3_; have GE320 := n4_; have NB319_320 := n5_; have NB320_319 := n6_; clear n0_ n1_ n2_ n3_ n4_ n5_ n6_; clear hb hbox hg; have hnb9 := NB319_320.out; have hnc9 := NB320_319.out; have hcz10_0 : w8.cell? ⟨gb319, 0, none⟩ = some (.slice A0_0 l0_0.length c0_0) := (blk_cell BK319.out 0).trans rfl; have hcz10_1 : w8.cell? ⟨gb319, 1, none⟩ = some (.int .i64 a0_1) := (blk_cell BK319.out 1).trans rfl; have hcz10_2 : w8.cell? ⟨gb319, 2, none⟩ = some (.bool a0_2) := (blk_cell BK319.out 2).trans rfl; have hfz10_0 := blk_frozen BK319.out 0; have hfz10_1 := blk_frozen BK319.out 1; have hfz10_2 := blk_frozen BK319.out 2; have hcz11_0 : w8.cell? ⟨gb320, 0, none⟩ = some (.slice A1_0 l1_0.length c1_0) := (blk_cell BK320.out 0).trans rfl; have hcz11_1 : w8.cell? ⟨gb320, 1, none⟩ = some (.int .i64 a1_1) := (blk_cell BK320.out 1).trans rfl; have hcz11_2 : w8.cell? ⟨gb320, 2, none⟩ = some (.bool a1_2) := (blk_cell BK320.out 2).trans rfl; have hfz11_0 := blk_frozen BK320.out 0; have hfz11_1 := blk_frozen BK320.out 1; have hfz11_2 := blk_frozen BK320.out 2) | ((with_reducible refine gate_callee (f := 89) rfl ?_); refine goesL_ (some 9) rfl rfl Try.func89 (by kernel_rfl) rfl #[.slice A0_0 l0_0.length c0_0, .slice A1_0 l1_0.length c1_0] rfl (by (try simp only [List.map_toArray, List.map_cons, List.map_nil]); rfl) ?_; (with_reducible refine (laws_eqGroupTaskS.calls k _ _ l0_0 _ _ l1_0 true _ ?side1 ?side2 ?side3 ?side4 A3.out).mono ?_); (case side1 => repeat (exact (Kd.C_below HR0_0.out HB.out))); (case side2 => exact HC0_0.out); (case side3 => repeat (exact (Kd.C_below HR1_0.out HB.out))); (case side4 => exact HC1_0.out); rintro e w12 ⟨rfl, hb⟩; refine ⟨_, rfl, ?_⟩; have n0_ := Aside0.mk (blk_below (g := gb319) (o := .cells #[.slice A0_0 l0_0.length c0_0, .int .i64 a0_1, .bool a0_2] 24 (0, 0)) BK319.out hb); have n1_ := Aside0.mk (blk_below (g := gb320) (o := .cells #[.slice A1_0 l1_0.length c1_0, .int .i64 a1_1, .bool a1_2] 24 (0, 0)) BK320.out hb); have n2_ := Aside0.mk (below_step HB.out hb); clear BK319; clear BK320; clear HB; have BK319 := n0_; have BK320 := n1_; have HB := n2_; clear n0_ n1_ n2_; (try clear hb); (try clear hb2); (try clear hk); (try clear hi); have hcz13_0 : w12.cell? ⟨gb319, 0, none⟩ = some (.slice A0_0 l0_0.length c0_0) := (blk_cell BK319.out 0).trans rfl; have hcz13_1 : w12.cell? ⟨gb319, 1, none⟩ = some (.int .i64 a0_1) := (blk_cell BK319.out 1).trans rfl; have hcz13_2 : w12.cell? ⟨gb319, 2, none⟩ = some (.bool a0_2) := (blk_cell BK319.out 2).trans rfl; have hfz13_0 := blk_frozen BK319.out 0; have hfz13_1 := blk_frozen BK319.out 1; have hfz13_2 := blk_frozen BK319.out 2; have hcz14_0 : w12.cell? ⟨gb320, 0, none⟩ = some (.slice A1_0 l1_0.length c1_0) := (blk_cell BK320.out 0).trans rfl; have hcz14_1 : w12.cell? ⟨gb320, 1, none⟩ = some (.int .i64 a1_1) := (blk_cell BK320.out 1).trans rfl; have hcz14_2 : w12.cell? ⟨gb320, 2, none⟩ = some (.bool a1_2) := (blk_cell BK320.out 2).trans rfl; have hfz14_0 := blk_frozen BK320.out 0; have hfz14_1 := blk_frozen BK320.out 1; have hfz14_2 := blk_frozen BK320.out 2))
    go_ret
    exact ⟨rfl, HB.out⟩
   ·rw [if_neg c6] at H
    have c6b0 : (a0_2 != a1_2) = false := by simpa using c6
    (try (have c6b1 : decide (a0_2 = a1_2) = true := by simpa using c6))
    (try (have c6b2 : (a0_2 == a1_2) = true := by simpa using c6))
    clear c6
    obtain rfl := Option.some.inj H
    go_enter Try.func14, Try.ntmps14
    go_wp2_with (first | ((with_reducible refine gate_dst (N := 2) rfl ?_); refine box_event ?hg (N := 2) ?hd (cs := #[.slice A0_0 l0_0.length c0_0, .int .i64 a0_1, .bool a0_2]) (t := 24) ?hr ?_; (case hd => rfl); (case hg => rfl); (case hr => (go_simp; done)); intro gb319 hg w15 hbox hb; have n0_ := Aside0.mk (below_step HB.out hb); have n1_ := Aside0.mk (hbox); have n2_ := Aside0.mk ((by rw [hg]; exact (below_size HB.out) : w.heap.size ≤ gb319)); have n3_ := Aside0.mk ((by rw [hg]; exact (below_size HB.out) : w.heap.size ≤ gb319)); clear HB; have HB := n0_; have BK319 := n1_; have GW319 := n2_; have GE319 := n3_; clear n0_ n1_ n2_ n3_; clear hb hbox hg) | ((with_reducible refine gate_dst (N := 3) rfl ?_); refine box_event ?hg (N := 3) ?hd (cs := #[.slice A1_0 l1_0.length c1_0, .int .i64 a1_1, .bool a1_2]) (t := 24) ?hr ?_; (case hd => rfl); (case hg => rfl); (case hr => (go_simp; done)); intro gb320 hg w16 hbox hb; have n0_ := Aside0.mk (blk_below (g := gb319) (o := .cells #[.slice A0_0 l0_0.length c0_0, .int .i64 a0_1, .bool a0_2] 24 (0, 0)) BK319.out hb); have n1_ := Aside0.mk (below_step HB.out hb); have n2_ := Aside0.mk (hbox); have n3_ := Aside0.mk ((by rw [hg]; exact (below_size HB.out) : w.heap.size ≤ gb320)); have n4_ := Aside0.mk ((by rw [hg]; exact (below_size HB.out) : w.heap.size ≤ gb320)); have n5_ := Aside0.mk ((by rw [hg]; exact Nat.ne_of_lt (blk_lt (g := gb319) (o := .cells #[.slice A0_0 l0_0.length c0_0, .int .i64 a0_1, .bool a0_2] 24 (0, 0)) BK319.out) : gb319 ≠ gb320)); have n6_ := Aside0.mk ((by rw [hg]; exact Nat.ne_of_gt (blk_lt (g := gb319) (o := .cells #[.slice A0_0 l0_0.length c0_0, .int .i64 a0_1, .bool a0_2] 24 (0, 0)) BK319.out) : gb320 ≠ gb319)); clear BK319; clear HB; have BK319 := n0_; have HB := n1_; have BK320 := n2_; have GW320 := n3_; have GE320 := n4_; have NB319_320 := n5_; have NB320_319 := n6_; clear n0_ n1_ n2_ n3_ n4_ n5_ n6_; clear hb hbox hg; have hnb17 := NB319_320.out; have hnc17 := NB320_319.out; have hcz18_0 : w16.cell? ⟨gb319, 0, none⟩ = some (.slice A0_0 l0_0.length c0_0) := (blk_cell BK319.out 0).trans rfl; have hcz18_1 : w16.cell? ⟨gb319, 1, none⟩ = some (.int .i64 a0_1) := (blk_cell BK319.out 1).trans rfl; have hcz18_2 : w16.cell? ⟨gb319, 2, none⟩ = some (.bool a0_2) := (blk_cell BK319.out 2).trans rfl; have hfz18_0 := blk_frozen BK319.out 0; have hfz18_1 := blk_frozen BK319.out 1; have hfz18_2 := blk_frozen BK319.out 2; have hcz19_0 : w16.cell? ⟨gb320, 0, none⟩ = some (.slice A1_0 l1_0.length c1_0) := (blk_cell BK320.out 0).trans rfl; have hcz19_1 : w16.cell? ⟨gb320, 1, none⟩ = some (.int .i64 a1_1) := (blk_cell BK320.out 1).trans rfl; have hcz19_2 : w16.cell? ⟨gb320, 2, none⟩ = some (.bool a1_2) := (blk_cell BK320.out 2).trans rfl; have hfz19_0 := blk_frozen BK320.out 0; have hfz19_1 := blk_frozen BK320.out 1; have hfz19_2 := blk_frozen BK320.out 2) | ((with_reducible refine gate_callee (f := 89) rfl ?_); refine goesL_ (some 9) rfl rfl Try.func89 (by kernel_rfl) rfl #[.slice A0_0 l0_0.length c0_0, .slice A1_0 l1_0.length c1_0] rfl (by (try simp only [List.map_toArray, List.map_cons, List.map_nil]); rfl) ?_; (with_reducible refine (laws_eqGroupTaskS.calls k _ _ l0_0 _ _ l1_0 true _ ?side1 ?side2 ?side3 ?side4 A3.out).mono ?_); (case side1 => repeat (exact (Kd.C_below HR0_0.out HB.out))); (case side2 => exact HC0_0.out); (case side3 => repeat (exact (Kd.C_below HR1_0.out HB.out))); (case side4 => exact HC1_0.out); rintro e w20 ⟨rfl, hb⟩; refine ⟨_, rfl, ?_⟩; have n0_ := Aside0.mk (blk_below (g := gb319) (o := .cells #[.slice A0_0 l0_0.length c0_0, .int .i64 a0_1, .bool a0_2] 24 (0, 0)) BK319.out hb); have n1_ := Aside0.mk (blk_below (g := gb320) (o := .cells #[.slice A1_0 l1_0.length c1_0, .int .i64 a1_1, .bool a1_2] 24 (0, 0)) BK320.out hb); have n2_ := Aside0.mk (below_step HB.out hb); clear BK319; clear BK320; clear HB; have BK319 := n0_; have BK320 := n1_; have HB := n2_; clear n0_ n1_ n2_; (try clear hb); (try clear hb2); (try clear hk); (try clear hi); have hcz21_0 : w20.cell? ⟨gb319, 0, none⟩ = some (.slice A0_0 l0_0.length c0_0) := (blk_cell BK319.out 0).trans rfl; have hcz21_1 : w20.cell? ⟨gb319, 1, none⟩ = some (.int .i64 a0_1) := (blk_cell BK319.out 1).trans rfl; have hcz21_2 : w20.cell? ⟨gb319, 2, none⟩ = some (.bool a0_2) := (blk_cell BK319.out 2).trans rfl; have hfz21_0 := blk_frozen BK319.out 0; have hfz21_1 := blk_frozen BK319.out 1; have hfz21_2 := blk_frozen BK319.out 2; have hcz22_0 : w20.cell? ⟨gb320, 0, none⟩ = some (.slice A1_0 l1_0.length c1_0) := (blk_cell BK320.out 0).trans rfl; have hcz22_1 : w20.cell? ⟨gb320, 1, none⟩ = some (.int .i64 a1_1) := (blk_cell BK320.out 1).trans rfl; have hcz22_2 : w20.cell? ⟨gb320, 2, none⟩ = some (.bool a1_2) := (blk_cell BK320.out 2).trans rfl; have hfz22_0 := blk_frozen BK320.out 0; have hfz22_1 := blk_frozen BK320.out 1; have hfz22_2 := blk_frozen BK320.out 2))
    go_ret
    exact ⟨rfl, HB.out⟩
  ·rw [if_neg c5] at H
   have c5b0 : (a0_1 == a1_1) = false := beq_eq_false_iff_ne.mpr c5
   have c5b1 : (a0_1 != a1_1) = true := bne_iff_ne.mpr c5
   obtain rfl := Option.some.inj H
   go_enter Try.func14, Try.ntmps14
   go_wp2_with (first | ((with_reducible refine gate_dst (N := 2) rfl ?_); refine box_event ?hg (N := 2) ?hd (cs := #[.slice A0_0 l0_0.length c0_0, .int .i64 a0_1, .bool a0_2]) (t := 24) ?hr ?_; (case hd => rfl); (case hg => rfl); (case hr => (go_simp; done)); intro gb319 hg w23 hbox hb; have n0_ := Aside0.mk (below_step HB.out hb); have n1_ := Aside0.mk (hbox); have n2_ := Aside0.mk ((by rw [hg]; exact (below_size HB.out) : w.heap.size ≤ gb319)); have n3_ := Aside0.mk ((by rw [hg]; exact (below_size HB.out) : w.heap.size ≤ gb319)); clear HB; have HB := n0_; have BK319 := n1_; have GW319 := n2_; have GE319 := n3_; clear n0_ n1_ n2_ n3_; clear hb hbox hg) | ((with_reducible refine gate_dst (N := 3) rfl ?_); refine box_event ?hg (N := 3) ?hd (cs := #[.slice A1_0 l1_0.length c1_0, .int .i64 a1_1, .bool a1_2]) (t := 24) ?hr ?_; (case hd => rfl); (case hg => rfl); (case hr => (go_simp; done)); intro gb320 hg w24 hbox hb; have n0_ := Aside0.mk (blk_below (g := gb319) (o := .cells #[.slice A0_0 l0_0.length c0_0, .int .i64 a0_1, .bool a0_2] 24 (0, 0)) BK319.out hb); have n1_ := Aside0.mk (below_step HB.out hb); have n2_ := Aside0.mk (hbox); have n3_ := Aside0.mk ((by rw [hg]; exact (below_size HB.out) : w.heap.size ≤ gb320)); have n4_ := Aside0.mk ((by rw [hg]; exact (below_size HB.out) : w.heap.size ≤ gb320)); have n5_ := Aside0.mk ((by rw [hg]; exact Nat.ne_of_lt (blk_lt (g := gb319) (o := .cells #[.slice A0_0 l0_0.length c0_0, .int .i64 a0_1, .bool a0_2] 24 (0, 0)) BK319.out) : gb319 ≠ gb320)); have n6_ := Aside0.mk ((by rw [hg]; exact Nat.ne_of_gt (blk_lt (g := gb319) (o := .cells #[.slice A0_0 l0_0.length c0_0, .int .i64 a0_1, .bool a0_2] 24 (0, 0)) BK319.out) : gb320 ≠ gb319)); clear BK319; clear HB; have BK319 := n0_; have HB := n1_; have BK320 := n2_; have GW320 := n3_; have GE320 := n4_; have NB319_320 := n5_; have NB320_319 := n6_; clear n0_ n1_ n2_ n3_ n4_ n5_ n6_; clear hb hbox hg; have hnb25 := NB319_320.out; have hnc25 := NB320_319.out; have hcz26_0 : w24.cell? ⟨gb319, 0, none⟩ = some (.slice A0_0 l0_0.length c0_0) := (blk_cell BK319.out 0).trans rfl; have hcz26_1 : w24.cell? ⟨gb319, 1, none⟩ = some (.int .i64 a0_1) := (blk_cell BK319.out 1).trans rfl; have hcz26_2 : w24.cell? ⟨gb319, 2, none⟩ = some (.bool a0_2) := (blk_cell BK319.out 2).trans rfl; have hfz26_0 := blk_frozen BK319.out 0; have hfz26_1 := blk_frozen BK319.out 1; have hfz26_2 := blk_frozen BK319.out 2; have hcz27_0 : w24.cell? ⟨gb320, 0, none⟩ = some (.slice A1_0 l1_0.length c1_0) := (blk_cell BK320.out 0).trans rfl; have hcz27_1 : w24.cell? ⟨gb320, 1, none⟩ = some (.int .i64 a1_1) := (blk_cell BK320.out 1).trans rfl; have hcz27_2 : w24.cell? ⟨gb320, 2, none⟩ = some (.bool a1_2) := (blk_cell BK320.out 2).trans rfl; have hfz27_0 := blk_frozen BK320.out 0; have hfz27_1 := blk_frozen BK320.out 1; have hfz27_2 := blk_frozen BK320.out 2) | ((with_reducible refine gate_callee (f := 89) rfl ?_); refine goesL_ (some 9) rfl rfl Try.func89 (by kernel_rfl) rfl #[.slice A0_0 l0_0.length c0_0, .slice A1_0 l1_0.length c1_0] rfl (by (try simp only [List.map_toArray, List.map_cons, List.map_nil]); rfl) ?_; (with_reducible refine (laws_eqGroupTaskS.calls k _ _ l0_0 _ _ l1_0 true _ ?side1 ?side2 ?side3 ?side4 A3.out).mono ?_); (case side1 => repeat (exact (Kd.C_below HR0_0.out HB.out))); (case side2 => exact HC0_0.out); (case side3 => repeat (exact (Kd.C_below HR1_0.out HB.out))); (case side4 => exact HC1_0.out); rintro e w28 ⟨rfl, hb⟩; refine ⟨_, rfl, ?_⟩; have n0_ := Aside0.mk (blk_below (g := gb319) (o := .cells #[.slice A0_0 l0_0.length c0_0, .int .i64 a0_1, .bool a0_2] 24 (0, 0)) BK319.out hb); have n1_ := Aside0.mk (blk_below (g := gb320) (o := .cells #[.slice A1_0 l1_0.length c1_0, .int .i64 a1_1, .bool a1_2] 24 (0, 0)) BK320.out hb); have n2_ := Aside0.mk (below_step HB.out hb); clear BK319; clear BK320; clear HB; have BK319 := n0_; have BK320 := n1_; have HB := n2_; clear n0_ n1_ n2_; (try clear hb); (try clear hb2); (try clear hk); (try clear hi); have hcz29_0 : w28.cell? ⟨gb319, 0, none⟩ = some (.slice A0_0 l0_0.length c0_0) := (blk_cell BK319.out 0).trans rfl; have hcz29_1 : w28.cell? ⟨gb319, 1, none⟩ = some (.int .i64 a0_1) := (blk_cell BK319.out 1).trans rfl; have hcz29_2 : w28.cell? ⟨gb319, 2, none⟩ = some (.bool a0_2) := (blk_cell BK319.out 2).trans rfl; have hfz29_0 := blk_frozen BK319.out 0; have hfz29_1 := blk_frozen BK319.out 1; have hfz29_2 := blk_frozen BK319.out 2; have hcz30_0 : w28.cell? ⟨gb320, 0, none⟩ = some (.slice A1_0 l1_0.length c1_0) := (blk_cell BK320.out 0).trans rfl; have hcz30_1 : w28.cell? ⟨gb320, 1, none⟩ = some (.int .i64 a1_1) := (blk_cell BK320.out 1).trans rfl; have hcz30_2 : w28.cell? ⟨gb320, 2, none⟩ = some (.bool a1_2) := (blk_cell BK320.out 2).trans rfl; have hfz30_0 := blk_frozen BK320.out 0; have hfz30_1 := blk_frozen BK320.out 1; have hfz30_2 := blk_frozen BK320.out 2))
   go_ret
   exact ⟨rfl, HB.out⟩
 ·replace c4 := Bool.eq_false_iff.mpr c4
  subst c4
  rw [if_neg (show ¬ (false = true) by decide)] at H
  obtain rfl := Option.some.inj H
  go_enter Try.func14, Try.ntmps14
  go_wp2_with (first | ((with_reducible refine gate_dst (N := 2) rfl ?_); refine box_event ?hg (N := 2) ?hd (cs := #[.slice A0_0 l0_0.length c0_0, .int .i64 a0_1, .bool a0_2]) (t := 24) ?hr ?_; (case hd => rfl); (case hg => rfl); (case hr => (go_simp; done)); intro gb319 hg w31 hbox hb; have n0_ := Aside0.mk (below_step HB.out hb); have n1_ := Aside0.mk (hbox); have n2_ := Aside0.mk ((by rw [hg]; exact (below_size HB.out) : w.heap.size ≤ gb319)); have n3_ := Aside0.mk ((by rw [hg]; exact (below_size HB.out) : w.heap.size ≤ gb319)); clear HB; have HB := n0_; have BK319 := n1_; have GW319 := n2_; have GE319 := n3_; clear n0_ n1_ n2_ n3_; clear hb hbox hg) | ((with_reducible refine gate_dst (N := 3) rfl ?_); refine box_event ?hg (N := 3) ?hd (cs := #[.slice A1_0 l1_0.length c1_0, .int .i64 a1_1, .bool a1_2]) (t := 24) ?hr ?_; (case hd => rfl); (case hg => rfl); (case hr => (go_simp; done)); intro gb320 hg w32 hbox hb; have n0_ := Aside0.mk (blk_below (g := gb319) (o := .cells #[.slice A0_0 l0_0.length c0_0, .int .i64 a0_1, .bool a0_2] 24 (0, 0)) BK319.out hb); have n1_ := Aside0.mk (below_step HB.out hb); have n2_ := Aside0.mk (hbox); have n3_ := Aside0.mk ((by rw [hg]; exact (below_size HB.out) : w.heap.size ≤ gb320)); have n4_ := Aside0.mk ((by rw [hg]; exact (below_size HB.out) : w.heap.size ≤ gb320)); have n5_ := Aside0.mk ((by rw [hg]; exact Nat.ne_of_lt (blk_lt (g := gb319) (o := .cells #[.slice A0_0 l0_0.length c0_0, .int .i64 a0_1, .bool a0_2] 24 (0, 0)) BK319.out) : gb319 ≠ gb320)); have n6_ := Aside0.mk ((by rw [hg]; exact Nat.ne_of_gt (blk_lt (g := gb319) (o := .cells #[.slice A0_0 l0_0.length c0_0, .int .i64 a0_1, .bool a0_2] 24 (0, 0)) BK319.out) : gb320 ≠ gb319)); clear BK319; clear HB; have BK319 := n0_; have HB := n1_; have BK320 := n2_; have GW320 := n3_; have GE320 := n4_; have NB319_320 := n5_; have NB320_319 := n6_; clear n0_ n1_ n2_ n3_ n4_ n5_ n6_; clear hb hbox hg; have hnb33 := NB319_320.out; have hnc33 := NB320_319.out; have hcz34_0 : w32.cell? ⟨gb319, 0, none⟩ = some (.slice A0_0 l0_0.length c0_0) := (blk_cell BK319.out 0).trans rfl; have hcz34_1 : w32.cell? ⟨gb319, 1, none⟩ = some (.int .i64 a0_1) := (blk_cell BK319.out 1).trans rfl; have hcz34_2 : w32.cell? ⟨gb319, 2, none⟩ = some (.bool a0_2) := (blk_cell BK319.out 2).trans rfl; have hfz34_0 := blk_frozen BK319.out 0; have hfz34_1 := blk_frozen BK319.out 1; have hfz34_2 := blk_frozen BK319.out 2; have hcz35_0 : w32.cell? ⟨gb320, 0, none⟩ = some (.slice A1_0 l1_0.length c1_0) := (blk_cell BK320.out 0).trans rfl; have hcz35_1 : w32.cell? ⟨gb320, 1, none⟩ = some (.int .i64 a1_1) := (blk_cell BK320.out 1).trans rfl; have hcz35_2 : w32.cell? ⟨gb320, 2, none⟩ = some (.bool a1_2) := (blk_cell BK320.out 2).trans rfl; have hfz35_0 := blk_frozen BK320.out 0; have hfz35_1 := blk_frozen BK320.out 1; have hfz35_2 := blk_frozen BK320.out 2) | ((with_reducible refine gate_callee (f := 89) rfl ?_); refine goesL_ (some 9) rfl rfl Try.func89 (by kernel_rfl) rfl #[.slice A0_0 l0_0.length c0_0, .slice A1_0 l1_0.length c1_0] rfl (by (try simp only [List.map_toArray, List.map_cons, List.map_nil]); rfl) ?_; (with_reducible refine (laws_eqGroupTaskS.calls k _ _ l0_0 _ _ l1_0 false _ ?side1 ?side2 ?side3 ?side4 A3.out).mono ?_); (case side1 => repeat (exact (Kd.C_below HR0_0.out HB.out))); (case side2 => exact HC0_0.out); (case side3 => repeat (exact (Kd.C_below HR1_0.out HB.out))); (case side4 => exact HC1_0.out); rintro e w36 ⟨rfl, hb⟩; refine ⟨_, rfl, ?_⟩; have n0_ := Aside0.mk (blk_below (g := gb319) (o := .cells #[.slice A0_0 l0_0.length c0_0, .int .i64 a0_1, .bool a0_2] 24 (0, 0)) BK319.out hb); have n1_ := Aside0.mk (blk_below (g := gb320) (o := .cells #[.slice A1_0 l1_0.length c1_0, .int .i64 a1_1, .bool a1_2] 24 (0, 0)) BK320.out hb); have n2_ := Aside0.mk (below_step HB.out hb); clear BK319; clear BK320; clear HB; have BK319 := n0_; have BK320 := n1_; have HB := n2_; clear n0_ n1_ n2_; (try clear hb); (try clear hb2); (try clear hk); (try clear hi)))
  go_ret
  exact ⟨rfl, HB.out⟩

end Go.Proofs.Ytphkghnppcfdpaa.P
namespace Go.Proofs.Ytphkghnppcfdpaa.P
open Go.RowKit Go.Proofs.YtphkghnppcfdpaaW.PrintWords Go.Proofs.YtphkghnppcfdpaaW.PrintLast Go.Proofs.YtphkghnppcfdpaaW.PrintMore
attribute [local go_sem] max2_int min2_int max_two min_two max_three min_three max_four min_four   -- for this text's walks alone
set_option linter.unusedVariables false
set_option linter.unusedSimpArgs false

/-! ### laws_markRowS: function 31 -/
def laws_markRowS.l0 : Nat → List (S114) → Int → Int → Option (Int × (List (S114)))
 | 0, _, _, _ => none
 | k + 1, x0, x1, x5 => if x5 < (x0.length : Int) then (if 0 ≤ x5 then ((some (x0.set (x5 : Int).toNat (⟨x1, (rd_T114 x0 x5).f1, (rd_T114 x0 x5).f2⟩ : S114) : List (S114))).bind fun y322 => ((some (y322.set (x5 : Int).toNat (⟨(rd_T114 y322 x5).f0, wrap64 (x1 + 1), (rd_T114 y322 x5).f2⟩ : S114) : List (S114))).bind fun y323 => (laws_markRowS.l0 k (y323.set (x5 : Int).toNat (⟨(rd_T114 y323 x5).f0, (rd_T114 y323 x5).f1, wrap64 ((wrap64 (x1 + 1)) + 1)⟩ : S114)) (wrap64 ((wrap64 ((wrap64 (x1 + 1)) + 1)) + 1)) (wrap64 (x5 + 1))))) else (none)) else (some (x1, x0))
def laws_markRowS.f (k : Nat) (l0 : List (S114)) (a1 : Int) : Option (Int × (List (S114))) := laws_markRowS.l0 k l0 a1 0
theorem laws_markRowS.mono_l : ∀ k, (∀ y0 y1 y2, LeO (laws_markRowS.l0 k y0 y1 y2) (laws_markRowS.l0 (k + 1) y0 y1 y2))
 | 0 => fun _ _ _ r h => by simp [laws_markRowS.l0] at h
 | k + 1 => by
  have ih0 := laws_markRowS.mono_l k
  ·intro y0 y1 y2
   unfold laws_markRowS.l0
   repeat' first
   | (with_reducible exact ih0 _ _ _)
   | (with_reducible exact LeO.refl _)
   | (with_reducible refine LeO.ite ?_ ?_)
   | (with_reducible refine LeO.bind ?_ (fun _ => ?_))
theorem laws_markRowS.mono : ∀ a0 a1 k, LeO (laws_markRowS.f k a0 a1) (laws_markRowS.f (k + 1) a0 a1) := by
 intro a0 a1 k
 have ih0 := laws_markRowS.mono_l k
 unfold laws_markRowS.f
 repeat' (with_reducible exact ih0 _ _ _)

set_option maxHeartbeats 8000000 in
set_option maxRecDepth 100000 in
theorem laws_markRowS.calls (k : Nat) (P0_ : Nat → Prop) (u9000_ : Value) (l0 : List (S114)) (a1 : Int) (r1 : Int) (r2 : List (S114)) (w0 w : World) (hB : Below w0.heap.size w0 w) (ho0 : Kd.R k114 114 w w0.heap.size P0_ u9000_ l0) (h : laws_markRowS.f k l0 a1 = some (r1, r2)) :
  Calls Try.prog 31 #[u9000_, .int .i64 a1] w fun e w' => e = .returned (.int .i64 r1) ∧ Kd.R k114 114 w' w0.heap.size (fun k_ => (P0_ k_ ∨ w.heap.size ≤ k_)) u9000_ r2 ∧ Below w0.heap.size w0 w' ∧ Kept w w' (fun k_ => P0_ k_) := by
 have HO0 := Aside0.mk (show Kd.R k114 114 w w0.heap.size (fun k_ => (P0_ k_ ∨ w.heap.size ≤ k_)) u9000_ l0 from Kd.R_mono ho0 (fun k_ hk => (.inl hk)))
 have HK := Aside0.mk (Kept.refl w (fun k_ => P0_ k_))
 have HW0 := Aside0.mk hB.size
 have HB := Aside0.mk hB
 clear hB
 have H : (laws_markRowS.l0 k l0 a1 0) = some (r1, r2) := h
 clear h
 have H' := Aside0.mk H
 clear H
 go_enter Try.func31, Try.ntmps31
 go_wp2
 go_loopg [1, 5] k (fun kq v1 v5 w' => ∃ (x0_1 : List (S114)) (x1_1 : Int) (x5_1 : Int), v1 = .int .i64 x1_1 ∧ v5 = .int .i64 x5_1 ∧ Aside0 (laws_markRowS.l0 kq x0_1 x1_1 x5_1 = some (r1, r2)) ∧ Aside0 (kq ≤ k) ∧ Aside0 (Kd.R k114 114 w' w0.heap.size (fun k_ => (P0_ k_ ∨ w.heap.size ≤ k_)) u9000_ x0_1) ∧ Aside0 (Kept w w' (fun k_ => P0_ k_)) ∧ Aside0 (Below w0.heap.size w0 w'))
 case atStart => exact ⟨(l0), (a1), (0), rfl, rfl, H', ⟨Nat.le_refl _⟩, ⟨HO0.out⟩, ⟨HK.out⟩, ⟨HB.out⟩⟩
 case round =>
  clear H'
  obtain ⟨x0_1, x1_1, x5_1, rfl, rfl, HA, HK1, HO_0, HK, HB⟩ := hrel
  cases gk with
  | zero => exact absurd HA.out (by simp [laws_markRowS.l0])
  | succ k1 =>
   have H := HA.out
   clear HA
   simp only [laws_markRowS.l0] at H
   by_cases c3 : x5_1 < (x0_1.length : Int)
   ·rw [if_pos c3] at H
    have c3b0 : decide (x5_1 < (x0_1.length : Int)) = true := decide_eq_true c3
    clear c3
    by_cases c4 : 0 ≤ x5_1
    ·rw [if_pos c4] at H
     have c4b0 : decide (0 ≤ x5_1) = true := decide_eq_true c4
     clear c4
     obtain ⟨y322, hy322, H⟩ := bindO_ H
     have Ny322 := Aside0.mk hy322
     clear hy322
     obtain ⟨y323, hy323, H⟩ := bindO_ H
     have Ny323 := Aside0.mk hy323
     clear hy323
     obtain ⟨y324, hy324⟩ : ∃ y_ : List (S114), y_ = (y323.set (x5_1 : Int).toNat (⟨(rd_T114 y323 x5_1).f0, (rd_T114 y323 x5_1).f1, wrap64 ((wrap64 (x1_1 + 1)) + 1)⟩ : S114)) := ⟨_, rfl⟩
     replace H : (laws_markRowS.l0 k1 y324 (wrap64 ((wrap64 ((wrap64 (x1_1 + 1)) + 1)) + 1)) (wrap64 (x5_1 + 1))) = some (r1, r2) := by (rw [hy324]; with_reducible exact H)
     have Ny324 := Aside0.mk hy324
     clear hy324
     have H' := Aside0.mk H
     clear H
     obtain ⟨Ao8, co8, eo8⟩ := Kd.R_slice HO_0.out
     subst eo8
     have p5 : 0 ≤ (x5_1 : Int) := of_decide_eq_true (by (with_reducible assumption))
     have q5 : (x5_1 : Int) < ((x0_1.length : Int) : Int) := of_decide_eq_true (by (with_reducible assumption))
     obtain ⟨go5, co5, eo5, gb5, gl5, cl5, HG5⟩ := Kd.R_form HO_0.out (by omega)
     (cases eo5)
     have GB5 := Aside0.mk gb5
     have GG5 := Aside0.mk HG5
     clear gb5 gl5 HG5
     have HMgo5 := Aside0.mk (show (P0_ go5 ∨ w.heap.size ≤ go5) from (HO_0.out.1 _ rfl))
     obtain ⟨ce5, hcl5, hM5, hcc5, hfr5⟩ := Kd.R_elem HO_0.out z114 (x5_1 : Int) p5 q5
     obtain rfl := k114_openM hM5
     have hx5_0 : wr.cell? ⟨go5, (x5_1 : Int).toNat * 3, none⟩ = some (.int .i64 ((rd_T114 x0_1 x5_1).f0)) := hcc5 0 _ rfl
     have hx5_1 : wr.cell? ⟨go5, (x5_1 : Int).toNat * 3 + 1, none⟩ = some (.int .i64 ((rd_T114 x0_1 x5_1).f1)) := hcc5 1 _ rfl
     have hx5_2 : wr.cell? ⟨go5, (x5_1 : Int).toNat * 3 + 2, none⟩ = some (.int .i64 ((rd_T114 x0_1 x5_1).f2)) := hcc5 2 _ rfl
     have hf5_0 : wr.frozen? ⟨go5, (x5_1 : Int).toNat * 3, none⟩ = false := hfr5 0
     have hf5_1 : wr.frozen? ⟨go5, (x5_1 : Int).toNat * 3 + 1, none⟩ = false := hfr5 1
     have hf5_2 : wr.frozen? ⟨go5, (x5_1 : Int).toNat * 3 + 2, none⟩ = false := hfr5 2
     clear hcl5 hcc5 hfr5 hM5
     replace p5 := eq_true p5
     replace q5 := eq_true q5
     have HX9 := Aside0.mk (show Kd.R k114 114 wr w0.heap.size (fun k_ => (P0_ k_ ∨ w.heap.size ≤ k_)) (.slice (some ⟨go5, 0, none⟩) x0_1.length co8) x0_1 from HO_0.out)
     obtain ⟨ce9, hcl9, hM9, hcc9, hfr9⟩ := Kd.R_elem HX9.out z114 (x5_1 : Int) (of_decide_eq_true (by (with_reducible assumption))) (by have h_ : (x5_1 : Int) < ((x0_1.length : Int) : Int) := of_decide_eq_true (by (with_reducible assumption)); exact h_)
     obtain rfl := k114_openM hM9
     have HP9 := Kd.R_seg HX9.out (x5_1 : Int) (of_decide_eq_true (by (with_reducible assumption))) (by have h_ : (x5_1 : Int) < ((x0_1.length : Int) : Int) := of_decide_eq_true (by (with_reducible assumption)); exact h_) (seg := [.int .i64 x1_1]) (j := 0) hcl9 hcc9 (show 1 ≤ 3 from by decide) (x' := (⟨x1_1, (rd_T114 x0_1 x5_1).f1, (rd_T114 x0_1 x5_1).f2⟩ : S114)) (k114_mkM _ _ _ (⟨x1_1, (rd_T114 x0_1 x5_1).f1, (rd_T114 x0_1 x5_1).f2⟩ : S114)) (fun _ hk => hk)
     have hx9_0 := hcc9 0 _ rfl
     (try simp only [show (k114).sz = 3 from rfl, Nat.mul_one, Nat.add_zero] at hx9_0)
     have hf9_0 := hfr9 0
     (try simp only [show (k114).sz = 3 from rfl, Nat.mul_one, Nat.add_zero] at hf9_0)
     clear hcl9 hcc9 hfr9 hM9
     go_wp2_with (first | ((with_reducible refine gate_store (t := 3) (p := 16) rfl ?_); refine store_event (t := 3) (p := 16) (v := ?vo_w10) (w1 := (wr.setCell ⟨go5, (x5_1 : Int).toNat * 3, none⟩ (.int .i64 x1_1))) ?hg ?ho ?hn ?hr ?_; (case ho => rfl); (case hg => rfl); (case hn => rfl); (case hr => (go_simp; done)); intro w10 hw; have hg : wr.grownBy w10 (some go5) := (by rw [hw]; exact HP9.2); have hp_ : Kd.R k114 114 w10 w0.heap.size (fun k_ => (P0_ k_ ∨ w.heap.size ≤ k_)) (.slice (some ⟨go5, 0, none⟩) x0_1.length co8) y322 := (by rw [hw, Ny322.out]; exact HP9.1); clear HP9; have n0_ := Aside0.mk (hp_); have n1_ := Aside0.mk (by rw [hw]; exact below_set HB.out GB5.out : Below w0.heap.size w0 w10); have n2_ := Aside0.mk (Kept.of_grown (S := (fun k_ => P0_ k_)) hg HK.out (fun k_ e_ => (HO_0.out.1 k_ e_))); clear HO_0; clear HB; clear HK; have HO_0 := n0_; have HB := n1_; have HK := n2_; clear n0_ n1_ n2_; clear hg hw hp_; have p6 : 0 ≤ (x5_1 : Int) := of_decide_eq_true (by (with_reducible assumption)); have q6 : (x5_1 : Int) < ((x0_1.length : Int) : Int) := of_decide_eq_true (by (with_reducible assumption)); obtain ⟨ce6, hcl6, hM6, hcc6, hfr6⟩ := Kd.R_elem HO_0.out z114 (x5_1 : Int) p6 q6; obtain rfl := k114_openM hM6; have hx6_0 : w10.cell? ⟨go5, (x5_1 : Int).toNat * 3, none⟩ = some (.int .i64 ((rd_T114 y322 x5_1).f0)) := hcc6 0 _ rfl; have hx6_1 : w10.cell? ⟨go5, (x5_1 : Int).toNat * 3 + 1, none⟩ = some (.int .i64 ((rd_T114 y322 x5_1).f1)) := hcc6 1 _ rfl; have hx6_2 : w10.cell? ⟨go5, (x5_1 : Int).toNat * 3 + 2, none⟩ = some (.int .i64 ((rd_T114 y322 x5_1).f2)) := hcc6 2 _ rfl; have hf6_0 : w10.frozen? ⟨go5, (x5_1 : Int).toNat * 3, none⟩ = false := hfr6 0; have hf6_1 : w10.frozen? ⟨go5, (x5_1 : Int).toNat * 3 + 1, none⟩ = false := hfr6 1; have hf6_2 : w10.frozen? ⟨go5, (x5_1 : Int).toNat * 3 + 2, none⟩ = false := hfr6 2; clear hcl6 hcc6 hfr6 hM6; replace p6 := eq_true p6; replace q6 := eq_true q6; have HX11 := Aside0.mk (show Kd.R k114 114 w10 w0.heap.size (fun k_ => (P0_ k_ ∨ w.heap.size ≤ k_)) (.slice (some ⟨go5, 0, none⟩) x0_1.length co8) y322 from HO_0.out); obtain ⟨ce11, hcl11, hM11, hcc11, hfr11⟩ := Kd.R_elem HX11.out z114 (x5_1 : Int) (of_decide_eq_true (by (with_reducible assumption))) (by have h_ : (x5_1 : Int) < ((x0_1.length : Int) : Int) := of_decide_eq_true (by (with_reducible assumption)); exact h_); obtain rfl := k114_openM hM11; have HP11 := Kd.R_seg HX11.out (x5_1 : Int) (of_decide_eq_true (by (with_reducible assumption))) (by have h_ : (x5_1 : Int) < ((x0_1.length : Int) : Int) := of_decide_eq_true (by (with_reducible assumption)); exact h_) (seg := [.int .i64 (wrap64 (x1_1 + 1))]) (j := 1) hcl11 hcc11 (show 2 ≤ 3 from by decide) (x' := (⟨(rd_T114 y322 x5_1).f0, wrap64 (x1_1 + 1), (rd_T114 y322 x5_1).f2⟩ : S114)) (k114_mkM _ _ _ (⟨(rd_T114 y322 x5_1).f0, wrap64 (x1_1 + 1), (rd_T114 y322 x5_1).f2⟩ : S114)) (fun _ hk => hk); have hx11_1 := hcc11 1 _ rfl; (try simp only [show (k114).sz = 3 from rfl, Nat.mul_one, Nat.add_zero] at hx11_1); have hf11_1 := hfr11 1; (try simp only [show (k114).sz = 3 from rfl, Nat.mul_one, Nat.add_zero] at hf11_1); clear hcl11 hcc11 hfr11 hM11) | ((with_reducible refine gate_store (t := 3) (p := 23) rfl ?_); refine store_event (t := 3) (p := 23) (v := ?vo_w12) (w1 := (w10.setCell ⟨go5, (x5_1 : Int).toNat * 3 + 1, none⟩ (.int .i64 (wrap64 (x1_1 + 1))))) ?hg ?ho ?hn ?hr ?_; (case ho => rfl); (case hg => rfl); (case hn => rfl); (case hr => (go_simp; done)); intro w12 hw; have hg : w10.grownBy w12 (some go5) := (by rw [hw]; exact HP11.2); have hp_ : Kd.R k114 114 w12 w0.heap.size (fun k_ => (P0_ k_ ∨ w.heap.size ≤ k_)) (.slice (some ⟨go5, 0, none⟩) x0_1.length co8) y323 := (by rw [hw, Ny323.out]; exact HP11.1); clear HP11; have n0_ := Aside0.mk (hp_); have n1_ := Aside0.mk (by rw [hw]; exact below_set HB.out GB5.out : Below w0.heap.size w0 w12); have n2_ := Aside0.mk (Kept.of_grown (S := (fun k_ => P0_ k_)) hg HK.out (fun k_ e_ => (HO_0.out.1 k_ e_))); clear HO_0; clear HB; clear HK; have HO_0 := n0_; have HB := n1_; have HK := n2_; clear n0_ n1_ n2_; clear hg hw hp_; have p7 : 0 ≤ (x5_1 : Int) := of_decide_eq_true (by (with_reducible assumption)); have q7 : (x5_1 : Int) < ((x0_1.length : Int) : Int) := of_decide_eq_true (by (with_reducible assumption)); obtain ⟨ce7, hcl7, hM7, hcc7, hfr7⟩ := Kd.R_elem HO_0.out z114 (x5_1 : Int) p7 q7; obtain rfl := k114_openM hM7; have hx7_0 : w12.cell? ⟨go5, (x5_1 : Int).toNat * 3, none⟩ = some (.int .i64 ((rd_T114 y323 x5_1).f0)) := hcc7 0 _ rfl; have hx7_1 : w12.cell? ⟨go5, (x5_1 : Int).toNat * 3 + 1, none⟩ = some (.int .i64 ((rd_T114 y323 x5_1).f1)) := hcc7 1 _ rfl; have hx7_2 : w12.cell? ⟨go5, (x5_1 : Int).toNat * 3 + 2, none⟩ = some (.int .i64 ((rd_T114 y323 x5_1).f2)) := hcc7 2 _ rfl; have hf7_0 : w12.frozen? ⟨go5, (x5_1 : Int).toNat * 3, none⟩ = false := hfr7 0; have hf7_1 : w12.frozen? ⟨go5, (x5_1 : Int).toNat * 3 + 1, none⟩ = false := hfr7 1; have hf7_2 : w12.frozen? ⟨go5, (x5_1 : Int).toNat * 3 + 2, none⟩ = false := hfr7 2; clear hcl7 hcc7 hfr7 hM7; replace p7 := eq_true p7; replace q7 := eq_true q7; have HX13 := Aside0.mk (show Kd.R k114 114 w12 w0.heap.size (fun k_ => (P0_ k_ ∨ w.heap.size ≤ k_)) (.slice (some ⟨go5, 0, none⟩) x0_1.length co8) y323 from HO_0.out); obtain ⟨ce13, hcl13, hM13, hcc13, hfr13⟩ := Kd.R_elem HX13.out z114 (x5_1 : Int) (of_decide_eq_true (by (with_reducible assumption))) (by have h_ : (x5_1 : Int) < ((x0_1.length : Int) : Int) := of_decide_eq_true (by (with_reducible assumption)); exact h_); obtain rfl := k114_openM hM13; have HP13 := Kd.R_seg HX13.out (x5_1 : Int) (of_decide_eq_true (by (with_reducible assumption))) (by have h_ : (x5_1 : Int) < ((x0_1.length : Int) : Int) := of_decide_eq_true (by (with_reducible assumption)); exact h_) (seg := [.int .i64 (wrap64 ((wrap64 (x1_1 + 1)) + 1))]) (j := 2) hcl13 hcc13 (show 3 ≤ 3 from by decide) (x' := (⟨(rd_T114 y323 x5_1).f0, (rd_T114 y323 x5_1).f1, wrap64 ((wrap64 (x1_1 + 1)) + 1)⟩ : S114)) (k114_mkM _ _ _ (⟨(rd_T114 y323 x5_1).f0, (rd_T114 y323 x5_1).f1, wrap64 ((wrap64 (x1_1 + 1)) + 1)⟩ : S114)) (fun _ hk => hk); have hx13_2 := hcc13 2 _ rfl; (try simp only [show (k114).sz = 3 from rfl, Nat.mul_one, Nat.add_zero] at hx13_2); have hf13_2 := hfr13 2; (try simp only [show (k114).sz = 3 from rfl, Nat.mul_one, Nat.add_zero] at hf13_2); clear hcl13 hcc13 hfr13 hM13) | ((with_reducible refine gate_store (t := 3) (p := 30) rfl ?_); refine store_event (t := 3) (p := 30) (v := ?vo_w14) (w1 := (w12.setCell ⟨go5, (x5_1 : Int).toNat * 3 + 2, none⟩ (.int .i64 (wrap64 ((wrap64 (x1_1 + 1)) + 1))))) ?hg ?ho ?hn ?hr ?_; (case ho => rfl); (case hg => rfl); (case hn => rfl); (case hr => (go_simp; done)); intro w14 hw; have hg : w12.grownBy w14 (some go5) := (by rw [hw]; exact HP13.2); have hp_ : Kd.R k114 114 w14 w0.heap.size (fun k_ => (P0_ k_ ∨ w.heap.size ≤ k_)) (.slice (some ⟨go5, 0, none⟩) x0_1.length co8) y324 := (by rw [hw, Ny324.out]; exact HP13.1); clear HP13; have n0_ := Aside0.mk (hp_); have n1_ := Aside0.mk (by rw [hw]; exact below_set HB.out GB5.out : Below w0.heap.size w0 w14); have n2_ := Aside0.mk (Kept.of_grown (S := (fun k_ => P0_ k_)) hg HK.out (fun k_ e_ => (HO_0.out.1 k_ e_))); clear HO_0; clear HB; clear HK; have HO_0 := n0_; have HB := n1_; have HK := n2_; clear n0_ n1_ n2_; clear hg hw hp_))
     go_roundg k1
     case measure => have := HK1.out; omega
     case rel => exact ⟨(y324), (wrap64 ((wrap64 ((wrap64 (x1_1 + 1)) + 1)) + 1)), (wrap64 (x5_1 + 1)), rfl, rfl, H', ⟨by have := HK1.out; omega⟩, ⟨HO_0.out⟩, ⟨HK.out⟩, ⟨HB.out⟩⟩
    ·rw [if_neg c4] at H
     exact absurd H (by simp)
   ·rw [if_neg c3] at H
    have c3b0 : decide (x5_1 < (x0_1.length : Int)) = false := decide_eq_false c3
    clear c3
    simp only [Option.some.injEq, Prod.mk.injEq] at H
    obtain ⟨rfl, rfl⟩ := H
    obtain ⟨Ao15, co15, eo15⟩ := Kd.R_slice HO_0.out
    subst eo15
    go_wp2
    go_ret
    exact ⟨rfl, HO_0.out, HB.out, HK.out⟩

end Go.Proofs.Ytphkghnppcfdpaa.P
namespace Go.Proofs.Ytphkghnppcfdpaa.P
open Go.RowKit Go.Proofs.YtphkghnppcfdpaaW.PrintWords Go.Proofs.YtphkghnppcfdpaaW.PrintLast Go.Proofs.YtphkghnppcfdpaaW.PrintMore
attribute [local go_sem] max2_int min2_int max_two min_two max_three min_three max_four min_four   -- for this text's walks alone
set_option linter.unusedVariables false
set_option linter.unusedSimpArgs false

/-! ### laws_markGroupTaskS: function 90 -/
def laws_markGroupTaskS.l0 : Nat → List (S79) → Int → Int → Option (Int × (List (S79)))
 | 0, _, _, _ => none
 | k + 1, x0, x1, x5 => if x5 < (x0.length : Int) then (if 0 ≤ x5 then ((laws_markRowS.f k (rd_T79 x0 x5).f0 x1).bind fun bt => ((some (x0.set (x5 : Int).toNat (⟨bt.2, (rd_T79 x0 x5).f1⟩ : S79) : List (S79))).bind fun y => (laws_markGroupTaskS.l0 k (y.set (x5 : Int).toNat (⟨(rd_T79 y x5).f0, bt.1⟩ : S79)) (wrap64 (bt.1 + 1)) (wrap64 (x5 + 1))))) else (none)) else (some (x1, x0))
def laws_markGroupTaskS.f (k : Nat) (l0 : List (S79)) (a1 : Int) : Option (Int × (List (S79))) := laws_markGroupTaskS.l0 k l0 a1 0
theorem laws_markGroupTaskS.mono_l : ∀ k, (∀ y0 y1 y2, LeO (laws_markGroupTaskS.l0 k y0 y1 y2) (laws_markGroupTaskS.l0 (k + 1) y0 y1 y2))
 | 0 => fun _ _ _ r h => by simp [laws_markGroupTaskS.l0] at h
 | k + 1 => by
  have ih0 := laws_markGroupTaskS.mono_l k
  ·intro y0 y1 y2
   unfold laws_markGroupTaskS.l0
   repeat' first
   | (with_reducible exact ih0 _ _ _)
   | (with_reducible exact laws_markRowS.mono _ _ _)
   | (with_reducible exact LeO.refl _)
   | (with_reducible refine LeO.ite ?_ ?_)
   | (with_reducible refine LeO.bind ?_ (fun _ => ?_))
theorem laws_markGroupTaskS.mono : ∀ a0 a1 k, LeO (laws_markGroupTaskS.f k a0 a1) (laws_markGroupTaskS.f (k + 1) a0 a1) := by
 intro a0 a1 k
 exact laws_markGroupTaskS.mono_l k _ _ _
set_option maxHeartbeats 8000000 in
set_option maxRecDepth 100000 in
theorem laws_markGroupTaskS.calls (k : Nat) (P0_ : Nat → Prop) (u9000_ : Value) (l0 : List (S79)) (a1 : Int) (r1 : Int) (r2 : List (S79)) (w0 w : World) (hB : Below w0.heap.size w0 w) (ho0 : Kd.S k79 79 w w0.heap.size P0_ u9000_ l0) (h : laws_markGroupTaskS.f k l0 a1 = some (r1, r2)) :
  Calls Try.prog 90 #[u9000_, .int .i64 a1] w fun e w' => e = .returned (.int .i64 r1) ∧ Kd.S k79 79 w' w0.heap.size (fun k_ => (P0_ k_ ∨ w.heap.size ≤ k_)) u9000_ r2 ∧ Below w0.heap.size w0 w' ∧ Kept w w' (fun k_ => P0_ k_) := by
 have HO0 := Aside0.mk (show Kd.S k79 79 w w0.heap.size (fun k_ => (P0_ k_ ∨ w.heap.size ≤ k_)) u9000_ l0 from Kd.S_mono ho0 (fun k_ hk => (.inl hk)))
 have HK := Aside0.mk (Kept.refl w (fun k_ => P0_ k_))
 have HW0 := Aside0.mk hB.size
 have HB := Aside0.mk hB
 clear hB
 have H : (laws_markGroupTaskS.l0 k l0 a1 0) = some (r1, r2) := h
 clear h
 have H' := Aside0.mk H
 clear H
 go_enter Try.func90, Try.ntmps90
 go_wp2
 go_loopg [1, 5] k (fun kq v1 v5 w' => ∃ (x0_1 : List (S79)) (x1_1 : Int) (x5_1 : Int), v1 = .int .i64 x1_1 ∧ v5 = .int .i64 x5_1 ∧ Aside0 (laws_markGroupTaskS.l0 kq x0_1 x1_1 x5_1 = some (r1, r2)) ∧ Aside0 (kq ≤ k) ∧ Aside0 (Kd.S k79 79 w' w0.heap.size (fun k_ => (P0_ k_ ∨ w.heap.size ≤ k_)) u9000_ x0_1) ∧ Aside0 (Kept w w' (fun k_ => P0_ k_)) ∧ Aside0 (Below w0.heap.size w0 w'))
 case atStart => exact ⟨(l0), (a1), (0), rfl, rfl, H', ⟨Nat.le_refl _⟩, ⟨HO0.out⟩, ⟨HK.out⟩, ⟨HB.out⟩⟩
 case round =>
  clear H'
  obtain ⟨x0_1, x1_1, x5_1, rfl, rfl, HA, HK1, HO_0, HK, HB⟩ := hrel
  cases gk with
  | zero => exact absurd HA.out (by simp [laws_markGroupTaskS.l0])
  | succ k1 =>
   have H := HA.out
   clear HA
   simp only [laws_markGroupTaskS.l0] at H
   by_cases c3 : x5_1 < (x0_1.length : Int)
   ·rw [if_pos c3] at H
    have c3b0 : decide (x5_1 < (x0_1.length : Int)) = true := decide_eq_true c3
    clear c3
    by_cases c4 : 0 ≤ x5_1
    ·rw [if_pos c4] at H
     have c4b0 : decide (0 ≤ x5_1) = true := decide_eq_true c4
     clear c4
     obtain ⟨⟨t1, t2⟩, A3, H⟩ := Option.bind_eq_some_iff.mp H
     replace A3 := Aside0.mk A3
     obtain ⟨y, hy⟩ : ∃ y_ : List (S79), y_ = (x0_1.set (x5_1 : Int).toNat (⟨t2, (rd_T79 x0_1 x5_1).f1⟩ : S79)) := ⟨_, rfl⟩
     obtain ⟨y2, hy2⟩ : ∃ y_ : List (S79), y_ = (y.set (x5_1 : Int).toNat (⟨(rd_T79 y x5_1).f0, t1⟩ : S79)) := ⟨_, rfl⟩
     replace H : (laws_markGroupTaskS.l0 k1 y2 (wrap64 (t1 + 1)) (wrap64 (x5_1 + 1))) = some (r1, r2) := by rw [hy2, hy]; exact H
     have Ny := Aside0.mk hy
     have Ny2 := Aside0.mk hy2
     clear hy hy2
     have H' := Aside0.mk H
     clear H
     obtain ⟨Ao8, co8, eo8⟩ := Kd.S_slice HO_0.out
     subst eo8
     have p5 : 0 ≤ (x5_1 : Int) := of_decide_eq_true (by (with_reducible assumption))
     have q5 : (x5_1 : Int) < ((x0_1.length : Int) : Int) := of_decide_eq_true (by (with_reducible assumption))
     obtain ⟨go5, co5, eo5, gb5, gl5, cl5, HG5⟩ := Kd.S_form HO_0.out (by omega)
     (cases eo5)
     have GB5 := Aside0.mk gb5
     have GG5 := Aside0.mk HG5
     clear gb5 gl5 HG5
     have HMgo5 := Aside0.mk (show (P0_ go5 ∨ w.heap.size ≤ go5) from ((Kd.S_R HO_0.out).1 _ rfl))
     obtain ⟨oki5, ce5, hcl5, hM5, hcc5, hfr5, hoki5, hH5⟩ := Kd.S_elem HO_0.out z79 (x5_1 : Int) p5 q5
     obtain ⟨ve5, rfl, ge5⟩ := k79_openM hM5
     replace ge5 : Kd.R k114 114 wr w0.heap.size oki5 ve5 (rd_T79 x0_1 x5_1).f0 := ge5
     obtain ⟨A5, c5, e5⟩ := Kd.R_slice ge5
     subst e5
     have hx5_0 : wr.cell? ⟨go5, (x5_1 : Int).toNat * 2, none⟩ = some (.slice A5 (rd_T79 x0_1 x5_1).f0.length c5) := hcc5 0 _ rfl
     have hx5_1 : wr.cell? ⟨go5, (x5_1 : Int).toNat * 2 + 1, none⟩ = some (.int .i64 ((rd_T79 x0_1 x5_1).f1)) := hcc5 1 _ rfl
     have hf5_0 : wr.frozen? ⟨go5, (x5_1 : Int).toNat * 2, none⟩ = false := hfr5 0
     have hf5_1 : wr.frozen? ⟨go5, (x5_1 : Int).toNat * 2 + 1, none⟩ = false := hfr5 1
     clear hcl5 hcc5 hfr5 hM5
     replace p5 := eq_true p5
     replace q5 := eq_true q5
     go_wp2_with (first | ((with_reducible refine gate_callee (f := 31) rfl ?_); refine goesL_ (some 18) rfl rfl Try.func31 (by kernel_rfl) rfl #[.slice A5 (rd_T79 x0_1 x5_1).f0.length c5, .int .i64 x1_1] rfl (by (try simp only [List.map_toArray, List.map_cons, List.map_nil]); rfl) ?_; (with_reducible refine (laws_markRowS.calls k1 oki5 (.slice A5 (rd_T79 x0_1 x5_1).f0.length c5) (rd_T79 x0_1 x5_1).f0 x1_1 t1 t2 w0 _ ?side1 ?side2 A3.out).mono ?_); (case side1 => repeat (with_reducible exact HB.out)); (case side2 => exact ge5); rintro e w11 ⟨rfl, hy0, hb, hkp⟩; refine ⟨_, rfl, ?_⟩; have hkp' : Kept wr w11 oki5 := hkp; have hwk : w.heap.size ≤ wr.heap.size := HK.out.1; have hy1 : Kd.R k114 114 w11 w0.heap.size (fun k_ => oki5 k_ ∨ (fun k_ => (P0_ k_ ∨ w.heap.size ≤ k_)) k_ ∧ wr.heap.size ≤ k_) (.slice A5 (rd_T79 x0_1 x5_1).f0.length c5) t2 := Kd.R_mono hy0 (fun k_ hk_ => hk_.elim .inl (fun h_ => .inr ⟨.inr (Nat.le_trans hwk h_), h_⟩)); have hS := Kd.H_back (Kd.H_step (w1 := w11) (Kd.H_widen hH5) (fun k_ _ hn hlt => hkp'.2 k_ hlt (fun ho => hn (.inl ho)))) (x' := (⟨t2, (rd_T79 x0_1 x5_1).f1⟩ : S79)) (k79_mkM _ _ _ (⟨t2, (rd_T79 x0_1 x5_1).f1⟩ : S79) hy1) (fun _ h_ => h_); have n0_ := Aside0.mk hS; have n1_ := Aside0.mk (hb : Below w0.heap.size w0 w11); have n2_ := Aside0.mk (Kept.then_ (S := (fun k_ => P0_ k_)) HK.out hkp' (fun k_ hk_ => (hoki5 k_ hk_).1)); clear HO_0; clear HB; clear HK; have HO_0 := n0_; have HB := n1_; have HK := n2_; clear n0_ n1_ n2_; clear hS hy1 hy0 hkp hb; clear hH5 hoki5; rw [← Ny.out] at HO_0; have hlen : y.length = x0_1.length := (by rw [Ny.out, List.length_set]); have HX12 := Aside0.mk (show Kd.S k79 79 w11 w0.heap.size (fun k_ => (fun k_ => (P0_ k_ ∨ w.heap.size ≤ k_)) k_ ∧ ¬ ((fun _ => False) : Nat → Prop) k_) (.slice (some ⟨go5, 0, none⟩) x0_1.length co8) y from Kd.S_mono HO_0.out (fun k_ hk => ⟨hk, fun e_ => e_⟩)); obtain ⟨oki12, ce12, hcl12, hM12, hcc12, hfr12, hoki12, hH12⟩ := Kd.S_elem HX12.out z79 (x5_1 : Int) (of_decide_eq_true (by (with_reducible assumption))) (of_decide_eq_true (by (with_reducible assumption))); obtain ⟨ve12_0, rfl, ge12_0⟩ := k79_openM hM12; have HP12 := Kd.S_seg hH12 (of_decide_eq_true (by (with_reducible assumption))) (of_decide_eq_true (by (with_reducible assumption))) (seg := [.int .i64 t1]) (j := 1) (show 2 ≤ 2 from by decide) (x' := (⟨(rd_T79 y x5_1).f0, t1⟩ : S79)) (k79_mkM _ _ _ (⟨(rd_T79 y x5_1).f0, t1⟩ : S79) ge12_0) (fun _ hk => .inl hk) (fun k_ hk_ => hk_.elim); have hx12_0 := hcc12 0 _ rfl; (try simp only [show (k79).sz = 2 from rfl, Nat.mul_one, Nat.add_zero] at hx12_0); have hf12_0 := hfr12 0; (try simp only [show (k79).sz = 2 from rfl, Nat.mul_one, Nat.add_zero] at hf12_0); have hx12_1 := hcc12 1 _ rfl; (try simp only [show (k79).sz = 2 from rfl, Nat.mul_one, Nat.add_zero] at hx12_1); have hf12_1 := hfr12 1; (try simp only [show (k79).sz = 2 from rfl, Nat.mul_one, Nat.add_zero] at hf12_1); clear hcl12 hcc12 hfr12 hM12 hoki12 hH12) | ((with_reducible refine gate_store (t := 3) (p := 23) rfl ?_); refine store_event (t := 3) (p := 23) (v := ?vo_w13) (w1 := (w11.setCell ⟨go5, (x5_1 : Int).toNat * 2 + 1, none⟩ (.int .i64 t1))) ?hg ?ho ?hn ?hr ?_; (case ho => rfl); (case hg => rfl); (case hn => rfl); (case hr => (go_simp; done)); intro w13 hw; have hg : w11.grownBy w13 (some go5) := (by rw [hw]; exact HP12.2); have hp_ : Kd.S k79 79 w13 w0.heap.size (fun k_ => (P0_ k_ ∨ w.heap.size ≤ k_)) (.slice (some ⟨go5, 0, none⟩) x0_1.length co8) y2 := (by rw [hw, Ny2.out]; exact HP12.1); clear HP12; have n0_ := Aside0.mk (hp_); have n1_ := Aside0.mk (by rw [hw]; exact below_set HB.out GB5.out : Below w0.heap.size w0 w13); have n2_ := Aside0.mk (Kept.of_grown (S := (fun k_ => P0_ k_)) hg HK.out (fun k_ e_ => by cases e_; exact HMgo5.out)); clear HO_0; clear HB; clear HK; have HO_0 := n0_; have HB := n1_; have HK := n2_; clear n0_ n1_ n2_; clear hg hw hp_))
     go_roundg k1
     case measure => have := HK1.out; omega
     case rel => exact ⟨(y2), (wrap64 (t1 + 1)), (wrap64 (x5_1 + 1)), rfl, rfl, H', ⟨by have := HK1.out; omega⟩, ⟨by have e_ : y2.length = x0_1.length := (by rw [Ny2.out, List.length_set, Ny.out, List.length_set]); exact HO_0.out⟩, ⟨HK.out⟩, ⟨HB.out⟩⟩
    ·rw [if_neg c4] at H
     exact absurd H (by simp)
   ·rw [if_neg c3] at H
    have c3b0 : decide (x5_1 < (x0_1.length : Int)) = false := decide_eq_false c3
    clear c3
    simp only [Option.some.injEq, Prod.mk.injEq] at H
    obtain ⟨rfl, rfl⟩ := H
    obtain ⟨Ao15, co15, eo15⟩ := Kd.S_slice HO_0.out
    subst eo15
    go_wp2
    go_ret
    exact ⟨rfl, HO_0.out, HB.out, HK.out⟩

end Go.Proofs.Ytphkghnppcfdpaa.P
namespace Go.Proofs.Ytphkghnppcfdpaa.P
open Go.RowKit Go.Proofs.YtphkghnppcfdpaaW.PrintWords Go.Proofs.YtphkghnppcfdpaaW.PrintLast Go.Proofs.YtphkghnppcfdpaaW.PrintMore
attribute [local go_sem] max2_int min2_int max_two min_two max_three min_three max_four min_four   -- for this text's walks alone
set_option linter.unusedVariables false
set_option linter.unusedSimpArgs false

/-! ### laws_markAggregator: function 15 -/
def laws_markAggregator.f (k : Nat) (l0 : List (S79)) (a0_1 : Int) (a0_2 : Bool) (a1 : Int) : Option (Int × (List (S79))) := laws_markGroupTaskS.f k l0 a1
theorem laws_markAggregator.mono : ∀ a0 a1 a2 a3 k, LeO (laws_markAggregator.f k a0 a1 a2 a3) (laws_markAggregator.f (k + 1) a0 a1 a2 a3) := by
 intro a0 a1 a2 a3 k
 exact laws_markGroupTaskS.mono _ _ _
set_option maxHeartbeats 8000000 in
set_option maxRecDepth 100000 in
theorem laws_markAggregator.calls (k : Nat) (P0_ : Nat → Prop) (u9000_ : Value) (l0 : List (S79)) (a0_1 : Int) (a0_2 : Bool) (a1 : Int) (r1 : Int) (r2 : List (S79)) (w0 w : World) (hB : Below w0.heap.size w0 w) (ho0 : Kd.S k79 79 w w0.heap.size P0_ u9000_ l0) (h : laws_markAggregator.f k l0 a0_1 a0_2 a1 = some (r1, r2)) :
  Calls Try.prog 15 #[.agg #[u9000_, .int .i64 a0_1, .bool a0_2], .int .i64 a1] w fun e w' => e = .returned (.int .i64 r1) ∧ Kd.S k79 79 w' w0.heap.size (fun k_ => (P0_ k_ ∨ w.heap.size ≤ k_)) u9000_ r2 ∧ Below w0.heap.size w0 w' ∧ Kept w w' (fun k_ => P0_ k_) := by
 have hu24 := Try.underlying24
 have HO0 := Aside0.mk ho0
 have HB := Aside0.mk hB
 have A1 := Aside0.mk (show laws_markGroupTaskS.f k l0 a1 = some (r1, r2) from h)
 clear hB ho0 h
 obtain ⟨Ao, co, eo⟩ := Kd.S_slice HO0.out
 subst eo
 go_enter Try.func15, Try.ntmps15
 go_wp2_with (first | ((with_reducible refine gate_dst (N := 2) rfl ?_); refine box_event ?hg (N := 2) ?hd (cs := #[.slice Ao l0.length co, .int .i64 a0_1, .bool a0_2]) (t := 24) ?hr ?_; (case hd => rfl); (case hg => rfl); (case hr => (go_simp; done)); intro gb1 hg w9 hbox hb; have n0_ := Aside0.mk (Kd.S_below HO0.out hb); have n1_ := Aside0.mk (below_step HB.out hb); have n2_ : Aside0 (Below w.heap.size w w9) := ⟨hb⟩; clear HO0; clear HB; have HO0 := n0_; have HB := n1_; have HL := n2_; clear n0_ n1_ n2_; have BK1 := Aside0.mk hbox; clear hb hbox hg; have hcz_0 : w9.cell? ⟨gb1, 0, none⟩ = some (.slice Ao l0.length co) := (blk_cell BK1.out 0).trans rfl; have hfz_0 := blk_frozen BK1.out 0) | ((with_reducible refine gate_callee (f := 90) rfl ?_); refine goesL_ (some 8) rfl rfl Try.func90 (by kernel_rfl) rfl #[.slice Ao l0.length co, .int .i64 a1] rfl (by (try simp only [List.map_toArray, List.map_cons, List.map_nil]); rfl) ?_; (with_reducible refine (laws_markGroupTaskS.calls k P0_ (.slice Ao l0.length co) l0 a1 r1 r2 w0 _ ?side1 ?side2 A1.out).mono ?_); (case side1 => repeat (with_reducible exact HB.out)); (case side2 => exact HO0.out); rintro e w11 ⟨rfl, hy0, hb, hkp⟩; refine ⟨_, rfl, ?_⟩; have hL : w.heap.size ≤ w9.heap.size := HL.out.size; have n0_ := Aside0.mk (show Kd.S k79 79 w11 w0.heap.size (fun k_ => (P0_ k_ ∨ w.heap.size ≤ k_)) (.slice Ao l0.length co) r2 from Kd.S_mono hy0 (fun k_ hk_ => hk_.elim .inl (fun h_ => .inr (Nat.le_trans hL h_)))); have n1_ := Aside0.mk (hb : Below w0.heap.size w0 w11); have n2_ := Aside0.mk (Kept.then_ (S := P0_) (Kept.of_below HL.out P0_) hkp (fun _ h_ => .inl h_)); clear HO0; clear HB; have HO0 := n0_; have HB := n1_; have HK := n2_; clear n0_ n1_ n2_; clear hy0 hb hkp))
 go_ret
 exact ⟨rfl, HO0.out, HB.out, HK.out⟩

end Go.Proofs.Ytphkghnppcfdpaa.P
namespace Go.Proofs.Ytphkghnppcfdpaa.P
open Go.RowKit Go.Proofs.YtphkghnppcfdpaaW.PrintWords Go.Proofs.YtphkghnppcfdpaaW.PrintLast Go.Proofs.YtphkghnppcfdpaaW.PrintMore
attribute [local go_sem] max2_int min2_int max_two min_two max_three min_three max_four min_four   -- for this text's walks alone
set_option linter.unusedVariables false
set_option linter.unusedSimpArgs false

/-! ### laws_heldRowS: function 140 -/
def laws_heldRowS.l0 : Nat → List (S114) → Int → Int → Option (Int)
 | 0, _, _, _ => none
 | k + 1, x0, x1, x5 => if x5 < (x0.length : Int) then (if 0 ≤ x5 then (if ((rd_T114 x0 x5).f0) = x1 then (if ((rd_T114 x0 x5).f1) = (wrap64 (x1 + 1)) then (if ((rd_T114 x0 x5).f2) = (wrap64 ((wrap64 (x1 + 1)) + 1)) then (laws_heldRowS.l0 k x0 (wrap64 ((wrap64 ((wrap64 (x1 + 1)) + 1)) + 1)) (wrap64 (x5 + 1))) else (some (-1))) else (some (-1))) else (some (-1))) else (none)) else (some x1)
def laws_heldRowS.f (k : Nat) (l0 : List (S114)) (a1 : Int) : Option (Int) := laws_heldRowS.l0 k l0 a1 0
theorem laws_heldRowS.mono_l : ∀ k, (∀ y0 y1 y2, LeO (laws_heldRowS.l0 k y0 y1 y2) (laws_heldRowS.l0 (k + 1) y0 y1 y2))
 | 0 => fun _ _ _ r h => by simp [laws_heldRowS.l0] at h
 | k + 1 => by
  have ih0 := laws_heldRowS.mono_l k
  ·intro y0 y1 y2
   unfold laws_heldRowS.l0
   repeat' first
   | (with_reducible exact ih0 _ _ _)
   | (with_reducible exact LeO.refl _)
   | (with_reducible refine LeO.ite ?_ ?_)
theorem laws_heldRowS.mono : ∀ a0 a1 k, LeO (laws_heldRowS.f k a0 a1) (laws_heldRowS.f (k + 1) a0 a1) := by
 intro a0 a1 k
 have ih0 := laws_heldRowS.mono_l k
 unfold laws_heldRowS.f
 repeat' (with_reducible exact ih0 _ _ _)

set_option maxHeartbeats 8000000 in
set_option maxRecDepth 100000 in
theorem laws_heldRowS.calls (k : Nat) (A0 : Option Addr) (c0 : Nat) (l0 : List (S114)) (a1 : Int) (r : Int) (w : World) (hr0 : Kd.C k114 w A0 l0.length l0) (hc0 : l0.length ≤ c0) (h : laws_heldRowS.f k l0 a1 = some r) :
  Calls Try.prog 140 #[.slice A0 l0.length c0, .int .i64 a1] w fun e w' => e = .returned (.int .i64 r) ∧ Drawn0 w w' := by
 have HR0 := Aside0.mk hr0
 have HC0 := Aside0.mk hc0
 clear hr0 hc0
 have H : (laws_heldRowS.l0 k l0 a1 0) = some r := h
 clear h
 have H' := Aside0.mk H
 clear H
 go_enter Try.func140, Try.ntmps140
 go_wp2
 go_loopg [1, 5] k (fun kq v1 v5 w' => ∃ (x1_1 : Int) (x5_1 : Int), v1 = .int .i64 x1_1 ∧ v5 = .int .i64 x5_1 ∧ Aside0 (laws_heldRowS.l0 kq l0 x1_1 x5_1 = some r) ∧ Aside0 (kq ≤ k) ∧ Drawn0 w w')
 case atStart => exact ⟨(a1), (0), rfl, rfl, H', ⟨Nat.le_refl _⟩, by repeat (exact Drawn0.refl _)⟩
 case round =>
  clear H'
  obtain ⟨x1_1, x5_1, rfl, rfl, HA, HK1, ⟨m1, rfl⟩⟩ := hrel
  cases gk with
  | zero => exact absurd HA.out (by simp [laws_heldRowS.l0])
  | succ k1 =>
   have H := HA.out
   clear HA
   simp only [laws_heldRowS.l0] at H
   by_cases c3 : x5_1 < (l0.length : Int)
   ·rw [if_pos c3] at H
    have c3b0 : decide (x5_1 < (l0.length : Int)) = true := decide_eq_true c3
    clear c3
    by_cases c4 : 0 ≤ x5_1
    ·rw [if_pos c4] at H
     have c4b0 : decide (0 ≤ x5_1) = true := decide_eq_true c4
     clear c4
     by_cases c5 : ((rd_T114 l0 x5_1).f0) = x1_1
     ·rw [if_pos c5] at H
      have c5b0 : (((rd_T114 l0 x5_1).f0) == x1_1) = true := beq_iff_eq.mpr c5
      have c5b1 : (((rd_T114 l0 x5_1).f0) != x1_1) = false := bne_eq_false_iff_eq.mpr c5
      clear c5
      by_cases c6 : ((rd_T114 l0 x5_1).f1) = (wrap64 (x1_1 + 1))
      ·rw [if_pos c6] at H
       have c6b0 : (((rd_T114 l0 x5_1).f1) == (wrap64 (x1_1 + 1))) = true := beq_iff_eq.mpr c6
       have c6b1 : (((rd_T114 l0 x5_1).f1) != (wrap64 (x1_1 + 1))) = false := bne_eq_false_iff_eq.mpr c6
       clear c6
       by_cases c7 : ((rd_T114 l0 x5_1).f2) = (wrap64 ((wrap64 (x1_1 + 1)) + 1))
       ·rw [if_pos c7] at H
        have c7b0 : (((rd_T114 l0 x5_1).f2) == (wrap64 ((wrap64 (x1_1 + 1)) + 1))) = true := beq_iff_eq.mpr c7
        have c7b1 : (((rd_T114 l0 x5_1).f2) != (wrap64 ((wrap64 (x1_1 + 1)) + 1))) = false := bne_eq_false_iff_eq.mpr c7
        clear c7
        have H' := Aside0.mk H
        clear H
        have p327 : 0 ≤ (x5_1 : Int) := of_decide_eq_true (by (with_reducible assumption))
        have q327 : x5_1 < (l0.length : Int) := of_decide_eq_true (by (with_reducible assumption))
        obtain ⟨ad327, e327, hx327_0, hx327_1, hx327_2⟩ := at_T114 HR0.out x5_1 p327 q327
        cases e327
        replace p327 := eq_true p327
        replace q327 := eq_true q327
        have p328 : 0 ≤ (x5_1 : Int) := of_decide_eq_true (by (with_reducible assumption))
        have q328 : x5_1 < (l0.length : Int) := of_decide_eq_true (by (with_reducible assumption))
        obtain ⟨ad328, e328, hx328_0, hx328_1, hx328_2⟩ := at_T114 HR0.out x5_1 p328 q328
        obtain rfl : ad327 = ad328 := (by injection e328)
        replace p328 := eq_true p328
        replace q328 := eq_true q328
        have p329 : 0 ≤ (x5_1 : Int) := of_decide_eq_true (by (with_reducible assumption))
        have q329 : x5_1 < (l0.length : Int) := of_decide_eq_true (by (with_reducible assumption))
        obtain ⟨ad329, e329, hx329_0, hx329_1, hx329_2⟩ := at_T114 HR0.out x5_1 p329 q329
        obtain rfl : ad327 = ad329 := (by injection e329)
        replace p329 := eq_true p329
        replace q329 := eq_true q329
        go_wp2
        go_roundg k1
        case measure => have := HK1.out; omega
        case rel => exact ⟨(wrap64 ((wrap64 ((wrap64 (x1_1 + 1)) + 1)) + 1)), (wrap64 (x5_1 + 1)), rfl, rfl, H', ⟨by have := HK1.out; omega⟩, by repeat (first | exact Drawn0.refl _ | apply Drawn0.step)⟩
       ·rw [if_neg c7] at H
        have c7b0 : (((rd_T114 l0 x5_1).f2) == (wrap64 ((wrap64 (x1_1 + 1)) + 1))) = false := beq_eq_false_iff_ne.mpr c7
        have c7b1 : (((rd_T114 l0 x5_1).f2) != (wrap64 ((wrap64 (x1_1 + 1)) + 1))) = true := bne_iff_ne.mpr c7
        obtain rfl := Option.some.inj H
        have p327 : 0 ≤ (x5_1 : Int) := of_decide_eq_true (by (with_reducible assumption))
        have q327 : x5_1 < (l0.length : Int) := of_decide_eq_true (by (with_reducible assumption))
        obtain ⟨ad327, e327, hx327_0, hx327_1, hx327_2⟩ := at_T114 HR0.out x5_1 p327 q327
        cases e327
        replace p327 := eq_true p327
        replace q327 := eq_true q327
        have p328 : 0 ≤ (x5_1 : Int) := of_decide_eq_true (by (with_reducible assumption))
        have q328 : x5_1 < (l0.length : Int) := of_decide_eq_true (by (with_reducible assumption))
        obtain ⟨ad328, e328, hx328_0, hx328_1, hx328_2⟩ := at_T114 HR0.out x5_1 p328 q328
        obtain rfl : ad327 = ad328 := (by injection e328)
        replace p328 := eq_true p328
        replace q328 := eq_true q328
        have p329 : 0 ≤ (x5_1 : Int) := of_decide_eq_true (by (with_reducible assumption))
        have q329 : x5_1 < (l0.length : Int) := of_decide_eq_true (by (with_reducible assumption))
        obtain ⟨ad329, e329, hx329_0, hx329_1, hx329_2⟩ := at_T114 HR0.out x5_1 p329 q329
        obtain rfl : ad327 = ad329 := (by injection e329)
        replace p329 := eq_true p329
        replace q329 := eq_true q329
        go_wp2
        go_ret
        exact ⟨rfl, by repeat (first | exact Drawn0.refl _ | apply Drawn0.step)⟩
      ·rw [if_neg c6] at H
       have c6b0 : (((rd_T114 l0 x5_1).f1) == (wrap64 (x1_1 + 1))) = false := beq_eq_false_iff_ne.mpr c6
       have c6b1 : (((rd_T114 l0 x5_1).f1) != (wrap64 (x1_1 + 1))) = true := bne_iff_ne.mpr c6
       obtain rfl := Option.some.inj H
       have p327 : 0 ≤ (x5_1 : Int) := of_decide_eq_true (by (with_reducible assumption))
       have q327 : x5_1 < (l0.length : Int) := of_decide_eq_true (by (with_reducible assumption))
       obtain ⟨ad327, e327, hx327_0, hx327_1, hx327_2⟩ := at_T114 HR0.out x5_1 p327 q327
       cases e327
       replace p327 := eq_true p327
       replace q327 := eq_true q327
       have p328 : 0 ≤ (x5_1 : Int) := of_decide_eq_true (by (with_reducible assumption))
       have q328 : x5_1 < (l0.length : Int) := of_decide_eq_true (by (with_reducible assumption))
       obtain ⟨ad328, e328, hx328_0, hx328_1, hx328_2⟩ := at_T114 HR0.out x5_1 p328 q328
       obtain rfl : ad327 = ad328 := (by injection e328)
       replace p328 := eq_true p328
       replace q328 := eq_true q328
       go_wp2
       go_ret
       exact ⟨rfl, by repeat (first | exact Drawn0.refl _ | apply Drawn0.step)⟩
     ·rw [if_neg c5] at H
      have c5b0 : (((rd_T114 l0 x5_1).f0) == x1_1) = false := beq_eq_false_iff_ne.mpr c5
      have c5b1 : (((rd_T114 l0 x5_1).f0) != x1_1) = true := bne_iff_ne.mpr c5
      obtain rfl := Option.some.inj H
      have p327 : 0 ≤ (x5_1 : Int) := of_decide_eq_true (by (with_reducible assumption))
      have q327 : x5_1 < (l0.length : Int) := of_decide_eq_true (by (with_reducible assumption))
      obtain ⟨ad327, e327, hx327_0, hx327_1, hx327_2⟩ := at_T114 HR0.out x5_1 p327 q327
      cases e327
      replace p327 := eq_true p327
      replace q327 := eq_true q327
      go_wp2
      go_ret
      exact ⟨rfl, by repeat (first | exact Drawn0.refl _ | apply Drawn0.step)⟩
    ·rw [if_neg c4] at H
     exact absurd H (by simp)
   ·rw [if_neg c3] at H
    have c3b0 : decide (x5_1 < (l0.length : Int)) = false := decide_eq_false c3
    clear c3
    obtain rfl := Option.some.inj H
    go_wp2
    go_ret
    exact ⟨rfl, by repeat (first | exact Drawn0.refl _ | apply Drawn0.step)⟩

end Go.Proofs.Ytphkghnppcfdpaa.P
namespace Go.Proofs.Ytphkghnppcfdpaa.P
open Go.RowKit Go.Proofs.YtphkghnppcfdpaaW.PrintWords Go.Proofs.YtphkghnppcfdpaaW.PrintLast Go.Proofs.YtphkghnppcfdpaaW.PrintMore
attribute [local go_sem] max2_int min2_int max_two min_two max_three min_three max_four min_four   -- for this text's walks alone
set_option linter.unusedVariables false
set_option linter.unusedSimpArgs false

/-! ### laws_heldGroupTaskS: function 91 -/
def laws_heldGroupTaskS.l0 : Nat → List (S79) → Int → Int → Option (Int)
 | 0, _, _, _ => none
 | k + 1, x0, x1, x5 => if x5 < (x0.length : Int) then (if 0 ≤ x5 then ((laws_heldRowS.f k ((rd_T79 x0 x5).f0) x1).bind fun t331 => (if t331 < 0 then (some (-1)) else (if ((rd_T79 x0 x5).f1) = t331 then (laws_heldGroupTaskS.l0 k x0 (wrap64 (t331 + 1)) (wrap64 (x5 + 1))) else (some (-1))))) else (none)) else (some x1)
def laws_heldGroupTaskS.f (k : Nat) (l0 : List (S79)) (a1 : Int) : Option (Int) := laws_heldGroupTaskS.l0 k l0 a1 0
theorem laws_heldGroupTaskS.mono_l : ∀ k, (∀ y0 y1 y2, LeO (laws_heldGroupTaskS.l0 k y0 y1 y2) (laws_heldGroupTaskS.l0 (k + 1) y0 y1 y2))
 | 0 => fun _ _ _ r h => by simp [laws_heldGroupTaskS.l0] at h
 | k + 1 => by
  have ih0 := laws_heldGroupTaskS.mono_l k
  ·intro y0 y1 y2
   unfold laws_heldGroupTaskS.l0
   repeat' first
   | (with_reducible exact ih0 _ _ _)
   | (with_reducible exact laws_heldRowS.mono _ _ _)
   | (with_reducible exact LeO.refl _)
   | (with_reducible refine LeO.ite ?_ ?_)
   | (with_reducible refine LeO.bind ?_ (fun _ => ?_))
theorem laws_heldGroupTaskS.mono : ∀ a0 a1 k, LeO (laws_heldGroupTaskS.f k a0 a1) (laws_heldGroupTaskS.f (k + 1) a0 a1) := by
 intro a0 a1 k
 have ih0 := laws_heldGroupTaskS.mono_l k
 unfold laws_heldGroupTaskS.f
 repeat' (with_reducible exact ih0 _ _ _)

set_option maxHeartbeats 8000000 in
set_option maxRecDepth 100000 in
theorem laws_heldGroupTaskS.calls (k : Nat) (A0 : Option Addr) (c0 : Nat) (l0 : List (S79)) (a1 : Int) (r : Int) (w : World) (hr0 : Kd.C k79 w A0 l0.length l0) (hc0 : l0.length ≤ c0) (h : laws_heldGroupTaskS.f k l0 a1 = some r) :
  Calls Try.prog 91 #[.slice A0 l0.length c0, .int .i64 a1] w fun e w' => e = .returned (.int .i64 r) ∧ Drawn0 w w' := by
 have HR0 := Aside0.mk hr0
 have HC0 := Aside0.mk hc0
 clear hr0 hc0
 have H : (laws_heldGroupTaskS.l0 k l0 a1 0) = some r := h
 clear h
 have H' := Aside0.mk H
 clear H
 go_enter Try.func91, Try.ntmps91
 go_wp2
 go_loopg [1, 5] k (fun kq v1 v5 w' => ∃ (x1_1 : Int) (x5_1 : Int), v1 = .int .i64 x1_1 ∧ v5 = .int .i64 x5_1 ∧ Aside0 (laws_heldGroupTaskS.l0 kq l0 x1_1 x5_1 = some r) ∧ Aside0 (kq ≤ k) ∧ Drawn0 w w')
 case atStart => exact ⟨(a1), (0), rfl, rfl, H', ⟨Nat.le_refl _⟩, by repeat (exact Drawn0.refl _)⟩
 case round =>
  clear H'
  obtain ⟨x1_1, x5_1, rfl, rfl, HA, HK1, ⟨m1, rfl⟩⟩ := hrel
  cases gk with
  | zero => exact absurd HA.out (by simp [laws_heldGroupTaskS.l0])
  | succ k1 =>
   have H := HA.out
   clear HA
   simp only [laws_heldGroupTaskS.l0] at H
   by_cases c3 : x5_1 < (l0.length : Int)
   ·rw [if_pos c3] at H
    have c3b0 : decide (x5_1 < (l0.length : Int)) = true := decide_eq_true c3
    clear c3
    by_cases c4 : 0 ≤ x5_1
    ·rw [if_pos c4] at H
     have c4b0 : decide (0 ≤ x5_1) = true := decide_eq_true c4
     clear c4
     replace H := Option.bind_eq_some_iff.mp H
     obtain ⟨t331, A50, H⟩ := H
     have A5 := Aside0.mk A50
     clear A50
     by_cases c6 : t331 < 0
     ·rw [if_pos c6] at H
      have c6b0 : decide (t331 < 0) = true := decide_eq_true c6
      clear c6
      obtain rfl := Option.some.inj H
      have p330 : 0 ≤ (x5_1 : Int) := of_decide_eq_true (by (with_reducible assumption))
      have q330 : x5_1 < (l0.length : Int) := of_decide_eq_true (by (with_reducible assumption))
      obtain ⟨ad330, A330_0, c330_0, e330, hx330_0, hx330_1, hl330_0, hi330_0⟩ := at_T79 HR0.out x5_1 p330 q330
      cases e330
      have HR330_0 := Aside0.mk hi330_0
      have HC330_0 := Aside0.mk hl330_0
      clear hi330_0 hl330_0
      replace p330 := eq_true p330
      replace q330 := eq_true q330
      go_wp2_with (((with_reducible refine gate_callee (f := 140) rfl ?_); refine goesL_ (some 18) rfl rfl Try.func140 (by kernel_rfl) rfl #[.slice A330_0 ((rd_T79 l0 x5_1).f0).length c330_0, .int .i64 x1_1] rfl (by (try simp only [List.map_toArray, List.map_cons, List.map_nil]); rfl) ?_; (with_reducible refine (laws_heldRowS.calls k1 _ _ ((rd_T79 l0 x5_1).f0) x1_1 t331 _ ?side1 ?side2 A5.out).mono ?_); (case side1 => repeat (exact HR330_0.out)); (case side2 => exact HC330_0.out); rintro e w' ⟨rfl, ⟨nd, rfl⟩⟩; refine ⟨_, rfl, ?_⟩))
      go_ret
      exact ⟨rfl, by repeat (first | exact Drawn0.refl _ | apply Drawn0.step)⟩
     ·rw [if_neg c6] at H
      have c6b0 : decide (t331 < 0) = false := decide_eq_false c6
      clear c6
      by_cases c7 : ((rd_T79 l0 x5_1).f1) = t331
      ·rw [if_pos c7] at H
       have c7b0 : (((rd_T79 l0 x5_1).f1) == t331) = true := beq_iff_eq.mpr c7
       have c7b1 : (((rd_T79 l0 x5_1).f1) != t331) = false := bne_eq_false_iff_eq.mpr c7
       clear c7
       have H' := Aside0.mk H
       clear H
       have p330 : 0 ≤ (x5_1 : Int) := of_decide_eq_true (by (with_reducible assumption))
       have q330 : x5_1 < (l0.length : Int) := of_decide_eq_true (by (with_reducible assumption))
       obtain ⟨ad330, A330_0, c330_0, e330, hx330_0, hx330_1, hl330_0, hi330_0⟩ := at_T79 HR0.out x5_1 p330 q330
       cases e330
       have HR330_0 := Aside0.mk hi330_0
       have HC330_0 := Aside0.mk hl330_0
       clear hi330_0 hl330_0
       replace p330 := eq_true p330
       replace q330 := eq_true q330
       go_wp2_with (((with_reducible refine gate_callee (f := 140) rfl ?_); refine goesL_ (some 18) rfl rfl Try.func140 (by kernel_rfl) rfl #[.slice A330_0 ((rd_T79 l0 x5_1).f0).length c330_0, .int .i64 x1_1] rfl (by (try simp only [List.map_toArray, List.map_cons, List.map_nil]); rfl) ?_; (with_reducible refine (laws_heldRowS.calls k1 _ _ ((rd_T79 l0 x5_1).f0) x1_1 t331 _ ?side1 ?side2 A5.out).mono ?_); (case side1 => repeat (exact HR330_0.out)); (case side2 => exact HC330_0.out); rintro e w' ⟨rfl, ⟨nd, rfl⟩⟩; refine ⟨_, rfl, ?_⟩; have p332 : 0 ≤ (x5_1 : Int) := of_decide_eq_true (by (with_reducible assumption)); have q332 : x5_1 < (l0.length : Int) := of_decide_eq_true (by (with_reducible assumption)); obtain ⟨ad332, A332_0, c332_0, e332, hx332_0, hx332_1, hl332_0, hi332_0⟩ := at_T79 HR0.out x5_1 p332 q332; obtain rfl : ad330 = ad332 := (by injection e332); have HR332_0 := Aside0.mk hi332_0; have HC332_0 := Aside0.mk hl332_0; clear hi332_0 hl332_0; replace p332 := eq_true p332; replace q332 := eq_true q332; have ea_ := Option.some.inj (hx330_0.symm.trans hx332_0); injection ea_ with ea_ en_ ec_; subst ea_; subst ec_; clear en_))
       go_roundg k1
       case measure => have := HK1.out; omega
       case rel => exact ⟨(wrap64 (t331 + 1)), (wrap64 (x5_1 + 1)), rfl, rfl, H', ⟨by have := HK1.out; omega⟩, by repeat (first | exact Drawn0.refl _ | apply Drawn0.step)⟩
      ·rw [if_neg c7] at H
       have c7b0 : (((rd_T79 l0 x5_1).f1) == t331) = false := beq_eq_false_iff_ne.mpr c7
       have c7b1 : (((rd_T79 l0 x5_1).f1) != t331) = true := bne_iff_ne.mpr c7
       obtain rfl := Option.some.inj H
       have p330 : 0 ≤ (x5_1 : Int) := of_decide_eq_true (by (with_reducible assumption))
       have q330 : x5_1 < (l0.length : Int) := of_decide_eq_true (by (with_reducible assumption))
       obtain ⟨ad330, A330_0, c330_0, e330, hx330_0, hx330_1, hl330_0, hi330_0⟩ := at_T79 HR0.out x5_1 p330 q330
       cases e330
       have HR330_0 := Aside0.mk hi330_0
       have HC330_0 := Aside0.mk hl330_0
       clear hi330_0 hl330_0
       replace p330 := eq_true p330
       replace q330 := eq_true q330
       go_wp2_with (((with_reducible refine gate_callee (f := 140) rfl ?_); refine goesL_ (some 18) rfl rfl Try.func140 (by kernel_rfl) rfl #[.slice A330_0 ((rd_T79 l0 x5_1).f0).length c330_0, .int .i64 x1_1] rfl (by (try simp only [List.map_toArray, List.map_cons, List.map_nil]); rfl) ?_; (with_reducible refine (laws_heldRowS.calls k1 _ _ ((rd_T79 l0 x5_1).f0) x1_1 t331 _ ?side1 ?side2 A5.out).mono ?_); (case side1 => repeat (exact HR330_0.out)); (case side2 => exact HC330_0.out); rintro e w' ⟨rfl, ⟨nd, rfl⟩⟩; refine ⟨_, rfl, ?_⟩; have p332 : 0 ≤ (x5_1 : Int) := of_decide_eq_true (by (with_reducible assumption)); have q332 : x5_1 < (l0.length : Int) := of_decide_eq_true (by (with_reducible assumption)); obtain ⟨ad332, A332_0, c332_0, e332, hx332_0, hx332_1, hl332_0, hi332_0⟩ := at_T79 HR0.out x5_1 p332 q332; obtain rfl : ad330 = ad332 := (by injection e332); have HR332_0 := Aside0.mk hi332_0; have HC332_0 := Aside0.mk hl332_0; clear hi332_0 hl332_0; replace p332 := eq_true p332; replace q332 := eq_true q332; have ea_ := Option.some.inj (hx330_0.symm.trans hx332_0); injection ea_ with ea_ en_ ec_; subst ea_; subst ec_; clear en_))
       go_ret
       exact ⟨rfl, by repeat (first | exact Drawn0.refl _ | apply Drawn0.step)⟩
    ·rw [if_neg c4] at H
     exact absurd H (by simp)
   ·rw [if_neg c3] at H
    have c3b0 : decide (x5_1 < (l0.length : Int)) = false := decide_eq_false c3
    clear c3
    obtain rfl := Option.some.inj H
    go_wp2
    go_ret
    exact ⟨rfl, by repeat (first | exact Drawn0.refl _ | apply Drawn0.step)⟩

end Go.Proofs.Ytphkghnppcfdpaa.P
namespace Go.Proofs.Ytphkghnppcfdpaa.P
open Go.RowKit Go.Proofs.YtphkghnppcfdpaaW.PrintWords Go.Proofs.YtphkghnppcfdpaaW.PrintLast Go.Proofs.YtphkghnppcfdpaaW.PrintMore
attribute [local go_sem] max2_int min2_int max_two min_two max_three min_three max_four min_four   -- for this text's walks alone
set_option linter.unusedVariables false
set_option linter.unusedSimpArgs false

/-! ### laws_heldAggregator: function 16 -/
def laws_heldAggregator.f (k : Nat) (l0_0 : List (S79)) (a0_1 : Int) (a0_2 : Bool) (a1 : Int) : Option (Int) := (laws_heldGroupTaskS.f k l0_0 a1).bind fun t334 => (if t334 < 0 then (some (-1)) else (some t334))
theorem laws_heldAggregator.mono : ∀ a0 a1 a2 a3 k, LeO (laws_heldAggregator.f k a0 a1 a2 a3) (laws_heldAggregator.f (k + 1) a0 a1 a2 a3) := by
 intro a0 a1 a2 a3 k
 unfold laws_heldAggregator.f
 repeat' first
   | (with_reducible exact laws_heldGroupTaskS.mono _ _ _)
   | (with_reducible exact LeO.refl _)
   | (with_reducible refine LeO.bind ?_ (fun _ => ?_))
set_option maxHeartbeats 8000000 in
set_option maxRecDepth 100000 in
theorem laws_heldAggregator.calls (k : Nat) (A0_0 : Option Addr) (c0_0 : Nat) (l0_0 : List (S79)) (a0_1 : Int) (a0_2 : Bool) (a1 : Int) (r : Int) (w : World) (hr0_0 : Kd.C k79 w A0_0 l0_0.length l0_0) (hc0_0 : l0_0.length ≤ c0_0) (h : laws_heldAggregator.f k l0_0 a0_1 a0_2 a1 = some r) :
  Calls Try.prog 16 #[.agg #[.slice A0_0 l0_0.length c0_0, .int .i64 a0_1, .bool a0_2], .int .i64 a1] w fun e w' => e = .returned (.int .i64 r) ∧ Below w.heap.size w w' := by
 have hu24 := Try.underlying24
 have HR0_0 := Aside0.mk hr0_0
 have HC0_0 := Aside0.mk hc0_0
 clear hr0_0 hc0_0
 have HB := Aside0.mk (Below.refl w.heap.size w)
 have H : ((laws_heldGroupTaskS.f k l0_0 a1).bind fun t334 => (if t334 < 0 then (some (-1)) else (some t334))) = some r := h
 clear h
 replace H := Option.bind_eq_some_iff.mp H
 obtain ⟨t334, A30, H⟩ := H
 have A3 := Aside0.mk A30
 clear A30
 by_cases c4 : t334 < 0
 ·rw [if_pos c4] at H
  have c4b0 : decide (t334 < 0) = true := decide_eq_true c4
  clear c4
  obtain rfl := Option.some.inj H
  go_enter Try.func16, Try.ntmps16
  go_wp2_with (first | ((with_reducible refine gate_dst (N := 2) rfl ?_); refine box_event ?hg (N := 2) ?hd (cs := #[.slice A0_0 l0_0.length c0_0, .int .i64 a0_1, .bool a0_2]) (t := 24) ?hr ?_; (case hd => rfl); (case hg => rfl); (case hr => (go_simp; done)); intro gb333 hg w5 hbox hb; have n0_ := Aside0.mk (below_step HB.out hb); have n1_ := Aside0.mk (hbox); have n2_ := Aside0.mk ((by rw [hg]; exact (below_size HB.out) : w.heap.size ≤ gb333)); have n3_ := Aside0.mk ((by rw [hg]; exact (below_size HB.out) : w.heap.size ≤ gb333)); clear HB; have HB := n0_; have BK333 := n1_; have GW333 := n2_; have GE333 := n3_; clear n0_ n1_ n2_ n3_; clear hb hbox hg; have hcz6_0 : w5.cell? ⟨gb333, 0, none⟩ = some (.slice A0_0 l0_0.length c0_0) := (blk_cell BK333.out 0).trans rfl; have hcz6_1 : w5.cell? ⟨gb333, 1, none⟩ = some (.int .i64 a0_1) := (blk_cell BK333.out 1).trans rfl; have hcz6_2 : w5.cell? ⟨gb333, 2, none⟩ = some (.bool a0_2) := (blk_cell BK333.out 2).trans rfl; have hfz6_0 := blk_frozen BK333.out 0; have hfz6_1 := blk_frozen BK333.out 1; have hfz6_2 := blk_frozen BK333.out 2) | ((with_reducible refine gate_callee (f := 91) rfl ?_); refine goesL_ (some 8) rfl rfl Try.func91 (by kernel_rfl) rfl #[.slice A0_0 l0_0.length c0_0, .int .i64 a1] rfl (by (try simp only [List.map_toArray, List.map_cons, List.map_nil]); rfl) ?_; (with_reducible refine (laws_heldGroupTaskS.calls k _ _ l0_0 a1 t334 _ ?side1 ?side2 A3.out).mono ?_); (case side1 => repeat (exact (Kd.C_below HR0_0.out HB.out))); (case side2 => exact HC0_0.out); rintro e w' ⟨rfl, ⟨nd, rfl⟩⟩; refine ⟨_, rfl, ?_⟩))
  go_ret
  exact ⟨rfl, by repeat ((with_reducible first | exact HB.out | apply pw_below_drewN))⟩
 ·rw [if_neg c4] at H
  have c4b0 : decide (t334 < 0) = false := decide_eq_false c4
  clear c4
  obtain rfl := Option.some.inj H
  go_enter Try.func16, Try.ntmps16
  go_wp2_with (first | ((with_reducible refine gate_dst (N := 2) rfl ?_); refine box_event ?hg (N := 2) ?hd (cs := #[.slice A0_0 l0_0.length c0_0, .int .i64 a0_1, .bool a0_2]) (t := 24) ?hr ?_; (case hd => rfl); (case hg => rfl); (case hr => (go_simp; done)); intro gb333 hg w7 hbox hb; have n0_ := Aside0.mk (below_step HB.out hb); have n1_ := Aside0.mk (hbox); have n2_ := Aside0.mk ((by rw [hg]; exact (below_size HB.out) : w.heap.size ≤ gb333)); have n3_ := Aside0.mk ((by rw [hg]; exact (below_size HB.out) : w.heap.size ≤ gb333)); clear HB; have HB := n0_; have BK333 := n1_; have GW333 := n2_; have GE333 := n3_; clear n0_ n1_ n2_ n3_; clear hb hbox hg; have hcz8_0 : w7.cell? ⟨gb333, 0, none⟩ = some (.slice A0_0 l0_0.length c0_0) := (blk_cell BK333.out 0).trans rfl; have hcz8_1 : w7.cell? ⟨gb333, 1, none⟩ = some (.int .i64 a0_1) := (blk_cell BK333.out 1).trans rfl; have hcz8_2 : w7.cell? ⟨gb333, 2, none⟩ = some (.bool a0_2) := (blk_cell BK333.out 2).trans rfl; have hfz8_0 := blk_frozen BK333.out 0; have hfz8_1 := blk_frozen BK333.out 1; have hfz8_2 := blk_frozen BK333.out 2) | ((with_reducible refine gate_callee (f := 91) rfl ?_); refine goesL_ (some 8) rfl rfl Try.func91 (by kernel_rfl) rfl #[.slice A0_0 l0_0.length c0_0, .int .i64 a1] rfl (by (try simp only [List.map_toArray, List.map_cons, List.map_nil]); rfl) ?_; (with_reducible refine (laws_heldGroupTaskS.calls k _ _ l0_0 a1 t334 _ ?side1 ?side2 A3.out).mono ?_); (case side1 => repeat (exact (Kd.C_below HR0_0.out HB.out))); (case side2 => exact HC0_0.out); rintro e w' ⟨rfl, ⟨nd, rfl⟩⟩; refine ⟨_, rfl, ?_⟩))
  go_ret
  exact ⟨rfl, by repeat ((with_reducible first | exact HB.out | apply pw_below_drewN))⟩

end Go.Proofs.Ytphkghnppcfdpaa.P
namespace Go.Proofs.Ytphkghnppcfdpaa.P
open Go.RowKit Go.Proofs.YtphkghnppcfdpaaW.PrintWords Go.Proofs.YtphkghnppcfdpaaW.PrintLast Go.Proofs.YtphkghnppcfdpaaW.PrintMore
attribute [local go_sem] max2_int min2_int max_two min_two max_three min_three max_four min_four   -- for this text's walks alone
set_option linter.unusedVariables false
set_option linter.unusedSimpArgs false

theorem World.size_set3 {W : World} {g a b c n : Nat} {u v x : Value} (h : n < W.heap.size) : n < (((W.setCell ⟨g, a, none⟩ u).setCell ⟨g, b, none⟩ v).setCell ⟨g, c, none⟩ x).heap.size :=
 by simp [World.setCell]; exact h
/-! ### laws_FnExactParseAggregator: function 3 -/
def laws_FnExactParseAggregator.f (k : Nat) (a0 : ByteArray) : Option Bool := if (a0.size : Int) > 1048576 then some true else ((spec_ParseAggregator.f k a0).bind fun s => (impl_ParseAggregator.f k a0).bind fun g => (laws_eqAggregator.f k g.1 g.2.1 g.2.2.1 s.1 s.2.1 s.2.2.1).bind fun e => if e = true ∧ g.2.2.2 = s.2.2.2 then ((laws_markAggregator.f k g.1 g.2.1 g.2.2.1 1).bind fun m => (laws_heldAggregator.f k m.2 g.2.1 g.2.2.1 1).bind fun q => if ¬ (q < 0) ∧ q = m.1 then some true else none) else none)
set_option maxHeartbeats 8000000 in
set_option maxRecDepth 100000 in
theorem laws_FnExactParseAggregator.calls (k : Nat) (a0 : ByteArray) (r : Bool) (w : World) (h : laws_FnExactParseAggregator.f k a0 = some r) :
  Calls Try.prog 3 #[.string a0] w fun e w' => e = .returned (.bool r) ∧ Below w.heap.size w w' := by
 have hu24 := Try.underlying24
 have HB := Aside0.mk (Below.refl w.heap.size w)
 unfold laws_FnExactParseAggregator.f at h
 by_cases c2 : (a0.size : Int) > 1048576
 ·rw [if_pos c2] at h
  have c2b0 : decide (1048576 < (a0.size : Int)) = true := decide_eq_true c2
  have c2b1 : decide (1048576 < a0.size) = true := decide_eq_true (by omega)
  clear c2
  obtain rfl := Option.some.inj h
  go_enter Try.func3, Try.ntmps3
  go_wp2
  go_ret
  exact ⟨rfl, HB.out⟩
 ·rw [if_neg c2] at h
  have c2b0 : decide (1048576 < (a0.size : Int)) = false := decide_eq_false c2
  have c2b1 : decide (1048576 < a0.size) = false := decide_eq_false (by omega)
  clear c2
  obtain ⟨⟨s1, s2, s3, s4⟩, A1, h1⟩ := Option.bind_eq_some_iff.mp h
  clear h
  obtain ⟨⟨g1, g2, g3, g4⟩, A2, h2⟩ := Option.bind_eq_some_iff.mp h1
  clear h1
  obtain ⟨e, A3, h⟩ := Option.bind_eq_some_iff.mp h2
  clear h2
  dsimp only at A3 h
  by_cases c3 : e = true ∧ g4 = s4
  case neg => rw [if_neg c3] at h; cases h
  case pos =>
   rw [if_pos c3] at h
   obtain ⟨rfl, c3⟩ := c3
   obtain rfl : s4 = g4 := c3.symm
   obtain ⟨⟨m1, m2⟩, A4, h1⟩ := Option.bind_eq_some_iff.mp h
   clear h
   obtain ⟨q, A5, h⟩ := Option.bind_eq_some_iff.mp h1
   clear h1
   dsimp only at A4 A5 h
   by_cases c4 : ¬ (q < 0) ∧ q = m1
   case neg => rw [if_neg c4] at h; cases h
   case pos =>
    rw [if_pos c4] at h
    obtain ⟨c5, c6⟩ := c4
    obtain rfl : m1 = q := c6.symm
    have c5b0 : decide (m1 < 0) = false := decide_eq_false c5
    clear c5
    obtain rfl := Option.some.inj h
    clear h
    replace A1 := Aside0.mk A1
    replace A2 := Aside0.mk A2
    replace A3 := Aside0.mk A3
    replace A4 := Aside0.mk A4
    replace A5 := Aside0.mk A5
    go_enter Try.func3, Try.ntmps3
    go_wp2_with (first | ((with_reducible refine gate_callee (f := 12) rfl ?_); refine goesL_ (some 16) rfl rfl Try.func12 (by kernel_rfl) rfl #[.string a0] rfl (by (try simp only [List.map_toArray, List.map_cons, List.map_nil]); rfl) ?_; (with_reducible refine (spec_ParseAggregator.calls k a0 s1 s2 s3 s4 _ A1.out).mono ?_); rintro e w1 ⟨vs, rfl, ho, hb⟩; refine ⟨_, rfl, ?_⟩; have n0_ := Aside0.mk (Kd.S_mono (ok' := fun k_ => k_ < w1.heap.size) (Kd.S_bound ho) (fun _ h_ => h_.2.2.1)); have n1_ := Aside0.mk (below_step HB.out hb); (try clear HS); (try clear HB); have HS := n0_; have HB := n1_; clear n0_ n1_; clear ho hb; obtain ⟨As, cs, es⟩ := Kd.S_slice HS.out; subst es) | ((with_reducible refine gate_dst (N := 3) rfl ?_); refine box_event ?hg (N := 3) ?hd (cs := #[.slice none 0 0, .int .i64 0, .bool false]) (t := 24) ?hr ?_; (case hd => rfl); (case hg => rfl); (case hr => (go_simp; done)); intro gb3 hg w2 hbox hb; have n0_ := Aside0.mk (Kd.S_below HS.out hb); have n1_ := Aside0.mk ((by rw [hg]; exact (below_size HB.out) : w.heap.size ≤ gb3)); have n2_ := Aside0.mk (below_step HB.out hb); have n3_ := Aside0.mk (hbox); have n4_ := Aside0.mk (by rw [hg]; exact Nat.le_refl _ : w1.heap.size ≤ gb3); (try clear HS); (try clear GW3); (try clear HB); (try clear BK3); (try clear GS3); have HS := n0_; have GW3 := n1_; have HB := n2_; have BK3 := n3_; have GS3 := n4_; clear n0_ n1_ n2_ n3_ n4_; clear hb hbox hg; have hcza_0 : w2.cell? ⟨gb3, 0, none⟩ = some (.slice none 0 0) := (blk_cell BK3.out 0).trans rfl; have hcza_1 : w2.cell? ⟨gb3, 1, none⟩ = some (.int .i64 0) := (blk_cell BK3.out 1).trans rfl; have hcza_2 : w2.cell? ⟨gb3, 2, none⟩ = some (.bool false) := (blk_cell BK3.out 2).trans rfl; have hfza_0 := blk_frozen BK3.out 0; have hfza_1 := blk_frozen BK3.out 1; have hfza_2 := blk_frozen BK3.out 2) | ((with_reducible refine gate_callee (f := 13) rfl ?_); refine goesL_ (some 21) rfl rfl Try.func13 (by kernel_rfl) rfl #[.string a0] rfl (by (try simp only [List.map_toArray, List.map_cons, List.map_nil]); rfl) ?_; (with_reducible refine (impl_ParseAggregator.calls k a0 g1 g2 g3 s4 _ A2.out).mono ?_); rintro e w3 ⟨vg, rfl, ho, hb⟩; refine ⟨_, rfl, ?_⟩; have n0_ := Aside0.mk (Kd.S_lower (Kd.S_mono (ok' := fun k_ => gb3 < k_ ∧ k_ < w3.heap.size) (Kd.S_bound ho) (fun k_ h_ => ⟨Nat.lt_of_lt_of_le (World.size_set3 (blk_lt BK3.out)) h_.2.1, h_.2.2.1⟩)) (below_size (by repeat (with_reducible first | exact HB.out | refine below_set ?_ GW3.out)))); have n1_ := Aside0.mk (Kd.S_below (by exact Kd.S_far (Kd.S_far (Kd.S_far HS.out (fun k_ hk_ => Nat.ne_of_lt (Nat.lt_of_lt_of_le hk_ GS3.out)) _) (fun k_ hk_ => Nat.ne_of_lt (Nat.lt_of_lt_of_le hk_ GS3.out)) _) (fun k_ hk_ => Nat.ne_of_lt (Nat.lt_of_lt_of_le hk_ GS3.out)) _) hb); have n2_ := Aside0.mk (blk_below (g := gb3) (o := .cells #[.slice As s1.length cs, .int .i64 s2, .bool s3] 24 (0, 0)) (by refine blk_put (cs := #[.slice As s1.length cs, .int .i64 s2, .bool false]) ?_ 2 _ rfl; refine blk_put (cs := #[.slice As s1.length cs, .int .i64 0, .bool false]) ?_ 1 _ rfl; refine blk_put (cs := #[.slice none 0 0, .int .i64 0, .bool false]) ?_ 0 _ rfl; exact BK3.out) hb); have n3_ := Aside0.mk (below_step (by repeat (with_reducible first | exact HB.out | refine below_set ?_ GW3.out)) hb); (try clear HG); (try clear HS); (try clear BK3); (try clear HB); have HG := n0_; have HS := n1_; have BK3 := n2_; have HB := n3_; clear n0_ n1_ n2_ n3_; clear ho hb; obtain ⟨Ag, cg, eg⟩ := Kd.S_slice HG.out; subst eg; have L3 := Aside0.mk (blk_lt BK3.out)) | ((with_reducible refine gate_dst (N := 5) rfl ?_); refine box_event ?hg (N := 5) ?hd (cs := #[.slice none 0 0, .int .i64 0, .bool false]) (t := 24) ?hr ?_; (case hd => rfl); (case hg => rfl); (case hr => (go_simp; done)); intro gb5 hg w4 hbox hb; have n0_ := Aside0.mk (Kd.S_below HS.out hb); have n1_ := Aside0.mk (Kd.S_below HG.out hb); have n2_ := Aside0.mk (blk_below (g := gb3) (o := .cells #[.slice As s1.length cs, .int .i64 s2, .bool s3] 24 (0, 0)) BK3.out hb); have n3_ := Aside0.mk ((by rw [hg]; exact (below_size HB.out) : w.heap.size ≤ gb5)); have n4_ := Aside0.mk (by rw [hg]; exact Nat.le_refl _ : w3.heap.size ≤ gb5); have n5_ := Aside0.mk ((by rw [hg]; exact Nat.ne_of_lt (blk_lt (g := gb3) n2_.out |> fun _ => (blk_lt BK3.out)) : gb3 ≠ gb5)); have n6_ := Aside0.mk (below_step HB.out hb); have n7_ := Aside0.mk (hbox); (try clear HS); (try clear HG); (try clear BK3); (try clear GW5); (try clear GG5); (try clear N35); (try clear HB); (try clear BK5); have HS := n0_; have HG := n1_; have BK3 := n2_; have GW5 := n3_; have GG5 := n4_; have N35 := n5_; have HB := n6_; have BK5 := n7_; clear n0_ n1_ n2_ n3_ n4_ n5_ n6_ n7_; have GS5 := Aside0.mk (show w1.heap.size ≤ gb5 from Nat.le_trans GS3.out (Nat.le_trans (Nat.le_of_lt L3.out) GG5.out)); have N53 := Aside0.mk (fun e_ => N35.out e_.symm : gb5 ≠ gb3); clear hb hbox hg; have hczb_0 : w4.cell? ⟨gb5, 0, none⟩ = some (.slice none 0 0) := (blk_cell BK5.out 0).trans rfl; have hczb_1 : w4.cell? ⟨gb5, 1, none⟩ = some (.int .i64 0) := (blk_cell BK5.out 1).trans rfl; have hczb_2 : w4.cell? ⟨gb5, 2, none⟩ = some (.bool false) := (blk_cell BK5.out 2).trans rfl; have hfzb_0 := blk_frozen BK5.out 0; have hfzb_1 := blk_frozen BK5.out 1; have hfzb_2 := blk_frozen BK5.out 2; have hczc_0 : w4.cell? ⟨gb3, 0, none⟩ = some (.slice As s1.length cs) := (blk_cell BK3.out 0).trans rfl; have hczc_1 : w4.cell? ⟨gb3, 1, none⟩ = some (.int .i64 s2) := (blk_cell BK3.out 1).trans rfl; have hczc_2 : w4.cell? ⟨gb3, 2, none⟩ = some (.bool s3) := (blk_cell BK3.out 2).trans rfl; have hfzc_0 := blk_frozen BK3.out 0; have hfzc_1 := blk_frozen BK3.out 1; have hfzc_2 := blk_frozen BK3.out 2; have hnb := N35.out; have hnc := N53.out) | ((with_reducible refine gate_callee (f := 14) rfl ?_); refine goesL_ (some 26) rfl rfl Try.func14 (by kernel_rfl) rfl #[.agg #[.slice Ag g1.length cg, .int .i64 g2, .bool g3], .agg #[.slice As s1.length cs, .int .i64 s2, .bool s3]] rfl (by (try simp only [List.map_toArray, List.map_cons, List.map_nil]); rfl) ?_; (with_reducible refine (laws_eqAggregator.calls k _ _ g1 g2 g3 _ _ s1 s2 s3 true _ ?side1 ?side2 ?side3 ?side4 A3.out).mono ?_); (case side1 => refine (Kd.S_reads' (n := g1.length) (c := cg) (base := w.heap.size) (ok := fun k_ => gb3 < k_ ∧ k_ < w3.heap.size) (e := 79) ?_).2.2; exact (by exact Kd.S_far (Kd.S_far (Kd.S_far HG.out (fun k_ hk_ => Nat.ne_of_lt (Nat.lt_of_lt_of_le hk_.2 GG5.out)) _) (fun k_ hk_ => Nat.ne_of_lt (Nat.lt_of_lt_of_le hk_.2 GG5.out)) _) (fun k_ hk_ => Nat.ne_of_lt (Nat.lt_of_lt_of_le hk_.2 GG5.out)) _)); (case side2 => exact (Kd.S_reads' HG.out).2.1); (case side3 => refine (Kd.S_reads' (n := s1.length) (c := cs) (base := w.heap.size) (ok := fun k_ => k_ < w1.heap.size) (e := 79) ?_).2.2; exact (by exact Kd.S_far (Kd.S_far (Kd.S_far HS.out (fun k_ hk_ => Nat.ne_of_lt (Nat.lt_of_lt_of_le hk_ GS5.out)) _) (fun k_ hk_ => Nat.ne_of_lt (Nat.lt_of_lt_of_le hk_ GS5.out)) _) (fun k_ hk_ => Nat.ne_of_lt (Nat.lt_of_lt_of_le hk_ GS5.out)) _)); (case side4 => exact (Kd.S_reads' HS.out).2.1); rintro e w5 ⟨rfl, hb⟩; refine ⟨_, rfl, ?_⟩; have n0_ := Aside0.mk (Kd.S_below (by exact Kd.S_far (Kd.S_far (Kd.S_far HS.out (fun k_ hk_ => Nat.ne_of_lt (Nat.lt_of_lt_of_le hk_ GS5.out)) _) (fun k_ hk_ => Nat.ne_of_lt (Nat.lt_of_lt_of_le hk_ GS5.out)) _) (fun k_ hk_ => Nat.ne_of_lt (Nat.lt_of_lt_of_le hk_ GS5.out)) _) hb); have n1_ := Aside0.mk (Kd.S_below (by exact Kd.S_far (Kd.S_far (Kd.S_far HG.out (fun k_ hk_ => Nat.ne_of_lt (Nat.lt_of_lt_of_le hk_.2 GG5.out)) _) (fun k_ hk_ => Nat.ne_of_lt (Nat.lt_of_lt_of_le hk_.2 GG5.out)) _) (fun k_ hk_ => Nat.ne_of_lt (Nat.lt_of_lt_of_le hk_.2 GG5.out)) _) hb); have n2_ := Aside0.mk (blk_below (g := gb3) (o := .cells #[.slice As s1.length cs, .int .i64 s2, .bool s3] 24 (0, 0)) (by refine blk_far ?_ N35.out _; refine blk_far ?_ N35.out _; refine blk_far ?_ N35.out _; exact BK3.out) hb); have n3_ := Aside0.mk (blk_below (g := gb5) (o := .cells #[.slice Ag g1.length cg, .int .i64 g2, .bool g3] 24 (0, 0)) (by refine blk_put (cs := #[.slice Ag g1.length cg, .int .i64 g2, .bool false]) ?_ 2 _ rfl; refine blk_put (cs := #[.slice Ag g1.length cg, .int .i64 0, .bool false]) ?_ 1 _ rfl; refine blk_put (cs := #[.slice none 0 0, .int .i64 0, .bool false]) ?_ 0 _ rfl; exact BK5.out) hb); have n4_ := Aside0.mk (below_step (by repeat (with_reducible first | exact HB.out | refine below_set ?_ GW5.out)) hb); (try clear HS); (try clear HG); (try clear BK3); (try clear BK5); (try clear HB); have HS := n0_; have HG := n1_; have BK3 := n2_; have BK5 := n3_; have HB := n4_; clear n0_ n1_ n2_ n3_ n4_; clear hb; have hne_ : (s4 != s4) = false := bne_self_eq_false s4; have hczd_0 : w5.cell? ⟨gb5, 0, none⟩ = some (.slice Ag g1.length cg) := (blk_cell BK5.out 0).trans rfl; have hczd_1 : w5.cell? ⟨gb5, 1, none⟩ = some (.int .i64 g2) := (blk_cell BK5.out 1).trans rfl; have hczd_2 : w5.cell? ⟨gb5, 2, none⟩ = some (.bool g3) := (blk_cell BK5.out 2).trans rfl; have hfzd_0 := blk_frozen BK5.out 0; have hfzd_1 := blk_frozen BK5.out 1; have hfzd_2 := blk_frozen BK5.out 2) | ((with_reducible refine gate_callee (f := 15) rfl ?_); refine goesL_ (some 35) rfl rfl Try.func15 (by kernel_rfl) rfl #[.agg #[.slice Ag g1.length cg, .int .i64 g2, .bool g3], .int .i64 1] rfl (by (try simp only [List.map_toArray, List.map_cons, List.map_nil]); rfl) ?_; (with_reducible refine (laws_markAggregator.calls k (fun k_ => gb3 < k_ ∧ k_ < w3.heap.size) (.slice Ag g1.length cg) g1 g2 g3 1 m1 m2 w _ ?side1 ?side2 A4.out).mono ?_); (case side1 => repeat (with_reducible exact HB.out)); (case side2 => exact HG.out); rintro e w6 ⟨rfl, hy, hb, hkp⟩; refine ⟨_, rfl, ?_⟩; have hlen : g1.length = m2.length := (Kd.S_reads' hy).1; have n0_ := Aside0.mk (Kd.S_step HS.out (fun k_ hk_ hlt_ => hkp.2 k_ hlt_ (fun h_ => Nat.lt_irrefl _ (Nat.lt_trans (Nat.lt_of_lt_of_le hk_ GS3.out) h_.1)))); have n1_ := Aside0.mk (Kd.S_mono (ok' := fun k_ => k_ < w6.heap.size) (Kd.S_bound hy) (fun _ h_ => h_.2.2.1)); have n2_ := Aside0.mk (blk_kept BK3.out hkp (fun h_ => Nat.lt_irrefl _ h_.1)); have n3_ := Aside0.mk (blk_kept BK5.out hkp (fun h_ => Nat.lt_irrefl _ (Nat.lt_of_lt_of_le h_.2 GG5.out))); have n4_ := Aside0.mk (hb : Below w.heap.size w w6); (try clear HS); (try clear HG); (try clear BK3); (try clear BK5); (try clear HB); have HS := n0_; have HG := n1_; have BK3 := n2_; have BK5 := n3_; have HB := n4_; clear n0_ n1_ n2_ n3_ n4_; clear hy hb hkp; rw [hlen] at HG BK5; clear hlen; have hcze_0 : w6.cell? ⟨gb5, 0, none⟩ = some (.slice Ag m2.length cg) := (blk_cell BK5.out 0).trans rfl; have hcze_1 : w6.cell? ⟨gb5, 1, none⟩ = some (.int .i64 g2) := (blk_cell BK5.out 1).trans rfl; have hcze_2 : w6.cell? ⟨gb5, 2, none⟩ = some (.bool g3) := (blk_cell BK5.out 2).trans rfl; have hfze_0 := blk_frozen BK5.out 0; have hfze_1 := blk_frozen BK5.out 1; have hfze_2 := blk_frozen BK5.out 2) | ((with_reducible refine gate_callee (f := 16) rfl ?_); refine goesL_ (some 38) rfl rfl Try.func16 (by kernel_rfl) rfl #[.agg #[.slice Ag m2.length cg, .int .i64 g2, .bool g3], .int .i64 1] rfl (by (try simp only [List.map_toArray, List.map_cons, List.map_nil]); rfl) ?_; (with_reducible refine (laws_heldAggregator.calls k _ _ m2 g2 g3 1 m1 _ ?side1 ?side2 A5.out).mono ?_); (case side1 => refine (Kd.S_reads' (n := m2.length) (c := cg) (base := w.heap.size) (ok := fun k_ => k_ < w6.heap.size) (e := 79) ?_).2.2; exact HG.out); (case side2 => exact (Kd.S_reads' HG.out).2.1); rintro e w7 ⟨rfl, hb⟩; refine ⟨_, rfl, ?_⟩; have n0_ := Aside0.mk (Kd.S_below HS.out hb); have n1_ := Aside0.mk (Kd.S_below HG.out hb); have n2_ := Aside0.mk (blk_below (g := gb3) (o := .cells #[.slice As s1.length cs, .int .i64 s2, .bool s3] 24 (0, 0)) BK3.out hb); have n3_ := Aside0.mk (blk_below (g := gb5) (o := .cells #[.slice Ag m2.length cg, .int .i64 g2, .bool g3] 24 (0, 0)) BK5.out hb); have n4_ := Aside0.mk (below_step HB.out hb); (try clear HS); (try clear HG); (try clear BK3); (try clear BK5); (try clear HB); have HS := n0_; have HG := n1_; have BK3 := n2_; have BK5 := n3_; have HB := n4_; clear n0_ n1_ n2_ n3_ n4_; have L67 := Aside0.mk (show w6.heap.size ≤ w7.heap.size from hb.size); clear hb; have hq_ : (m1 != m1) = false := bne_self_eq_false m1) | ((with_reducible refine gate_callee (f := 13) rfl ?_); refine goesL_ (some 46) rfl rfl Try.func13 (by kernel_rfl) rfl #[.string a0] rfl (by (try simp only [List.map_toArray, List.map_cons, List.map_nil]); rfl) ?_; (with_reducible refine (impl_ParseAggregator.calls k a0 g1 g2 g3 s4 _ A2.out).mono ?_); rintro e w8 ⟨vh, rfl, ho, hb⟩; refine ⟨_, rfl, ?_⟩; have n0_ := Aside0.mk (Kd.S_lower (Kd.S_mono (ok' := fun k_ => k_ < w8.heap.size) (Kd.S_bound ho) (fun _ h_ => h_.2.2.1)) (below_size HB.out)); have n1_ := Aside0.mk (Kd.S_below HS.out hb); have n2_ := Aside0.mk (Kd.S_below HG.out hb); have n3_ := Aside0.mk (blk_below (g := gb3) (o := .cells #[.slice As s1.length cs, .int .i64 s2, .bool s3] 24 (0, 0)) BK3.out hb); have n4_ := Aside0.mk (blk_below (g := gb5) (o := .cells #[.slice Ag m2.length cg, .int .i64 g2, .bool g3] 24 (0, 0)) BK5.out hb); have n5_ := Aside0.mk (below_step HB.out hb); (try clear HH); (try clear HS); (try clear HG); (try clear BK3); (try clear BK5); (try clear HB); have HH := n0_; have HS := n1_; have HG := n2_; have BK3 := n3_; have BK5 := n4_; have HB := n5_; clear n0_ n1_ n2_ n3_ n4_ n5_; clear ho; have L68 := Aside0.mk (show w6.heap.size ≤ w8.heap.size from Nat.le_trans L67.out hb.size); have L18 := Aside0.mk (show w1.heap.size ≤ w8.heap.size from Nat.le_trans GS3.out (Nat.le_of_lt (blk_lt BK3.out))); clear hb; obtain ⟨Ah, ch, eh⟩ := Kd.S_slice HH.out; subst eh) | ((with_reducible refine gate_dst (N := 9) rfl ?_); refine box_event ?hg (N := 9) ?hd (cs := #[.slice none 0 0, .int .i64 0, .bool false]) (t := 24) ?hr ?_; (case hd => rfl); (case hg => rfl); (case hr => (go_simp; done)); intro gb9 hg w9 hbox hb; have n0_ := Aside0.mk (Kd.S_below HS.out hb); have n1_ := Aside0.mk (Kd.S_below HG.out hb); have n2_ := Aside0.mk (Kd.S_below HH.out hb); have n3_ := Aside0.mk ((by rw [hg]; exact Nat.ne_of_lt (blk_lt BK3.out) : gb3 ≠ gb9)); have n4_ := Aside0.mk ((by rw [hg]; exact Nat.ne_of_lt (blk_lt BK5.out) : gb5 ≠ gb9)); have n5_ := Aside0.mk (blk_below (g := gb3) (o := .cells #[.slice As s1.length cs, .int .i64 s2, .bool s3] 24 (0, 0)) BK3.out hb); have n6_ := Aside0.mk (blk_below (g := gb5) (o := .cells #[.slice Ag m2.length cg, .int .i64 g2, .bool g3] 24 (0, 0)) BK5.out hb); have n7_ := Aside0.mk ((by rw [hg]; exact (below_size HB.out) : w.heap.size ≤ gb9)); have n8_ := Aside0.mk (by rw [hg]; exact Nat.le_refl _ : w8.heap.size ≤ gb9); have n9_ := Aside0.mk (below_step HB.out hb); have n10_ := Aside0.mk (hbox); (try clear HS); (try clear HG); (try clear HH); (try clear N39); (try clear N59); (try clear BK3); (try clear BK5); (try clear GW9); (try clear GH9); (try clear HB); (try clear BK9); have HS := n0_; have HG := n1_; have HH := n2_; have N39 := n3_; have N59 := n4_; have BK3 := n5_; have BK5 := n6_; have GW9 := n7_; have GH9 := n8_; have HB := n9_; have BK9 := n10_; clear n0_ n1_ n2_ n3_ n4_ n5_ n6_ n7_ n8_ n9_ n10_; have GS9 := Aside0.mk (show w1.heap.size ≤ gb9 from Nat.le_trans L18.out GH9.out); have GG9 := Aside0.mk (show w6.heap.size ≤ gb9 from Nat.le_trans L68.out GH9.out); have N93 := Aside0.mk (fun e_ => N39.out e_.symm : gb9 ≠ gb3); have N95 := Aside0.mk (fun e_ => N59.out e_.symm : gb9 ≠ gb5); clear hb hbox hg; have hczh_0 : w9.cell? ⟨gb9, 0, none⟩ = some (.slice none 0 0) := (blk_cell BK9.out 0).trans rfl; have hczh_1 : w9.cell? ⟨gb9, 1, none⟩ = some (.int .i64 0) := (blk_cell BK9.out 1).trans rfl; have hczh_2 : w9.cell? ⟨gb9, 2, none⟩ = some (.bool false) := (blk_cell BK9.out 2).trans rfl; have hfzh_0 := blk_frozen BK9.out 0; have hfzh_1 := blk_frozen BK9.out 1; have hfzh_2 := blk_frozen BK9.out 2; have hczi_0 : w9.cell? ⟨gb3, 0, none⟩ = some (.slice As s1.length cs) := (blk_cell BK3.out 0).trans rfl; have hczi_1 : w9.cell? ⟨gb3, 1, none⟩ = some (.int .i64 s2) := (blk_cell BK3.out 1).trans rfl; have hczi_2 : w9.cell? ⟨gb3, 2, none⟩ = some (.bool s3) := (blk_cell BK3.out 2).trans rfl; have hfzi_0 := blk_frozen BK3.out 0; have hfzi_1 := blk_frozen BK3.out 1; have hfzi_2 := blk_frozen BK3.out 2; have hnb9 := N39.out; have hnc9 := N93.out) | ((with_reducible refine gate_callee (f := 14) rfl ?_); refine goesL_ (some 51) rfl rfl Try.func14 (by kernel_rfl) rfl #[.agg #[.slice Ah g1.length ch, .int .i64 g2, .bool g3], .agg #[.slice As s1.length cs, .int .i64 s2, .bool s3]] rfl (by (try simp only [List.map_toArray, List.map_cons, List.map_nil]); rfl) ?_; (with_reducible refine (laws_eqAggregator.calls k _ _ g1 g2 g3 _ _ s1 s2 s3 true _ ?side1 ?side2 ?side3 ?side4 A3.out).mono ?_); (case side1 => refine (Kd.S_reads' (n := g1.length) (c := ch) (base := w.heap.size) (ok := fun k_ => k_ < w8.heap.size) (e := 79) ?_).2.2; exact (by exact Kd.S_far (Kd.S_far (Kd.S_far HH.out (fun k_ hk_ => Nat.ne_of_lt (Nat.lt_of_lt_of_le hk_ GH9.out)) _) (fun k_ hk_ => Nat.ne_of_lt (Nat.lt_of_lt_of_le hk_ GH9.out)) _) (fun k_ hk_ => Nat.ne_of_lt (Nat.lt_of_lt_of_le hk_ GH9.out)) _)); (case side2 => exact (Kd.S_reads' HH.out).2.1); (case side3 => refine (Kd.S_reads' (n := s1.length) (c := cs) (base := w.heap.size) (ok := fun k_ => k_ < w1.heap.size) (e := 79) ?_).2.2; exact (by exact Kd.S_far (Kd.S_far (Kd.S_far HS.out (fun k_ hk_ => Nat.ne_of_lt (Nat.lt_of_lt_of_le hk_ GS9.out)) _) (fun k_ hk_ => Nat.ne_of_lt (Nat.lt_of_lt_of_le hk_ GS9.out)) _) (fun k_ hk_ => Nat.ne_of_lt (Nat.lt_of_lt_of_le hk_ GS9.out)) _)); (case side4 => exact (Kd.S_reads' HS.out).2.1); rintro e w10 ⟨rfl, hb⟩; refine ⟨_, rfl, ?_⟩; have n0_ := Aside0.mk (Kd.S_below (by exact Kd.S_far (Kd.S_far (Kd.S_far HG.out (fun k_ hk_ => Nat.ne_of_lt (Nat.lt_of_lt_of_le hk_ GG9.out)) _) (fun k_ hk_ => Nat.ne_of_lt (Nat.lt_of_lt_of_le hk_ GG9.out)) _) (fun k_ hk_ => Nat.ne_of_lt (Nat.lt_of_lt_of_le hk_ GG9.out)) _) hb); have n1_ := Aside0.mk (blk_below (g := gb5) (o := .cells #[.slice Ag m2.length cg, .int .i64 g2, .bool g3] 24 (0, 0)) (by refine blk_far ?_ N59.out _; refine blk_far ?_ N59.out _; refine blk_far ?_ N59.out _; exact BK5.out) hb); have n2_ := Aside0.mk (below_step (by repeat (with_reducible first | exact HB.out | refine below_set ?_ GW9.out)) hb); (try clear HG); (try clear BK5); (try clear HB); have HG := n0_; have BK5 := n1_; have HB := n2_; clear n0_ n1_ n2_; clear hb; have hne_ : (s4 != s4) = false := bne_self_eq_false s4; have hczj_0 : w10.cell? ⟨gb5, 0, none⟩ = some (.slice Ag m2.length cg) := (blk_cell BK5.out 0).trans rfl; have hczj_1 : w10.cell? ⟨gb5, 1, none⟩ = some (.int .i64 g2) := (blk_cell BK5.out 1).trans rfl; have hczj_2 : w10.cell? ⟨gb5, 2, none⟩ = some (.bool g3) := (blk_cell BK5.out 2).trans rfl; have hfzj_0 := blk_frozen BK5.out 0; have hfzj_1 := blk_frozen BK5.out 1; have hfzj_2 := blk_frozen BK5.out 2) | ((with_reducible refine gate_callee (f := 16) rfl ?_); refine goesL_ (some 60) rfl rfl Try.func16 (by kernel_rfl) rfl #[.agg #[.slice Ag m2.length cg, .int .i64 g2, .bool g3], .int .i64 1] rfl (by (try simp only [List.map_toArray, List.map_cons, List.map_nil]); rfl) ?_; (with_reducible refine (laws_heldAggregator.calls k _ _ m2 g2 g3 1 m1 _ ?side1 ?side2 A5.out).mono ?_); (case side1 => refine (Kd.S_reads' (n := m2.length) (c := cg) (base := w.heap.size) (ok := fun k_ => k_ < w6.heap.size) (e := 79) ?_).2.2; exact HG.out); (case side2 => exact (Kd.S_reads' HG.out).2.1); rintro e w11 ⟨rfl, hb⟩; refine ⟨_, rfl, ?_⟩; have n0_ := Aside0.mk (below_step HB.out hb); (try clear HB); have HB := n0_; clear n0_; clear hb; have hq_ : (m1 != m1) = false := bne_self_eq_false m1))
    go_ret
    exact ⟨rfl, HB.out⟩

/-- THE ONE PURE STATEMENT of laws_FnExactParseAggregator. -/
def laws_FnExactParseAggregator.Pure : Prop := ∀ (a0 : ByteArray), a0.size ≤ 140737488351232 → ∃ k, laws_FnExactParseAggregator.f k a0 = some true
theorem laws_FnExactParseAggregator.walk (P : laws_FnExactParseAggregator.Pure) (a0 : ByteArray) (w : World) (w0 : a0.size ≤ 140737488351232) :
  Calls Try.prog 3 #[.string a0] w fun e w' => e = .returned (.bool true) ∧ Below w.heap.size w w' := by
 obtain ⟨k, h⟩ := P a0 w0
 refine (laws_FnExactParseAggregator.calls k a0 true w h).mono ?_
 rintro e w' ⟨rfl, hd⟩
 exact ⟨rfl, hd⟩

end Go.Proofs.Ytphkghnppcfdpaa.P
