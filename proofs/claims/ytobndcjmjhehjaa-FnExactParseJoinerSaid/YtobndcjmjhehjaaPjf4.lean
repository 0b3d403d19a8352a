/- For every string the law FnExactParseJoiner of the given program returns true and leaves its argument as it was; no condition. -/
import Derived.Test.YtobndcjmjhehjaaPjf3
namespace Go.Proofs.Ytobndcjmjhehjaa.P
open Go.RowKit Go.Proofs.YtobndcjmjhehjaaW.PrintWords Go.Proofs.YtobndcjmjhehjaaW.PrintLast Go.Proofs.YtobndcjmjhehjaaW.PrintMore
attribute [local go_sem] max2_int min2_int max_two min_two max_three min_three max_four min_four   -- for this text's walks alone
set_option linter.unusedVariables false
set_option linter.unusedSimpArgs false
set_option maxHeartbeats 8000000
set_option maxRecDepth 100000
def laws_heldTaskS.l0 : Nat → List (S40) → Int → Int → Option (Int)
 | 0, _, _, _ => none
 | k + 1, x0, x1, x5 => if x5 < (x0.length : Int) then (if 0 ≤ x5 then (if ((rd_T40 x0 x5).f0) = x1 then ((laws_heldRowS.f k ((rd_T40 x0 x5).f1) (wrap64 (x1 + 1))).bind fun t1624 => (if t1624 < 0 then (some (-1)) else ((laws_heldRowS.f k ((rd_T40 x0 x5).f2) t1624).bind fun t1626 => (if t1626 < 0 then (some (-1)) else ((laws_heldBoolS.f k ((rd_T40 x0 x5).f3) t1626).bind fun t1628 => (if t1628 < 0 then (some (-1)) else (if ((rd_T40 x0 x5).f4) = t1628 then (laws_heldTaskS.l0 k x0 (wrap64 (t1628 + 1)) (wrap64 (x5 + 1))) else (some (-1))))))))) else (some (-1))) else (none)) else (some x1)
def laws_heldTaskS.f (k : Nat) (l0 : List (S40)) (a1 : Int) : Option (Int) := laws_heldTaskS.l0 k l0 a1 0
theorem laws_heldTaskS.calls (k : Nat) (A0 : Option Addr) (c0 : Nat) (l0 : List (S40)) (a1 : Int) (r : Int) (w : World) (hr0 : Kd.C k40 w A0 l0.length l0) (hc0 : l0.length ≤ c0) (h : laws_heldTaskS.f k l0 a1 = some r) :
  Calls Try.prog 153 #[.slice A0 l0.length c0, .int .i64 a1] w fun e w' => e = .returned (.int .i64 r) ∧ Drawn0 w w' := by
 have HR0 := Aside0.mk hr0
 have HC0 := Aside0.mk hc0
 clear hr0 hc0
 have H : (laws_heldTaskS.l0 k l0 a1 0) = some r := h
 clear h
 have H' := Aside0.mk H
 clear H
 go_enter Try.func153, Try.ntmps153
 go_wp2
 go_loopg [1, 5] k (fun kq v1 v5 w' => ∃ (x1_1 : Int) (x5_1 : Int), v1 = .int .i64 x1_1 ∧ v5 = .int .i64 x5_1 ∧ Aside0 (laws_heldTaskS.l0 kq l0 x1_1 x5_1 = some r) ∧ Aside0 (kq ≤ k) ∧ Drawn0 w w')
 case atStart => exact ⟨(a1), (0), rfl, rfl, H', ⟨Nat.le_refl _⟩, by repeat (exact Drawn0.refl _)⟩
 case round =>
  clear H'
  obtain ⟨x1_1, x5_1, rfl, rfl, HA, HK1, ⟨m1, rfl⟩⟩ := hrel
  cases gk with
  | zero => exact absurd HA.out (by simp [laws_heldTaskS.l0])
  | succ k1 =>
   have H := HA.out
   clear HA
   simp only [laws_heldTaskS.l0] at H
   by_cases c3 : x5_1 < (l0.length : Int)
   ·rw [if_pos c3] at H
    have c3b0 : decide (x5_1 < (l0.length : Int)) = true := decide_eq_true c3
    clear c3
    by_cases c4 : 0 ≤ x5_1
    ·rw [if_pos c4] at H
     have c4b0 : decide (0 ≤ x5_1) = true := decide_eq_true c4
     clear c4
     by_cases c5 : ((rd_T40 l0 x5_1).f0) = x1_1
     ·rw [if_pos c5] at H
      have c5b0 : (((rd_T40 l0 x5_1).f0) == x1_1) = true := beq_iff_eq.mpr c5
      have c5b1 : (((rd_T40 l0 x5_1).f0) != x1_1) = false := bne_eq_false_iff_eq.mpr c5
      clear c5
      replace H := Option.bind_eq_some_iff.mp H
      obtain ⟨t1624, A60, H⟩ := H
      have A6 := Aside0.mk A60
      clear A60
      by_cases c7 : t1624 < 0
      ·rw [if_pos c7] at H
       have c7b0 : decide (t1624 < 0) = true := decide_eq_true c7
       clear c7
       obtain rfl := Option.some.inj H
       have p1622 : 0 ≤ (x5_1 : Int) := of_decide_eq_true (by (with_reducible assumption))
       have q1622 : x5_1 < (l0.length : Int) := of_decide_eq_true (by (with_reducible assumption))
       obtain ⟨ad1622, A1622_1, c1622_1, A1622_2, c1622_2, A1622_3, c1622_3, e1622, hx1622_0, hx1622_1, hx1622_2, hx1622_3, hx1622_4, hl1622_1, hi1622_1, hl1622_2, hi1622_2, hl1622_3, hi1622_3⟩ := at_T40 HR0.out x5_1 p1622 q1622
       cases e1622
       have HR1622_1 := Aside0.mk hi1622_1
       have HC1622_1 := Aside0.mk hl1622_1
       clear hi1622_1 hl1622_1
       have HR1622_2 := Aside0.mk hi1622_2
       have HC1622_2 := Aside0.mk hl1622_2
       clear hi1622_2 hl1622_2
       have HR1622_3 := Aside0.mk hi1622_3
       have HC1622_3 := Aside0.mk hl1622_3
       clear hi1622_3 hl1622_3
       replace p1622 := eq_true p1622
       replace q1622 := eq_true q1622
       have p1623 : 0 ≤ (x5_1 : Int) := of_decide_eq_true (by (with_reducible assumption))
       have q1623 : x5_1 < (l0.length : Int) := of_decide_eq_true (by (with_reducible assumption))
       obtain ⟨ad1623, A1623_1, c1623_1, A1623_2, c1623_2, A1623_3, c1623_3, e1623, hx1623_0, hx1623_1, hx1623_2, hx1623_3, hx1623_4, hl1623_1, hi1623_1, hl1623_2, hi1623_2, hl1623_3, hi1623_3⟩ := at_T40 HR0.out x5_1 p1623 q1623
       obtain rfl : ad1622 = ad1623 := (by injection e1623)
       have HR1623_1 := Aside0.mk hi1623_1
       have HC1623_1 := Aside0.mk hl1623_1
       clear hi1623_1 hl1623_1
       have HR1623_2 := Aside0.mk hi1623_2
       have HC1623_2 := Aside0.mk hl1623_2
       clear hi1623_2 hl1623_2
       have HR1623_3 := Aside0.mk hi1623_3
       have HC1623_3 := Aside0.mk hl1623_3
       clear hi1623_3 hl1623_3
       replace p1623 := eq_true p1623
       replace q1623 := eq_true q1623
       have ea_ := Option.some.inj (hx1622_1.symm.trans hx1623_1)
       injection ea_ with ea_ en_ ec_
       subst ea_
       subst ec_
       clear en_
       have ea_ := Option.some.inj (hx1622_2.symm.trans hx1623_2)
       injection ea_ with ea_ en_ ec_
       subst ea_
       subst ec_
       clear en_
       have ea_ := Option.some.inj (hx1622_3.symm.trans hx1623_3)
       injection ea_ with ea_ en_ ec_
       subst ea_
       subst ec_
       clear en_
       go_wp2_with (((with_reducible refine gate_callee (f := 144) rfl ?_); refine goesL_ (some 27) rfl rfl Try.func144 (by kernel_rfl) rfl #[.slice A1622_1 ((rd_T40 l0 x5_1).f1).length c1622_1, .int .i64 (wrap64 (x1_1 + 1))] rfl (by (try simp only [List.map_toArray, List.map_cons, List.map_nil]); rfl) ?_; (with_reducible refine (laws_heldRowS.calls k1 _ _ ((rd_T40 l0 x5_1).f1) (wrap64 (x1_1 + 1)) t1624 _ ?side1 ?side2 A6.out).mono ?_); (case side1 => repeat (exact HR1623_1.out)); (case side2 => exact HC1623_1.out); rintro e w' ⟨rfl, ⟨nd, rfl⟩⟩; refine ⟨_, rfl, ?_⟩))
       go_ret
       exact ⟨rfl, by repeat (first | exact Drawn0.refl _ | apply Drawn0.step)⟩
      ·rw [if_neg c7] at H
       have c7b0 : decide (t1624 < 0) = false := decide_eq_false c7
       clear c7
       replace H := Option.bind_eq_some_iff.mp H
       obtain ⟨t1626, A80, H⟩ := H
       have A8 := Aside0.mk A80
       clear A80
       by_cases c9 : t1626 < 0
       ·rw [if_pos c9] at H
        have c9b0 : decide (t1626 < 0) = true := decide_eq_true c9
        clear c9
        obtain rfl := Option.some.inj H
        have p1622 : 0 ≤ (x5_1 : Int) := of_decide_eq_true (by (with_reducible assumption))
        have q1622 : x5_1 < (l0.length : Int) := of_decide_eq_true (by (with_reducible assumption))
        obtain ⟨ad1622, A1622_1, c1622_1, A1622_2, c1622_2, A1622_3, c1622_3, e1622, hx1622_0, hx1622_1, hx1622_2, hx1622_3, hx1622_4, hl1622_1, hi1622_1, hl1622_2, hi1622_2, hl1622_3, hi1622_3⟩ := at_T40 HR0.out x5_1 p1622 q1622
        cases e1622
        have HR1622_1 := Aside0.mk hi1622_1
        have HC1622_1 := Aside0.mk hl1622_1
        clear hi1622_1 hl1622_1
        have HR1622_2 := Aside0.mk hi1622_2
        have HC1622_2 := Aside0.mk hl1622_2
        clear hi1622_2 hl1622_2
        have HR1622_3 := Aside0.mk hi1622_3
        have HC1622_3 := Aside0.mk hl1622_3
        clear hi1622_3 hl1622_3
        replace p1622 := eq_true p1622
        replace q1622 := eq_true q1622
        have p1623 : 0 ≤ (x5_1 : Int) := of_decide_eq_true (by (with_reducible assumption))
        have q1623 : x5_1 < (l0.length : Int) := of_decide_eq_true (by (with_reducible assumption))
        obtain ⟨ad1623, A1623_1, c1623_1, A1623_2, c1623_2, A1623_3, c1623_3, e1623, hx1623_0, hx1623_1, hx1623_2, hx1623_3, hx1623_4, hl1623_1, hi1623_1, hl1623_2, hi1623_2, hl1623_3, hi1623_3⟩ := at_T40 HR0.out x5_1 p1623 q1623
        obtain rfl : ad1622 = ad1623 := (by injection e1623)
        have HR1623_1 := Aside0.mk hi1623_1
        have HC1623_1 := Aside0.mk hl1623_1
        clear hi1623_1 hl1623_1
        have HR1623_2 := Aside0.mk hi1623_2
        have HC1623_2 := Aside0.mk hl1623_2
        clear hi1623_2 hl1623_2
        have HR1623_3 := Aside0.mk hi1623_3
        have HC1623_3 := Aside0.mk hl1623_3
        clear hi1623_3 hl1623_3
        replace p1623 := eq_true p1623
        replace q1623 := eq_true q1623
        have ea_ := Option.some.inj (hx1622_1.symm.trans hx1623_1)
        injection ea_ with ea_ en_ ec_
        subst ea_
        subst ec_
        clear en_
        have ea_ := Option.some.inj (hx1622_2.symm.trans hx1623_2)
        injection ea_ with ea_ en_ ec_
        subst ea_
        subst ec_
        clear en_
        have ea_ := Option.some.inj (hx1622_3.symm.trans hx1623_3)
        injection ea_ with ea_ en_ ec_
        subst ea_
        subst ec_
        clear en_
        go_wp2_with (first | ((with_reducible refine gate_callee (f := 144) rfl ?_); refine goesL_ (some 27) rfl rfl Try.func144 (by kernel_rfl) rfl #[.slice A1622_1 ((rd_T40 l0 x5_1).f1).length c1622_1, .int .i64 (wrap64 (x1_1 + 1))] rfl (by (try simp only [List.map_toArray, List.map_cons, List.map_nil]); rfl) ?_; (with_reducible refine (laws_heldRowS.calls k1 _ _ ((rd_T40 l0 x5_1).f1) (wrap64 (x1_1 + 1)) t1624 _ ?side1 ?side2 A6.out).mono ?_); (case side1 => repeat (exact HR1623_1.out)); (case side2 => exact HC1623_1.out); rintro e w' ⟨rfl, ⟨nd, rfl⟩⟩; refine ⟨_, rfl, ?_⟩; have p1625 : 0 ≤ (x5_1 : Int) := of_decide_eq_true (by (with_reducible assumption)); have q1625 : x5_1 < (l0.length : Int) := of_decide_eq_true (by (with_reducible assumption)); obtain ⟨ad1625, A1625_1, c1625_1, A1625_2, c1625_2, A1625_3, c1625_3, e1625, hx1625_0, hx1625_1, hx1625_2, hx1625_3, hx1625_4, hl1625_1, hi1625_1, hl1625_2, hi1625_2, hl1625_3, hi1625_3⟩ := at_T40 HR0.out x5_1 p1625 q1625; obtain rfl : ad1622 = ad1625 := (by injection e1625); have HR1625_1 := Aside0.mk hi1625_1; have HC1625_1 := Aside0.mk hl1625_1; clear hi1625_1 hl1625_1; have HR1625_2 := Aside0.mk hi1625_2; have HC1625_2 := Aside0.mk hl1625_2; clear hi1625_2 hl1625_2; have HR1625_3 := Aside0.mk hi1625_3; have HC1625_3 := Aside0.mk hl1625_3; clear hi1625_3 hl1625_3; replace p1625 := eq_true p1625; replace q1625 := eq_true q1625; have ea_ := Option.some.inj (hx1622_1.symm.trans hx1625_1); injection ea_ with ea_ en_ ec_; subst ea_; subst ec_; clear en_; have ea_ := Option.some.inj (hx1622_2.symm.trans hx1625_2); injection ea_ with ea_ en_ ec_; subst ea_; subst ec_; clear en_; have ea_ := Option.some.inj (hx1622_3.symm.trans hx1625_3); injection ea_ with ea_ en_ ec_; subst ea_; subst ec_; clear en_) | ((with_reducible refine gate_callee (f := 144) rfl ?_); refine goesL_ (some 36) rfl rfl Try.func144 (by kernel_rfl) rfl #[.slice A1622_2 ((rd_T40 l0 x5_1).f2).length c1622_2, .int .i64 t1624] rfl (by (try simp only [List.map_toArray, List.map_cons, List.map_nil]); rfl) ?_; (with_reducible refine (laws_heldRowS.calls k1 _ _ ((rd_T40 l0 x5_1).f2) t1624 t1626 _ ?side1 ?side2 A8.out).mono ?_); (case side1 => repeat (exact HR1625_2.out)); (case side2 => exact HC1625_2.out); rintro e w' ⟨rfl, ⟨nd, rfl⟩⟩; refine ⟨_, rfl, ?_⟩))
        go_ret
        exact ⟨rfl, by repeat (first | exact Drawn0.refl _ | apply Drawn0.step)⟩
       ·rw [if_neg c9] at H
        have c9b0 : decide (t1626 < 0) = false := decide_eq_false c9
        clear c9
        replace H := Option.bind_eq_some_iff.mp H
        obtain ⟨t1628, A100, H⟩ := H
        have A10 := Aside0.mk A100
        clear A100
        by_cases c11 : t1628 < 0
        ·rw [if_pos c11] at H
         have c11b0 : decide (t1628 < 0) = true := decide_eq_true c11
         clear c11
         obtain rfl := Option.some.inj H
         have p1622 : 0 ≤ (x5_1 : Int) := of_decide_eq_true (by (with_reducible assumption))
         have q1622 : x5_1 < (l0.length : Int) := of_decide_eq_true (by (with_reducible assumption))
         obtain ⟨ad1622, A1622_1, c1622_1, A1622_2, c1622_2, A1622_3, c1622_3, e1622, hx1622_0, hx1622_1, hx1622_2, hx1622_3, hx1622_4, hl1622_1, hi1622_1, hl1622_2, hi1622_2, hl1622_3, hi1622_3⟩ := at_T40 HR0.out x5_1 p1622 q1622
         cases e1622
         have HR1622_1 := Aside0.mk hi1622_1
         have HC1622_1 := Aside0.mk hl1622_1
         clear hi1622_1 hl1622_1
         have HR1622_2 := Aside0.mk hi1622_2
         have HC1622_2 := Aside0.mk hl1622_2
         clear hi1622_2 hl1622_2
         have HR1622_3 := Aside0.mk hi1622_3
         have HC1622_3 := Aside0.mk hl1622_3
         clear hi1622_3 hl1622_3
         replace p1622 := eq_true p1622
         replace q1622 := eq_true q1622
         have p1623 : 0 ≤ (x5_1 : Int) := of_decide_eq_true (by (with_reducible assumption))
         have q1623 : x5_1 < (l0.length : Int) := of_decide_eq_true (by (with_reducible assumption))
         obtain ⟨ad1623, A1623_1, c1623_1, A1623_2, c1623_2, A1623_3, c1623_3, e1623, hx1623_0, hx1623_1, hx1623_2, hx1623_3, hx1623_4, hl1623_1, hi1623_1, hl1623_2, hi1623_2, hl1623_3, hi1623_3⟩ := at_T40 HR0.out x5_1 p1623 q1623
         obtain rfl : ad1622 = ad1623 := (by injection e1623)
         have HR1623_1 := Aside0.mk hi1623_1
         have HC1623_1 := Aside0.mk hl1623_1
         clear hi1623_1 hl1623_1
         have HR1623_2 := Aside0.mk hi1623_2
         have HC1623_2 := Aside0.mk hl1623_2
         clear hi1623_2 hl1623_2
         have HR1623_3 := Aside0.mk hi1623_3
         have HC1623_3 := Aside0.mk hl1623_3
         clear hi1623_3 hl1623_3
         replace p1623 := eq_true p1623
         replace q1623 := eq_true q1623
         have ea_ := Option.some.inj (hx1622_1.symm.trans hx1623_1)
         injection ea_ with ea_ en_ ec_
         subst ea_
         subst ec_
         clear en_
         have ea_ := Option.some.inj (hx1622_2.symm.trans hx1623_2)
         injection ea_ with ea_ en_ ec_
         subst ea_
         subst ec_
         clear en_
         have ea_ := Option.some.inj (hx1622_3.symm.trans hx1623_3)
         injection ea_ with ea_ en_ ec_
         subst ea_
         subst ec_
         clear en_
         go_wp2_with (first | ((with_reducible refine gate_callee (f := 144) rfl ?_); refine goesL_ (some 27) rfl rfl Try.func144 (by kernel_rfl) rfl #[.slice A1622_1 ((rd_T40 l0 x5_1).f1).length c1622_1, .int .i64 (wrap64 (x1_1 + 1))] rfl (by (try simp only [List.map_toArray, List.map_cons, List.map_nil]); rfl) ?_; (with_reducible refine (laws_heldRowS.calls k1 _ _ ((rd_T40 l0 x5_1).f1) (wrap64 (x1_1 + 1)) t1624 _ ?side1 ?side2 A6.out).mono ?_); (case side1 => repeat (exact HR1623_1.out)); (case side2 => exact HC1623_1.out); rintro e w' ⟨rfl, ⟨nd, rfl⟩⟩; refine ⟨_, rfl, ?_⟩; have p1625 : 0 ≤ (x5_1 : Int) := of_decide_eq_true (by (with_reducible assumption)); have q1625 : x5_1 < (l0.length : Int) := of_decide_eq_true (by (with_reducible assumption)); obtain ⟨ad1625, A1625_1, c1625_1, A1625_2, c1625_2, A1625_3, c1625_3, e1625, hx1625_0, hx1625_1, hx1625_2, hx1625_3, hx1625_4, hl1625_1, hi1625_1, hl1625_2, hi1625_2, hl1625_3, hi1625_3⟩ := at_T40 HR0.out x5_1 p1625 q1625; obtain rfl : ad1622 = ad1625 := (by injection e1625); have HR1625_1 := Aside0.mk hi1625_1; have HC1625_1 := Aside0.mk hl1625_1; clear hi1625_1 hl1625_1; have HR1625_2 := Aside0.mk hi1625_2; have HC1625_2 := Aside0.mk hl1625_2; clear hi1625_2 hl1625_2; have HR1625_3 := Aside0.mk hi1625_3; have HC1625_3 := Aside0.mk hl1625_3; clear hi1625_3 hl1625_3; replace p1625 := eq_true p1625; replace q1625 := eq_true q1625; have ea_ := Option.some.inj (hx1622_1.symm.trans hx1625_1); injection ea_ with ea_ en_ ec_; subst ea_; subst ec_; clear en_; have ea_ := Option.some.inj (hx1622_2.symm.trans hx1625_2); injection ea_ with ea_ en_ ec_; subst ea_; subst ec_; clear en_; have ea_ := Option.some.inj (hx1622_3.symm.trans hx1625_3); injection ea_ with ea_ en_ ec_; subst ea_; subst ec_; clear en_) | ((with_reducible refine gate_callee (f := 144) rfl ?_); refine goesL_ (some 36) rfl rfl Try.func144 (by kernel_rfl) rfl #[.slice A1622_2 ((rd_T40 l0 x5_1).f2).length c1622_2, .int .i64 t1624] rfl (by (try simp only [List.map_toArray, List.map_cons, List.map_nil]); rfl) ?_; (with_reducible refine (laws_heldRowS.calls k1 _ _ ((rd_T40 l0 x5_1).f2) t1624 t1626 _ ?side1 ?side2 A8.out).mono ?_); (case side1 => repeat (exact HR1625_2.out)); (case side2 => exact HC1625_2.out); rintro e w' ⟨rfl, ⟨nd, rfl⟩⟩; refine ⟨_, rfl, ?_⟩; have p1627 : 0 ≤ (x5_1 : Int) := of_decide_eq_true (by (with_reducible assumption)); have q1627 : x5_1 < (l0.length : Int) := of_decide_eq_true (by (with_reducible assumption)); obtain ⟨ad1627, A1627_1, c1627_1, A1627_2, c1627_2, A1627_3, c1627_3, e1627, hx1627_0, hx1627_1, hx1627_2, hx1627_3, hx1627_4, hl1627_1, hi1627_1, hl1627_2, hi1627_2, hl1627_3, hi1627_3⟩ := at_T40 HR0.out x5_1 p1627 q1627; obtain rfl : ad1622 = ad1627 := (by injection e1627); have HR1627_1 := Aside0.mk hi1627_1; have HC1627_1 := Aside0.mk hl1627_1; clear hi1627_1 hl1627_1; have HR1627_2 := Aside0.mk hi1627_2; have HC1627_2 := Aside0.mk hl1627_2; clear hi1627_2 hl1627_2; have HR1627_3 := Aside0.mk hi1627_3; have HC1627_3 := Aside0.mk hl1627_3; clear hi1627_3 hl1627_3; replace p1627 := eq_true p1627; replace q1627 := eq_true q1627; have ea_ := Option.some.inj (hx1622_1.symm.trans hx1627_1); injection ea_ with ea_ en_ ec_; subst ea_; subst ec_; clear en_; have ea_ := Option.some.inj (hx1622_2.symm.trans hx1627_2); injection ea_ with ea_ en_ ec_; subst ea_; subst ec_; clear en_; have ea_ := Option.some.inj (hx1622_3.symm.trans hx1627_3); injection ea_ with ea_ en_ ec_; subst ea_; subst ec_; clear en_) | ((with_reducible refine gate_callee (f := 145) rfl ?_); refine goesL_ (some 45) rfl rfl Try.func145 (by kernel_rfl) rfl #[.slice A1622_3 ((rd_T40 l0 x5_1).f3).length c1622_3, .int .i64 t1626] rfl (by (try simp only [List.map_toArray, List.map_cons, List.map_nil]); rfl) ?_; (with_reducible refine (laws_heldBoolS.calls k1 _ _ ((rd_T40 l0 x5_1).f3) t1626 t1628 _ ?side1 ?side2 A10.out).mono ?_); (case side1 => repeat (exact HR1627_3.out)); (case side2 => exact HC1627_3.out); rintro e w' ⟨rfl, ⟨nd, rfl⟩⟩; refine ⟨_, rfl, ?_⟩))
         go_ret
         exact ⟨rfl, by repeat (first | exact Drawn0.refl _ | apply Drawn0.step)⟩
        ·rw [if_neg c11] at H
         have c11b0 : decide (t1628 < 0) = false := decide_eq_false c11
         clear c11
         by_cases c12 : ((rd_T40 l0 x5_1).f4) = t1628
         ·rw [if_pos c12] at H
          have c12b0 : (((rd_T40 l0 x5_1).f4) == t1628) = true := beq_iff_eq.mpr c12
          have c12b1 : (((rd_T40 l0 x5_1).f4) != t1628) = false := bne_eq_false_iff_eq.mpr c12
          clear c12
          have H' := Aside0.mk H
          clear H
          have p1622 : 0 ≤ (x5_1 : Int) := of_decide_eq_true (by (with_reducible assumption))
          have q1622 : x5_1 < (l0.length : Int) := of_decide_eq_true (by (with_reducible assumption))
          obtain ⟨ad1622, A1622_1, c1622_1, A1622_2, c1622_2, A1622_3, c1622_3, e1622, hx1622_0, hx1622_1, hx1622_2, hx1622_3, hx1622_4, hl1622_1, hi1622_1, hl1622_2, hi1622_2, hl1622_3, hi1622_3⟩ := at_T40 HR0.out x5_1 p1622 q1622
          cases e1622
          have HR1622_1 := Aside0.mk hi1622_1
          have HC1622_1 := Aside0.mk hl1622_1
          clear hi1622_1 hl1622_1
          have HR1622_2 := Aside0.mk hi1622_2
          have HC1622_2 := Aside0.mk hl1622_2
          clear hi1622_2 hl1622_2
          have HR1622_3 := Aside0.mk hi1622_3
          have HC1622_3 := Aside0.mk hl1622_3
          clear hi1622_3 hl1622_3
          replace p1622 := eq_true p1622
          replace q1622 := eq_true q1622
          have p1623 : 0 ≤ (x5_1 : Int) := of_decide_eq_true (by (with_reducible assumption))
          have q1623 : x5_1 < (l0.length : Int) := of_decide_eq_true (by (with_reducible assumption))
          obtain ⟨ad1623, A1623_1, c1623_1, A1623_2, c1623_2, A1623_3, c1623_3, e1623, hx1623_0, hx1623_1, hx1623_2, hx1623_3, hx1623_4, hl1623_1, hi1623_1, hl1623_2, hi1623_2, hl1623_3, hi1623_3⟩ := at_T40 HR0.out x5_1 p1623 q1623
          obtain rfl : ad1622 = ad1623 := (by injection e1623)
          have HR1623_1 := Aside0.mk hi1623_1
          have HC1623_1 := Aside0.mk hl1623_1
          clear hi1623_1 hl1623_1
          have HR1623_2 := Aside0.mk hi1623_2
          have HC1623_2 := Aside0.mk hl1623_2
          clear hi1623_2 hl1623_2
          have HR1623_3 := Aside0.mk hi1623_3
          have HC1623_3 := Aside0.mk hl1623_3
          clear hi1623_3 hl1623_3
          replace p1623 := eq_true p1623
          replace q1623 := eq_true q1623
          have ea_ := Option.some.inj (hx1622_1.symm.trans hx1623_1)
          injection ea_ with ea_ en_ ec_
          subst ea_
          subst ec_
          clear en_
          have ea_ := Option.some.inj (hx1622_2.symm.trans hx1623_2)
          injection ea_ with ea_ en_ ec_
          subst ea_
          subst ec_
          clear en_
          have ea_ := Option.some.inj (hx1622_3.symm.trans hx1623_3)
          injection ea_ with ea_ en_ ec_
          subst ea_
          subst ec_
          clear en_
          go_wp2_with (first | ((with_reducible refine gate_callee (f := 144) rfl ?_); refine goesL_ (some 27) rfl rfl Try.func144 (by kernel_rfl) rfl #[.slice A1622_1 ((rd_T40 l0 x5_1).f1).length c1622_1, .int .i64 (wrap64 (x1_1 + 1))] rfl (by (try simp only [List.map_toArray, List.map_cons, List.map_nil]); rfl) ?_; (with_reducible refine (laws_heldRowS.calls k1 _ _ ((rd_T40 l0 x5_1).f1) (wrap64 (x1_1 + 1)) t1624 _ ?side1 ?side2 A6.out).mono ?_); (case side1 => repeat (exact HR1623_1.out)); (case side2 => exact HC1623_1.out); rintro e w' ⟨rfl, ⟨nd, rfl⟩⟩; refine ⟨_, rfl, ?_⟩; have p1625 : 0 ≤ (x5_1 : Int) := of_decide_eq_true (by (with_reducible assumption)); have q1625 : x5_1 < (l0.length : Int) := of_decide_eq_true (by (with_reducible assumption)); obtain ⟨ad1625, A1625_1, c1625_1, A1625_2, c1625_2, A1625_3, c1625_3, e1625, hx1625_0, hx1625_1, hx1625_2, hx1625_3, hx1625_4, hl1625_1, hi1625_1, hl1625_2, hi1625_2, hl1625_3, hi1625_3⟩ := at_T40 HR0.out x5_1 p1625 q1625; obtain rfl : ad1622 = ad1625 := (by injection e1625); have HR1625_1 := Aside0.mk hi1625_1; have HC1625_1 := Aside0.mk hl1625_1; clear hi1625_1 hl1625_1; have HR1625_2 := Aside0.mk hi1625_2; have HC1625_2 := Aside0.mk hl1625_2; clear hi1625_2 hl1625_2; have HR1625_3 := Aside0.mk hi1625_3; have HC1625_3 := Aside0.mk hl1625_3; clear hi1625_3 hl1625_3; replace p1625 := eq_true p1625; replace q1625 := eq_true q1625; have ea_ := Option.some.inj (hx1622_1.symm.trans hx1625_1); injection ea_ with ea_ en_ ec_; subst ea_; subst ec_; clear en_; have ea_ := Option.some.inj (hx1622_2.symm.trans hx1625_2); injection ea_ with ea_ en_ ec_; subst ea_; subst ec_; clear en_; have ea_ := Option.some.inj (hx1622_3.symm.trans hx1625_3); injection ea_ with ea_ en_ ec_; subst ea_; subst ec_; clear en_) | ((with_reducible refine gate_callee (f := 144) rfl ?_); refine goesL_ (some 36) rfl rfl Try.func144 (by kernel_rfl) rfl #[.slice A1622_2 ((rd_T40 l0 x5_1).f2).length c1622_2, .int .i64 t1624] rfl (by (try simp only [List.map_toArray, List.map_cons, List.map_nil]); rfl) ?_; (with_reducible refine (laws_heldRowS.calls k1 _ _ ((rd_T40 l0 x5_1).f2) t1624 t1626 _ ?side1 ?side2 A8.out).mono ?_); (case side1 => repeat (exact HR1625_2.out)); (case side2 => exact HC1625_2.out); rintro e w' ⟨rfl, ⟨nd, rfl⟩⟩; refine ⟨_, rfl, ?_⟩; have p1627 : 0 ≤ (x5_1 : Int) := of_decide_eq_true (by (with_reducible assumption)); have q1627 : x5_1 < (l0.length : Int) := of_decide_eq_true (by (with_reducible assumption)); obtain ⟨ad1627, A1627_1, c1627_1, A1627_2, c1627_2, A1627_3, c1627_3, e1627, hx1627_0, hx1627_1, hx1627_2, hx1627_3, hx1627_4, hl1627_1, hi1627_1, hl1627_2, hi1627_2, hl1627_3, hi1627_3⟩ := at_T40 HR0.out x5_1 p1627 q1627; obtain rfl : ad1622 = ad1627 := (by injection e1627); have HR1627_1 := Aside0.mk hi1627_1; have HC1627_1 := Aside0.mk hl1627_1; clear hi1627_1 hl1627_1; have HR1627_2 := Aside0.mk hi1627_2; have HC1627_2 := Aside0.mk hl1627_2; clear hi1627_2 hl1627_2; have HR1627_3 := Aside0.mk hi1627_3; have HC1627_3 := Aside0.mk hl1627_3; clear hi1627_3 hl1627_3; replace p1627 := eq_true p1627; replace q1627 := eq_true q1627; have ea_ := Option.some.inj (hx1622_1.symm.trans hx1627_1); injection ea_ with ea_ en_ ec_; subst ea_; subst ec_; clear en_; have ea_ := Option.some.inj (hx1622_2.symm.trans hx1627_2); injection ea_ with ea_ en_ ec_; subst ea_; subst ec_; clear en_; have ea_ := Option.some.inj (hx1622_3.symm.trans hx1627_3); injection ea_ with ea_ en_ ec_; subst ea_; subst ec_; clear en_) | ((with_reducible refine gate_callee (f := 145) rfl ?_); refine goesL_ (some 45) rfl rfl Try.func145 (by kernel_rfl) rfl #[.slice A1622_3 ((rd_T40 l0 x5_1).f3).length c1622_3, .int .i64 t1626] rfl (by (try simp only [List.map_toArray, List.map_cons, List.map_nil]); rfl) ?_; (with_reducible refine (laws_heldBoolS.calls k1 _ _ ((rd_T40 l0 x5_1).f3) t1626 t1628 _ ?side1 ?side2 A10.out).mono ?_); (case side1 => repeat (exact HR1627_3.out)); (case side2 => exact HC1627_3.out); rintro e w' ⟨rfl, ⟨nd, rfl⟩⟩; refine ⟨_, rfl, ?_⟩; have p1629 : 0 ≤ (x5_1 : Int) := of_decide_eq_true (by (with_reducible assumption)); have q1629 : x5_1 < (l0.length : Int) := of_decide_eq_true (by (with_reducible assumption)); obtain ⟨ad1629, A1629_1, c1629_1, A1629_2, c1629_2, A1629_3, c1629_3, e1629, hx1629_0, hx1629_1, hx1629_2, hx1629_3, hx1629_4, hl1629_1, hi1629_1, hl1629_2, hi1629_2, hl1629_3, hi1629_3⟩ := at_T40 HR0.out x5_1 p1629 q1629; obtain rfl : ad1622 = ad1629 := (by injection e1629); have HR1629_1 := Aside0.mk hi1629_1; have HC1629_1 := Aside0.mk hl1629_1; clear hi1629_1 hl1629_1; have HR1629_2 := Aside0.mk hi1629_2; have HC1629_2 := Aside0.mk hl1629_2; clear hi1629_2 hl1629_2; have HR1629_3 := Aside0.mk hi1629_3; have HC1629_3 := Aside0.mk hl1629_3; clear hi1629_3 hl1629_3; replace p1629 := eq_true p1629; replace q1629 := eq_true q1629; have ea_ := Option.some.inj (hx1622_1.symm.trans hx1629_1); injection ea_ with ea_ en_ ec_; subst ea_; subst ec_; clear en_; have ea_ := Option.some.inj (hx1622_2.symm.trans hx1629_2); injection ea_ with ea_ en_ ec_; subst ea_; subst ec_; clear en_; have ea_ := Option.some.inj (hx1622_3.symm.trans hx1629_3); injection ea_ with ea_ en_ ec_; subst ea_; subst ec_; clear en_))
          go_roundg k1
          case measure => have := HK1.out; omega
          case rel => exact ⟨(wrap64 (t1628 + 1)), (wrap64 (x5_1 + 1)), rfl, rfl, H', ⟨by have := HK1.out; omega⟩, by repeat (first | exact Drawn0.refl _ | apply Drawn0.step)⟩
         ·rw [if_neg c12] at H
          have c12b0 : (((rd_T40 l0 x5_1).f4) == t1628) = false := beq_eq_false_iff_ne.mpr c12
          have c12b1 : (((rd_T40 l0 x5_1).f4) != t1628) = true := bne_iff_ne.mpr c12
          obtain rfl := Option.some.inj H
          have p1622 : 0 ≤ (x5_1 : Int) := of_decide_eq_true (by (with_reducible assumption))
          have q1622 : x5_1 < (l0.length : Int) := of_decide_eq_true (by (with_reducible assumption))
          obtain ⟨ad1622, A1622_1, c1622_1, A1622_2, c1622_2, A1622_3, c1622_3, e1622, hx1622_0, hx1622_1, hx1622_2, hx1622_3, hx1622_4, hl1622_1, hi1622_1, hl1622_2, hi1622_2, hl1622_3, hi1622_3⟩ := at_T40 HR0.out x5_1 p1622 q1622
          cases e1622
          have HR1622_1 := Aside0.mk hi1622_1
          have HC1622_1 := Aside0.mk hl1622_1
          clear hi1622_1 hl1622_1
          have HR1622_2 := Aside0.mk hi1622_2
          have HC1622_2 := Aside0.mk hl1622_2
          clear hi1622_2 hl1622_2
          have HR1622_3 := Aside0.mk hi1622_3
          have HC1622_3 := Aside0.mk hl1622_3
          clear hi1622_3 hl1622_3
          replace p1622 := eq_true p1622
          replace q1622 := eq_true q1622
          have p1623 : 0 ≤ (x5_1 : Int) := of_decide_eq_true (by (with_reducible assumption))
          have q1623 : x5_1 < (l0.length : Int) := of_decide_eq_true (by (with_reducible assumption))
          obtain ⟨ad1623, A1623_1, c1623_1, A1623_2, c1623_2, A1623_3, c1623_3, e1623, hx1623_0, hx1623_1, hx1623_2, hx1623_3, hx1623_4, hl1623_1, hi1623_1, hl1623_2, hi1623_2, hl1623_3, hi1623_3⟩ := at_T40 HR0.out x5_1 p1623 q1623
          obtain rfl : ad1622 = ad1623 := (by injection e1623)
          have HR1623_1 := Aside0.mk hi1623_1
          have HC1623_1 := Aside0.mk hl1623_1
          clear hi1623_1 hl1623_1
          have HR1623_2 := Aside0.mk hi1623_2
          have HC1623_2 := Aside0.mk hl1623_2
          clear hi1623_2 hl1623_2
          have HR1623_3 := Aside0.mk hi1623_3
          have HC1623_3 := Aside0.mk hl1623_3
          clear hi1623_3 hl1623_3
          replace p1623 := eq_true p1623
          replace q1623 := eq_true q1623
          have ea_ := Option.some.inj (hx1622_1.symm.trans hx1623_1)
          injection ea_ with ea_ en_ ec_
          subst ea_
          subst ec_
          clear en_
          have ea_ := Option.some.inj (hx1622_2.symm.trans hx1623_2)
          injection ea_ with ea_ en_ ec_
          subst ea_
          subst ec_
          clear en_
          have ea_ := Option.some.inj (hx1622_3.symm.trans hx1623_3)
          injection ea_ with ea_ en_ ec_
          subst ea_
          subst ec_
          clear en_
          go_wp2_with (first | ((with_reducible refine gate_callee (f := 144) rfl ?_); refine goesL_ (some 27) rfl rfl Try.func144 (by kernel_rfl) rfl #[.slice A1622_1 ((rd_T40 l0 x5_1).f1).length c1622_1, .int .i64 (wrap64 (x1_1 + 1))] rfl (by (try simp only [List.map_toArray, List.map_cons, List.map_nil]); rfl) ?_; (with_reducible refine (laws_heldRowS.calls k1 _ _ ((rd_T40 l0 x5_1).f1) (wrap64 (x1_1 + 1)) t1624 _ ?side1 ?side2 A6.out).mono ?_); (case side1 => repeat (exact HR1623_1.out)); (case side2 => exact HC1623_1.out); rintro e w' ⟨rfl, ⟨nd, rfl⟩⟩; refine ⟨_, rfl, ?_⟩; have p1625 : 0 ≤ (x5_1 : Int) := of_decide_eq_true (by (with_reducible assumption)); have q1625 : x5_1 < (l0.length : Int) := of_decide_eq_true (by (with_reducible assumption)); obtain ⟨ad1625, A1625_1, c1625_1, A1625_2, c1625_2, A1625_3, c1625_3, e1625, hx1625_0, hx1625_1, hx1625_2, hx1625_3, hx1625_4, hl1625_1, hi1625_1, hl1625_2, hi1625_2, hl1625_3, hi1625_3⟩ := at_T40 HR0.out x5_1 p1625 q1625; obtain rfl : ad1622 = ad1625 := (by injection e1625); have HR1625_1 := Aside0.mk hi1625_1; have HC1625_1 := Aside0.mk hl1625_1; clear hi1625_1 hl1625_1; have HR1625_2 := Aside0.mk hi1625_2; have HC1625_2 := Aside0.mk hl1625_2; clear hi1625_2 hl1625_2; have HR1625_3 := Aside0.mk hi1625_3; have HC1625_3 := Aside0.mk hl1625_3; clear hi1625_3 hl1625_3; replace p1625 := eq_true p1625; replace q1625 := eq_true q1625; have ea_ := Option.some.inj (hx1622_1.symm.trans hx1625_1); injection ea_ with ea_ en_ ec_; subst ea_; subst ec_; clear en_; have ea_ := Option.some.inj (hx1622_2.symm.trans hx1625_2); injection ea_ with ea_ en_ ec_; subst ea_; subst ec_; clear en_; have ea_ := Option.some.inj (hx1622_3.symm.trans hx1625_3); injection ea_ with ea_ en_ ec_; subst ea_; subst ec_; clear en_) | ((with_reducible refine gate_callee (f := 144) rfl ?_); refine goesL_ (some 36) rfl rfl Try.func144 (by kernel_rfl) rfl #[.slice A1622_2 ((rd_T40 l0 x5_1).f2).length c1622_2, .int .i64 t1624] rfl (by (try simp only [List.map_toArray, List.map_cons, List.map_nil]); rfl) ?_; (with_reducible refine (laws_heldRowS.calls k1 _ _ ((rd_T40 l0 x5_1).f2) t1624 t1626 _ ?side1 ?side2 A8.out).mono ?_); (case side1 => repeat (exact HR1625_2.out)); (case side2 => exact HC1625_2.out); rintro e w' ⟨rfl, ⟨nd, rfl⟩⟩; refine ⟨_, rfl, ?_⟩; have p1627 : 0 ≤ (x5_1 : Int) := of_decide_eq_true (by (with_reducible assumption)); have q1627 : x5_1 < (l0.length : Int) := of_decide_eq_true (by (with_reducible assumption)); obtain ⟨ad1627, A1627_1, c1627_1, A1627_2, c1627_2, A1627_3, c1627_3, e1627, hx1627_0, hx1627_1, hx1627_2, hx1627_3, hx1627_4, hl1627_1, hi1627_1, hl1627_2, hi1627_2, hl1627_3, hi1627_3⟩ := at_T40 HR0.out x5_1 p1627 q1627; obtain rfl : ad1622 = ad1627 := (by injection e1627); have HR1627_1 := Aside0.mk hi1627_1; have HC1627_1 := Aside0.mk hl1627_1; clear hi1627_1 hl1627_1; have HR1627_2 := Aside0.mk hi1627_2; have HC1627_2 := Aside0.mk hl1627_2; clear hi1627_2 hl1627_2; have HR1627_3 := Aside0.mk hi1627_3; have HC1627_3 := Aside0.mk hl1627_3; clear hi1627_3 hl1627_3; replace p1627 := eq_true p1627; replace q1627 := eq_true q1627; have ea_ := Option.some.inj (hx1622_1.symm.trans hx1627_1); injection ea_ with ea_ en_ ec_; subst ea_; subst ec_; clear en_; have ea_ := Option.some.inj (hx1622_2.symm.trans hx1627_2); injection ea_ with ea_ en_ ec_; subst ea_; subst ec_; clear en_; have ea_ := Option.some.inj (hx1622_3.symm.trans hx1627_3); injection ea_ with ea_ en_ ec_; subst ea_; subst ec_; clear en_) | ((with_reducible refine gate_callee (f := 145) rfl ?_); refine goesL_ (some 45) rfl rfl Try.func145 (by kernel_rfl) rfl #[.slice A1622_3 ((rd_T40 l0 x5_1).f3).length c1622_3, .int .i64 t1626] rfl (by (try simp only [List.map_toArray, List.map_cons, List.map_nil]); rfl) ?_; (with_reducible refine (laws_heldBoolS.calls k1 _ _ ((rd_T40 l0 x5_1).f3) t1626 t1628 _ ?side1 ?side2 A10.out).mono ?_); (case side1 => repeat (exact HR1627_3.out)); (case side2 => exact HC1627_3.out); rintro e w' ⟨rfl, ⟨nd, rfl⟩⟩; refine ⟨_, rfl, ?_⟩; have p1629 : 0 ≤ (x5_1 : Int) := of_decide_eq_true (by (with_reducible assumption)); have q1629 : x5_1 < (l0.length : Int) := of_decide_eq_true (by (with_reducible assumption)); obtain ⟨ad1629, A1629_1, c1629_1, A1629_2, c1629_2, A1629_3, c1629_3, e1629, hx1629_0, hx1629_1, hx1629_2, hx1629_3, hx1629_4, hl1629_1, hi1629_1, hl1629_2, hi1629_2, hl1629_3, hi1629_3⟩ := at_T40 HR0.out x5_1 p1629 q1629; obtain rfl : ad1622 = ad1629 := (by injection e1629); have HR1629_1 := Aside0.mk hi1629_1; have HC1629_1 := Aside0.mk hl1629_1; clear hi1629_1 hl1629_1; have HR1629_2 := Aside0.mk hi1629_2; have HC1629_2 := Aside0.mk hl1629_2; clear hi1629_2 hl1629_2; have HR1629_3 := Aside0.mk hi1629_3; have HC1629_3 := Aside0.mk hl1629_3; clear hi1629_3 hl1629_3; replace p1629 := eq_true p1629; replace q1629 := eq_true q1629; have ea_ := Option.some.inj (hx1622_1.symm.trans hx1629_1); injection ea_ with ea_ en_ ec_; subst ea_; subst ec_; clear en_; have ea_ := Option.some.inj (hx1622_2.symm.trans hx1629_2); injection ea_ with ea_ en_ ec_; subst ea_; subst ec_; clear en_; have ea_ := Option.some.inj (hx1622_3.symm.trans hx1629_3); injection ea_ with ea_ en_ ec_; subst ea_; subst ec_; clear en_))
          go_ret
          exact ⟨rfl, by repeat (first | exact Drawn0.refl _ | apply Drawn0.step)⟩
     ·rw [if_neg c5] at H
      have c5b0 : (((rd_T40 l0 x5_1).f0) == x1_1) = false := beq_eq_false_iff_ne.mpr c5
      have c5b1 : (((rd_T40 l0 x5_1).f0) != x1_1) = true := bne_iff_ne.mpr c5
      obtain rfl := Option.some.inj H
      have p1622 : 0 ≤ (x5_1 : Int) := of_decide_eq_true (by (with_reducible assumption))
      have q1622 : x5_1 < (l0.length : Int) := of_decide_eq_true (by (with_reducible assumption))
      obtain ⟨ad1622, A1622_1, c1622_1, A1622_2, c1622_2, A1622_3, c1622_3, e1622, hx1622_0, hx1622_1, hx1622_2, hx1622_3, hx1622_4, hl1622_1, hi1622_1, hl1622_2, hi1622_2, hl1622_3, hi1622_3⟩ := at_T40 HR0.out x5_1 p1622 q1622
      cases e1622
      have HR1622_1 := Aside0.mk hi1622_1
      have HC1622_1 := Aside0.mk hl1622_1
      clear hi1622_1 hl1622_1
      have HR1622_2 := Aside0.mk hi1622_2
      have HC1622_2 := Aside0.mk hl1622_2
      clear hi1622_2 hl1622_2
      have HR1622_3 := Aside0.mk hi1622_3
      have HC1622_3 := Aside0.mk hl1622_3
      clear hi1622_3 hl1622_3
      replace p1622 := eq_true p1622
      replace q1622 := eq_true q1622
      go_wp2
      go_ret
      exact ⟨rfl, by repeat (first | exact Drawn0.refl _ | apply Drawn0.step)⟩
    ·rw [if_neg c4] at H
     exact absurd H (by simp)
   ·rw [if_neg c3] at H
    have c3b0 : decide (x5_1 < (l0.length : Int)) = false := decide_eq_false c3
    clear c3
    obtain rfl := Option.some.inj H
    go_wp2
    go_ret
    exact ⟨rfl, by repeat (first | exact Drawn0.refl _ | apply Drawn0.step)⟩

def laws_heldJoiner.f (k : Nat) (l0_0 : List (S40)) (a0_1 : Int) (a0_2 : Int) (a1 : Int) : Option (Int) := (laws_heldTaskS.f k l0_0 a1).bind fun t1631 => (if t1631 < 0 then (some (-1)) else (some t1631))
theorem laws_heldJoiner.calls (k : Nat) (A0_0 : Option Addr) (c0_0 : Nat) (l0_0 : List (S40)) (a0_1 : Int) (a0_2 : Int) (a1 : Int) (r : Int) (w : World) (hr0_0 : Kd.C k40 w A0_0 l0_0.length l0_0) (hc0_0 : l0_0.length ≤ c0_0) (h : laws_heldJoiner.f k l0_0 a0_1 a0_2 a1 = some r) :
  Calls Try.prog 55 #[.agg #[.slice A0_0 l0_0.length c0_0, .int .i64 a0_1, .int .i64 a0_2], .int .i64 a1] w fun e w' => e = .returned (.int .i64 r) ∧ Below w.heap.size w w' := by
 have hu68 := Try.underlying68
 have HR0_0 := Aside0.mk hr0_0
 have HC0_0 := Aside0.mk hc0_0
 clear hr0_0 hc0_0
 have HB := Aside0.mk (Below.refl w.heap.size w)
 have H : ((laws_heldTaskS.f k l0_0 a1).bind fun t1631 => (if t1631 < 0 then (some (-1)) else (some t1631))) = some r := h
 clear h
 replace H := Option.bind_eq_some_iff.mp H
 obtain ⟨t1631, A30, H⟩ := H
 have A3 := Aside0.mk A30
 clear A30
 by_cases c4 : t1631 < 0
 ·rw [if_pos c4] at H
  have c4b0 : decide (t1631 < 0) = true := decide_eq_true c4
  clear c4
  obtain rfl := Option.some.inj H
  go_enter Try.func55, Try.ntmps55
  go_wp2_with (first | ((with_reducible refine gate_dst (N := 2) rfl ?_); refine box_event ?hg (N := 2) ?hd (cs := #[.slice A0_0 l0_0.length c0_0, .int .i64 a0_1, .int .i64 a0_2]) (t := 68) ?hr ?_; (case hd => rfl); (case hg => rfl); (case hr => (go_simp; done)); intro gb1630 hg w5 hbox hb; have n0_ := Aside0.mk (below_step HB.out hb); have n1_ := Aside0.mk (hbox); have n2_ := Aside0.mk ((by rw [hg]; exact (below_size HB.out) : w.heap.size ≤ gb1630)); have n3_ := Aside0.mk ((by rw [hg]; exact (below_size HB.out) : w.heap.size ≤ gb1630)); clear HB; have HB := n0_; have BK1630 := n1_; have GW1630 := n2_; have GE1630 := n3_; clear n0_ n1_ n2_ n3_; clear hb hbox hg; have hcz6_0 : w5.cell? ⟨gb1630, 0, none⟩ = some (.slice A0_0 l0_0.length c0_0) := (blk_cell BK1630.out 0).trans rfl; have hcz6_1 : w5.cell? ⟨gb1630, 1, none⟩ = some (.int .i64 a0_1) := (blk_cell BK1630.out 1).trans rfl; have hcz6_2 : w5.cell? ⟨gb1630, 2, none⟩ = some (.int .i64 a0_2) := (blk_cell BK1630.out 2).trans rfl; have hfz6_0 := blk_frozen BK1630.out 0; have hfz6_1 := blk_frozen BK1630.out 1; have hfz6_2 := blk_frozen BK1630.out 2) | ((with_reducible refine gate_callee (f := 153) rfl ?_); refine goesL_ (some 8) rfl rfl Try.func153 (by kernel_rfl) rfl #[.slice A0_0 l0_0.length c0_0, .int .i64 a1] rfl (by (try simp only [List.map_toArray, List.map_cons, List.map_nil]); rfl) ?_; (with_reducible refine (laws_heldTaskS.calls k _ _ l0_0 a1 t1631 _ ?side1 ?side2 A3.out).mono ?_); (case side1 => repeat (exact (Kd.C_below HR0_0.out HB.out))); (case side2 => exact HC0_0.out); rintro e w' ⟨rfl, ⟨nd, rfl⟩⟩; refine ⟨_, rfl, ?_⟩))
  go_ret
  exact ⟨rfl, by repeat ((with_reducible first | exact HB.out | apply pw_below_drewN))⟩
 ·rw [if_neg c4] at H
  have c4b0 : decide (t1631 < 0) = false := decide_eq_false c4
  clear c4
  obtain rfl := Option.some.inj H
  go_enter Try.func55, Try.ntmps55
  go_wp2_with (first | ((with_reducible refine gate_dst (N := 2) rfl ?_); refine box_event ?hg (N := 2) ?hd (cs := #[.slice A0_0 l0_0.length c0_0, .int .i64 a0_1, .int .i64 a0_2]) (t := 68) ?hr ?_; (case hd => rfl); (case hg => rfl); (case hr => (go_simp; done)); intro gb1630 hg w7 hbox hb; have n0_ := Aside0.mk (below_step HB.out hb); have n1_ := Aside0.mk (hbox); have n2_ := Aside0.mk ((by rw [hg]; exact (below_size HB.out) : w.heap.size ≤ gb1630)); have n3_ := Aside0.mk ((by rw [hg]; exact (below_size HB.out) : w.heap.size ≤ gb1630)); clear HB; have HB := n0_; have BK1630 := n1_; have GW1630 := n2_; have GE1630 := n3_; clear n0_ n1_ n2_ n3_; clear hb hbox hg; have hcz8_0 : w7.cell? ⟨gb1630, 0, none⟩ = some (.slice A0_0 l0_0.length c0_0) := (blk_cell BK1630.out 0).trans rfl; have hcz8_1 : w7.cell? ⟨gb1630, 1, none⟩ = some (.int .i64 a0_1) := (blk_cell BK1630.out 1).trans rfl; have hcz8_2 : w7.cell? ⟨gb1630, 2, none⟩ = some (.int .i64 a0_2) := (blk_cell BK1630.out 2).trans rfl; have hfz8_0 := blk_frozen BK1630.out 0; have hfz8_1 := blk_frozen BK1630.out 1; have hfz8_2 := blk_frozen BK1630.out 2) | ((with_reducible refine gate_callee (f := 153) rfl ?_); refine goesL_ (some 8) rfl rfl Try.func153 (by kernel_rfl) rfl #[.slice A0_0 l0_0.length c0_0, .int .i64 a1] rfl (by (try simp only [List.map_toArray, List.map_cons, List.map_nil]); rfl) ?_; (with_reducible refine (laws_heldTaskS.calls k _ _ l0_0 a1 t1631 _ ?side1 ?side2 A3.out).mono ?_); (case side1 => repeat (exact (Kd.C_below HR0_0.out HB.out))); (case side2 => exact HC0_0.out); rintro e w' ⟨rfl, ⟨nd, rfl⟩⟩; refine ⟨_, rfl, ?_⟩))
  go_ret
  exact ⟨rfl, by repeat ((with_reducible first | exact HB.out | apply pw_below_drewN))⟩

end Go.Proofs.Ytobndcjmjhehjaa.P
namespace Go.Proofs.Ytobndcjmjhehjaa.P
open Go.RowKit Go.Proofs.YtobndcjmjhehjaaW.PrintWords Go.Proofs.YtobndcjmjhehjaaW.PrintLast Go.Proofs.YtobndcjmjhehjaaW.PrintMore
attribute [local go_sem] max2_int min2_int max_two min_two max_three min_three max_four min_four   -- for this text's walks alone
set_option linter.unusedVariables false
set_option linter.unusedSimpArgs false

theorem World.size_set3 {W : World} {g a b c n : Nat} {u v x : Value} (h : n < W.heap.size) : n < (((W.setCell ⟨g, a, none⟩ u).setCell ⟨g, b, none⟩ v).setCell ⟨g, c, none⟩ x).heap.size :=
 by simp [World.setCell]; exact h
def laws_FnExactParseJoiner.f (k : Nat) (a0 : ByteArray) : Option Bool := if (a0.size : Int) > 1048576 then some true else ((spec_ParseJoiner.f k a0).bind fun s => (impl_ParseJoiner.f k a0).bind fun g => (laws_eqJoiner.f k g.1 g.2.1 g.2.2.1 s.1 s.2.1 s.2.2.1).bind fun e => if e = true ∧ g.2.2.2 = s.2.2.2 then ((laws_markJoiner.f k g.1 g.2.1 g.2.2.1 1).bind fun m => (laws_heldJoiner.f k m.2 g.2.1 g.2.2.1 1).bind fun q => if ¬ (q < 0) ∧ q = m.1 then some true else none) else none)
theorem laws_FnExactParseJoiner.calls (k : Nat) (a0 : ByteArray) (r : Bool) (w : World) (h : laws_FnExactParseJoiner.f k a0 = some r) :
  Calls Try.prog 7 #[.string a0] w fun e w' => e = .returned (.bool r) ∧ Below w.heap.size w w' := by
 have hu24 := Try.underlying68
 have HB := Aside0.mk (Below.refl w.heap.size w)
 unfold laws_FnExactParseJoiner.f at h
 by_cases c2 : (a0.size : Int) > 1048576
 ·rw [if_pos c2] at h
  have c2b0 : decide (1048576 < (a0.size : Int)) = true := decide_eq_true c2
  have c2b1 : decide (1048576 < a0.size) = true := decide_eq_true (by omega)
  clear c2
  obtain rfl := Option.some.inj h
  go_enter Try.func7, Try.ntmps7
  go_wp2
  go_ret
  exact ⟨rfl, HB.out⟩
 ·rw [if_neg c2] at h
  have c2b0 : decide (1048576 < (a0.size : Int)) = false := decide_eq_false c2
  have c2b1 : decide (1048576 < a0.size) = false := decide_eq_false (by omega)
  clear c2
  obtain ⟨⟨s1, s2, s3, s4⟩, A1, h1⟩ := Option.bind_eq_some_iff.mp h
  clear h
  obtain ⟨⟨g1, g2, g3, g4⟩, A2, h2⟩ := Option.bind_eq_some_iff.mp h1
  clear h1
  obtain ⟨e, A3, h⟩ := Option.bind_eq_some_iff.mp h2
  clear h2
  dsimp only at A3 h
  by_cases c3 : e = true ∧ g4 = s4
  case neg => rw [if_neg c3] at h; cases h
  case pos =>
   rw [if_pos c3] at h
   obtain ⟨rfl, c3⟩ := c3
   obtain rfl : s4 = g4 := c3.symm
   obtain ⟨⟨m1, m2⟩, A4, h1⟩ := Option.bind_eq_some_iff.mp h
   clear h
   obtain ⟨q, A5, h⟩ := Option.bind_eq_some_iff.mp h1
   clear h1
   dsimp only at A4 A5 h
   by_cases c4 : ¬ (q < 0) ∧ q = m1
   case neg => rw [if_neg c4] at h; cases h
   case pos =>
    rw [if_pos c4] at h
    obtain ⟨c5, c6⟩ := c4
    obtain rfl : m1 = q := c6.symm
    have c5b0 : decide (m1 < 0) = false := decide_eq_false c5
    clear c5
    obtain rfl := Option.some.inj h
    clear h
    replace A1 := Aside0.mk A1
    replace A2 := Aside0.mk A2
    replace A3 := Aside0.mk A3
    replace A4 := Aside0.mk A4
    replace A5 := Aside0.mk A5
    go_enter Try.func7, Try.ntmps7
    go_wp2_with (first | ((with_reducible refine gate_callee (f := 51) rfl ?_); refine goesL_ (some 16) rfl rfl Try.func51 (by kernel_rfl) rfl #[.string a0] rfl (by (try simp only [List.map_toArray, List.map_cons, List.map_nil]); rfl) ?_; (with_reducible refine (spec_ParseJoiner.calls k a0 s1 s2 s3 s4 _ A1.out).mono ?_); rintro e w1 ⟨vs, rfl, ho, hb⟩; refine ⟨_, rfl, ?_⟩; have n0_ := Aside0.mk (Kd.S_mono (ok' := fun k_ => k_ < w1.heap.size) (Kd.S_bound ho) (fun _ h_ => h_.2.2.1)); have n1_ := Aside0.mk (below_step HB.out hb); (try clear HS); (try clear HB); have HS := n0_; have HB := n1_; clear n0_ n1_; clear ho hb; obtain ⟨As, cs, es⟩ := Kd.S_slice HS.out; subst es) | ((with_reducible refine gate_dst (N := 3) rfl ?_); refine box_event ?hg (N := 3) ?hd (cs := #[.slice none 0 0, .int .i64 0, .int .i64 0]) (t := 68) ?hr ?_; (case hd => rfl); (case hg => rfl); (case hr => (go_simp; done)); intro gb3 hg w2 hbox hb; have n0_ := Aside0.mk (Kd.S_below HS.out hb); have n1_ := Aside0.mk ((by rw [hg]; exact (below_size HB.out) : w.heap.size ≤ gb3)); have n2_ := Aside0.mk (below_step HB.out hb); have n3_ := Aside0.mk (hbox); have n4_ := Aside0.mk (by rw [hg]; exact Nat.le_refl _ : w1.heap.size ≤ gb3); (try clear HS); (try clear GW3); (try clear HB); (try clear BK3); (try clear GS3); have HS := n0_; have GW3 := n1_; have HB := n2_; have BK3 := n3_; have GS3 := n4_; clear n0_ n1_ n2_ n3_ n4_; clear hb hbox hg; have hcza_0 : w2.cell? ⟨gb3, 0, none⟩ = some (.slice none 0 0) := (blk_cell BK3.out 0).trans rfl; have hcza_1 : w2.cell? ⟨gb3, 1, none⟩ = some (.int .i64 0) := (blk_cell BK3.out 1).trans rfl; have hcza_2 : w2.cell? ⟨gb3, 2, none⟩ = some (.int .i64 0) := (blk_cell BK3.out 2).trans rfl; have hfza_0 := blk_frozen BK3.out 0; have hfza_1 := blk_frozen BK3.out 1; have hfza_2 := blk_frozen BK3.out 2) | ((with_reducible refine gate_callee (f := 52) rfl ?_); refine goesL_ (some 21) rfl rfl Try.func52 (by kernel_rfl) rfl #[.string a0] rfl (by (try simp only [List.map_toArray, List.map_cons, List.map_nil]); rfl) ?_; (with_reducible refine (impl_ParseJoiner.calls k a0 g1 g2 g3 s4 _ A2.out).mono ?_); rintro e w3 ⟨vg, rfl, ho, hb⟩; refine ⟨_, rfl, ?_⟩; have n0_ := Aside0.mk (Kd.S_lower (Kd.S_mono (ok' := fun k_ => gb3 < k_ ∧ k_ < w3.heap.size) (Kd.S_bound ho) (fun k_ h_ => ⟨Nat.lt_of_lt_of_le (World.size_set3 (blk_lt BK3.out)) h_.2.1, h_.2.2.1⟩)) (below_size (by repeat (with_reducible first | exact HB.out | refine below_set ?_ GW3.out)))); have n1_ := Aside0.mk (Kd.S_below (by exact Kd.S_far (Kd.S_far (Kd.S_far HS.out (fun k_ hk_ => Nat.ne_of_lt (Nat.lt_of_lt_of_le hk_ GS3.out)) _) (fun k_ hk_ => Nat.ne_of_lt (Nat.lt_of_lt_of_le hk_ GS3.out)) _) (fun k_ hk_ => Nat.ne_of_lt (Nat.lt_of_lt_of_le hk_ GS3.out)) _) hb); have n2_ := Aside0.mk (blk_below (g := gb3) (o := .cells #[.slice As s1.length cs, .int .i64 s2, .int .i64 s3] 68 (0, 0)) (by refine blk_put (cs := #[.slice As s1.length cs, .int .i64 s2, .int .i64 0]) ?_ 2 _ rfl; refine blk_put (cs := #[.slice As s1.length cs, .int .i64 0, .int .i64 0]) ?_ 1 _ rfl; refine blk_put (cs := #[.slice none 0 0, .int .i64 0, .int .i64 0]) ?_ 0 _ rfl; exact BK3.out) hb); have n3_ := Aside0.mk (below_step (by repeat (with_reducible first | exact HB.out | refine below_set ?_ GW3.out)) hb); (try clear HG); (try clear HS); (try clear BK3); (try clear HB); have HG := n0_; have HS := n1_; have BK3 := n2_; have HB := n3_; clear n0_ n1_ n2_ n3_; clear ho hb; obtain ⟨Ag, cg, eg⟩ := Kd.S_slice HG.out; subst eg; have L3 := Aside0.mk (blk_lt BK3.out)) | ((with_reducible refine gate_dst (N := 5) rfl ?_); refine box_event ?hg (N := 5) ?hd (cs := #[.slice none 0 0, .int .i64 0, .int .i64 0]) (t := 68) ?hr ?_; (case hd => rfl); (case hg => rfl); (case hr => (go_simp; done)); intro gb5 hg w4 hbox hb; have n0_ := Aside0.mk (Kd.S_below HS.out hb); have n1_ := Aside0.mk (Kd.S_below HG.out hb); have n2_ := Aside0.mk (blk_below (g := gb3) (o := .cells #[.slice As s1.length cs, .int .i64 s2, .int .i64 s3] 68 (0, 0)) BK3.out hb); have n3_ := Aside0.mk ((by rw [hg]; exact (below_size HB.out) : w.heap.size ≤ gb5)); have n4_ := Aside0.mk (by rw [hg]; exact Nat.le_refl _ : w3.heap.size ≤ gb5); have n5_ := Aside0.mk ((by rw [hg]; exact Nat.ne_of_lt (blk_lt (g := gb3) n2_.out |> fun _ => (blk_lt BK3.out)) : gb3 ≠ gb5)); have n6_ := Aside0.mk (below_step HB.out hb); have n7_ := Aside0.mk (hbox); (try clear HS); (try clear HG); (try clear BK3); (try clear GW5); (try clear GG5); (try clear N35); (try clear HB); (try clear BK5); have HS := n0_; have HG := n1_; have BK3 := n2_; have GW5 := n3_; have GG5 := n4_; have N35 := n5_; have HB := n6_; have BK5 := n7_; clear n0_ n1_ n2_ n3_ n4_ n5_ n6_ n7_; have GS5 := Aside0.mk (show w1.heap.size ≤ gb5 from Nat.le_trans GS3.out (Nat.le_trans (Nat.le_of_lt L3.out) GG5.out)); have N53 := Aside0.mk (fun e_ => N35.out e_.symm : gb5 ≠ gb3); clear hb hbox hg; have hczb_0 : w4.cell? ⟨gb5, 0, none⟩ = some (.slice none 0 0) := (blk_cell BK5.out 0).trans rfl; have hczb_1 : w4.cell? ⟨gb5, 1, none⟩ = some (.int .i64 0) := (blk_cell BK5.out 1).trans rfl; have hczb_2 : w4.cell? ⟨gb5, 2, none⟩ = some (.int .i64 0) := (blk_cell BK5.out 2).trans rfl; have hfzb_0 := blk_frozen BK5.out 0; have hfzb_1 := blk_frozen BK5.out 1; have hfzb_2 := blk_frozen BK5.out 2; have hczc_0 : w4.cell? ⟨gb3, 0, none⟩ = some (.slice As s1.length cs) := (blk_cell BK3.out 0).trans rfl; have hczc_1 : w4.cell? ⟨gb3, 1, none⟩ = some (.int .i64 s2) := (blk_cell BK3.out 1).trans rfl; have hczc_2 : w4.cell? ⟨gb3, 2, none⟩ = some (.int .i64 s3) := (blk_cell BK3.out 2).trans rfl; have hfzc_0 := blk_frozen BK3.out 0; have hfzc_1 := blk_frozen BK3.out 1; have hfzc_2 := blk_frozen BK3.out 2; have hnb := N35.out; have hnc := N53.out) | ((with_reducible refine gate_callee (f := 53) rfl ?_); refine goesL_ (some 26) rfl rfl Try.func53 (by kernel_rfl) rfl #[.agg #[.slice Ag g1.length cg, .int .i64 g2, .int .i64 g3], .agg #[.slice As s1.length cs, .int .i64 s2, .int .i64 s3]] rfl (by (try simp only [List.map_toArray, List.map_cons, List.map_nil]); rfl) ?_; (with_reducible refine (laws_eqJoiner.calls k _ _ g1 g2 g3 _ _ s1 s2 s3 true _ ?side1 ?side2 ?side3 ?side4 A3.out).mono ?_); (case side1 => refine (Kd.S_reads' (d := k40a) (n := g1.length) (c := cg) (base := w.heap.size) (ok := fun k_ => gb3 < k_ ∧ k_ < w3.heap.size) (e := 40) ?_).2.2; exact (by exact Kd.S_far (Kd.S_far (Kd.S_far HG.out (fun k_ hk_ => Nat.ne_of_lt (Nat.lt_of_lt_of_le hk_.2 GG5.out)) _) (fun k_ hk_ => Nat.ne_of_lt (Nat.lt_of_lt_of_le hk_.2 GG5.out)) _) (fun k_ hk_ => Nat.ne_of_lt (Nat.lt_of_lt_of_le hk_.2 GG5.out)) _)); (case side2 => exact (Kd.S_reads' HG.out).2.1); (case side3 => refine (Kd.S_reads' (d := k40) (n := s1.length) (c := cs) (base := w.heap.size) (ok := fun k_ => k_ < w1.heap.size) (e := 40) ?_).2.2; exact (by exact Kd.S_far (Kd.S_far (Kd.S_far HS.out (fun k_ hk_ => Nat.ne_of_lt (Nat.lt_of_lt_of_le hk_ GS5.out)) _) (fun k_ hk_ => Nat.ne_of_lt (Nat.lt_of_lt_of_le hk_ GS5.out)) _) (fun k_ hk_ => Nat.ne_of_lt (Nat.lt_of_lt_of_le hk_ GS5.out)) _)); (case side4 => exact (Kd.S_reads' HS.out).2.1); rintro e w5 ⟨rfl, hb⟩; refine ⟨_, rfl, ?_⟩; have n0_ := Aside0.mk (Kd.S_below (by exact Kd.S_far (Kd.S_far (Kd.S_far HS.out (fun k_ hk_ => Nat.ne_of_lt (Nat.lt_of_lt_of_le hk_ GS5.out)) _) (fun k_ hk_ => Nat.ne_of_lt (Nat.lt_of_lt_of_le hk_ GS5.out)) _) (fun k_ hk_ => Nat.ne_of_lt (Nat.lt_of_lt_of_le hk_ GS5.out)) _) hb); have n1_ := Aside0.mk (Kd.S_below (by exact Kd.S_far (Kd.S_far (Kd.S_far HG.out (fun k_ hk_ => Nat.ne_of_lt (Nat.lt_of_lt_of_le hk_.2 GG5.out)) _) (fun k_ hk_ => Nat.ne_of_lt (Nat.lt_of_lt_of_le hk_.2 GG5.out)) _) (fun k_ hk_ => Nat.ne_of_lt (Nat.lt_of_lt_of_le hk_.2 GG5.out)) _) hb); have n2_ := Aside0.mk (blk_below (g := gb3) (o := .cells #[.slice As s1.length cs, .int .i64 s2, .int .i64 s3] 68 (0, 0)) (by refine blk_far ?_ N35.out _; refine blk_far ?_ N35.out _; refine blk_far ?_ N35.out _; exact BK3.out) hb); have n3_ := Aside0.mk (blk_below (g := gb5) (o := .cells #[.slice Ag g1.length cg, .int .i64 g2, .int .i64 g3] 68 (0, 0)) (by refine blk_put (cs := #[.slice Ag g1.length cg, .int .i64 g2, .int .i64 0]) ?_ 2 _ rfl; refine blk_put (cs := #[.slice Ag g1.length cg, .int .i64 0, .int .i64 0]) ?_ 1 _ rfl; refine blk_put (cs := #[.slice none 0 0, .int .i64 0, .int .i64 0]) ?_ 0 _ rfl; exact BK5.out) hb); have n4_ := Aside0.mk (below_step (by repeat (with_reducible first | exact HB.out | refine below_set ?_ GW5.out)) hb); (try clear HS); (try clear HG); (try clear BK3); (try clear BK5); (try clear HB); have HS := n0_; have HG := n1_; have BK3 := n2_; have BK5 := n3_; have HB := n4_; clear n0_ n1_ n2_ n3_ n4_; clear hb; have hne_ : (s4 != s4) = false := bne_self_eq_false s4; have hczd_0 : w5.cell? ⟨gb5, 0, none⟩ = some (.slice Ag g1.length cg) := (blk_cell BK5.out 0).trans rfl; have hczd_1 : w5.cell? ⟨gb5, 1, none⟩ = some (.int .i64 g2) := (blk_cell BK5.out 1).trans rfl; have hczd_2 : w5.cell? ⟨gb5, 2, none⟩ = some (.int .i64 g3) := (blk_cell BK5.out 2).trans rfl; have hfzd_0 := blk_frozen BK5.out 0; have hfzd_1 := blk_frozen BK5.out 1; have hfzd_2 := blk_frozen BK5.out 2) | ((with_reducible refine gate_callee (f := 54) rfl ?_); refine goesL_ (some 35) rfl rfl Try.func54 (by kernel_rfl) rfl #[.agg #[.slice Ag g1.length cg, .int .i64 g2, .int .i64 g3], .int .i64 1] rfl (by (try simp only [List.map_toArray, List.map_cons, List.map_nil]); rfl) ?_; (with_reducible refine (laws_markJoiner.calls k (fun k_ => gb3 < k_ ∧ k_ < w3.heap.size) (.slice Ag g1.length cg) g1 g2 g3 1 m1 m2 w _ ?side1 ?side2 A4.out).mono ?_); (case side1 => repeat (with_reducible exact HB.out)); (case side2 => exact HG.out); rintro e w6 ⟨rfl, hy, hb, hkp⟩; refine ⟨_, rfl, ?_⟩; have hlen : g1.length = m2.length := (Kd.S_reads' hy).1; have n0_ := Aside0.mk (Kd.S_step HS.out (fun k_ hk_ hlt_ => hkp.2 k_ hlt_ (fun h_ => Nat.lt_irrefl _ (Nat.lt_trans (Nat.lt_of_lt_of_le hk_ GS3.out) h_.1)))); have n1_ := Aside0.mk (Kd.S_mono (ok' := fun k_ => k_ < w6.heap.size) (Kd.S_bound hy) (fun _ h_ => h_.2.2.1)); have n2_ := Aside0.mk (blk_kept BK3.out hkp (fun h_ => Nat.lt_irrefl _ h_.1)); have n3_ := Aside0.mk (blk_kept BK5.out hkp (fun h_ => Nat.lt_irrefl _ (Nat.lt_of_lt_of_le h_.2 GG5.out))); have n4_ := Aside0.mk (hb : Below w.heap.size w w6); (try clear HS); (try clear HG); (try clear BK3); (try clear BK5); (try clear HB); have HS := n0_; have HG := n1_; have BK3 := n2_; have BK5 := n3_; have HB := n4_; clear n0_ n1_ n2_ n3_ n4_; clear hy hb hkp; rw [hlen] at HG BK5; clear hlen; have hcze_0 : w6.cell? ⟨gb5, 0, none⟩ = some (.slice Ag m2.length cg) := (blk_cell BK5.out 0).trans rfl; have hcze_1 : w6.cell? ⟨gb5, 1, none⟩ = some (.int .i64 g2) := (blk_cell BK5.out 1).trans rfl; have hcze_2 : w6.cell? ⟨gb5, 2, none⟩ = some (.int .i64 g3) := (blk_cell BK5.out 2).trans rfl; have hfze_0 := blk_frozen BK5.out 0; have hfze_1 := blk_frozen BK5.out 1; have hfze_2 := blk_frozen BK5.out 2) | ((with_reducible refine gate_callee (f := 55) rfl ?_); refine goesL_ (some 38) rfl rfl Try.func55 (by kernel_rfl) rfl #[.agg #[.slice Ag m2.length cg, .int .i64 g2, .int .i64 g3], .int .i64 1] rfl (by (try simp only [List.map_toArray, List.map_cons, List.map_nil]); rfl) ?_; (with_reducible refine (laws_heldJoiner.calls k _ _ m2 g2 g3 1 m1 _ ?side1 ?side2 A5.out).mono ?_); (case side1 => refine (Kd.S_reads' (d := k40a) (n := m2.length) (c := cg) (base := w.heap.size) (ok := fun k_ => k_ < w6.heap.size) (e := 40) ?_).2.2; exact HG.out); (case side2 => exact (Kd.S_reads' HG.out).2.1); rintro e w7 ⟨rfl, hb⟩; refine ⟨_, rfl, ?_⟩; have n0_ := Aside0.mk (Kd.S_below HS.out hb); have n1_ := Aside0.mk (Kd.S_below HG.out hb); have n2_ := Aside0.mk (blk_below (g := gb3) (o := .cells #[.slice As s1.length cs, .int .i64 s2, .int .i64 s3] 68 (0, 0)) BK3.out hb); have n3_ := Aside0.mk (blk_below (g := gb5) (o := .cells #[.slice Ag m2.length cg, .int .i64 g2, .int .i64 g3] 68 (0, 0)) BK5.out hb); have n4_ := Aside0.mk (below_step HB.out hb); (try clear HS); (try clear HG); (try clear BK3); (try clear BK5); (try clear HB); have HS := n0_; have HG := n1_; have BK3 := n2_; have BK5 := n3_; have HB := n4_; clear n0_ n1_ n2_ n3_ n4_; have L67 := Aside0.mk (show w6.heap.size ≤ w7.heap.size from hb.size); clear hb; have hq_ : (m1 != m1) = false := bne_self_eq_false m1) | ((with_reducible refine gate_callee (f := 52) rfl ?_); refine goesL_ (some 46) rfl rfl Try.func52 (by kernel_rfl) rfl #[.string a0] rfl (by (try simp only [List.map_toArray, List.map_cons, List.map_nil]); rfl) ?_; (with_reducible refine (impl_ParseJoiner.calls k a0 g1 g2 g3 s4 _ A2.out).mono ?_); rintro e w8 ⟨vh, rfl, ho, hb⟩; refine ⟨_, rfl, ?_⟩; have n0_ := Aside0.mk (Kd.S_lower (Kd.S_mono (ok' := fun k_ => k_ < w8.heap.size) (Kd.S_bound ho) (fun _ h_ => h_.2.2.1)) (below_size HB.out)); have n1_ := Aside0.mk (Kd.S_below HS.out hb); have n2_ := Aside0.mk (Kd.S_below HG.out hb); have n3_ := Aside0.mk (blk_below (g := gb3) (o := .cells #[.slice As s1.length cs, .int .i64 s2, .int .i64 s3] 68 (0, 0)) BK3.out hb); have n4_ := Aside0.mk (blk_below (g := gb5) (o := .cells #[.slice Ag m2.length cg, .int .i64 g2, .int .i64 g3] 68 (0, 0)) BK5.out hb); have n5_ := Aside0.mk (below_step HB.out hb); (try clear HH); (try clear HS); (try clear HG); (try clear BK3); (try clear BK5); (try clear HB); have HH := n0_; have HS := n1_; have HG := n2_; have BK3 := n3_; have BK5 := n4_; have HB := n5_; clear n0_ n1_ n2_ n3_ n4_ n5_; clear ho; have L68 := Aside0.mk (show w6.heap.size ≤ w8.heap.size from Nat.le_trans L67.out hb.size); have L18 := Aside0.mk (show w1.heap.size ≤ w8.heap.size from Nat.le_trans GS3.out (Nat.le_of_lt (blk_lt BK3.out))); clear hb; obtain ⟨Ah, ch, eh⟩ := Kd.S_slice HH.out; subst eh) | ((with_reducible refine gate_dst (N := 9) rfl ?_); refine box_event ?hg (N := 9) ?hd (cs := #[.slice none 0 0, .int .i64 0, .int .i64 0]) (t := 68) ?hr ?_; (case hd => rfl); (case hg => rfl); (case hr => (go_simp; done)); intro gb9 hg w9 hbox hb; have n0_ := Aside0.mk (Kd.S_below HS.out hb); have n1_ := Aside0.mk (Kd.S_below HG.out hb); have n2_ := Aside0.mk (Kd.S_below HH.out hb); have n3_ := Aside0.mk ((by rw [hg]; exact Nat.ne_of_lt (blk_lt BK3.out) : gb3 ≠ gb9)); have n4_ := Aside0.mk ((by rw [hg]; exact Nat.ne_of_lt (blk_lt BK5.out) : gb5 ≠ gb9)); have n5_ := Aside0.mk (blk_below (g := gb3) (o := .cells #[.slice As s1.length cs, .int .i64 s2, .int .i64 s3] 68 (0, 0)) BK3.out hb); have n6_ := Aside0.mk (blk_below (g := gb5) (o := .cells #[.slice Ag m2.length cg, .int .i64 g2, .int .i64 g3] 68 (0, 0)) BK5.out hb); have n7_ := Aside0.mk ((by rw [hg]; exact (below_size HB.out) : w.heap.size ≤ gb9)); have n8_ := Aside0.mk (by rw [hg]; exact Nat.le_refl _ : w8.heap.size ≤ gb9); have n9_ := Aside0.mk (below_step HB.out hb); have n10_ := Aside0.mk (hbox); (try clear HS); (try clear HG); (try clear HH); (try clear N39); (try clear N59); (try clear BK3); (try clear BK5); (try clear GW9); (try clear GH9); (try clear HB); (try clear BK9); have HS := n0_; have HG := n1_; have HH := n2_; have N39 := n3_; have N59 := n4_; have BK3 := n5_; have BK5 := n6_; have GW9 := n7_; have GH9 := n8_; have HB := n9_; have BK9 := n10_; clear n0_ n1_ n2_ n3_ n4_ n5_ n6_ n7_ n8_ n9_ n10_; have GS9 := Aside0.mk (show w1.heap.size ≤ gb9 from Nat.le_trans L18.out GH9.out); have GG9 := Aside0.mk (show w6.heap.size ≤ gb9 from Nat.le_trans L68.out GH9.out); have N93 := Aside0.mk (fun e_ => N39.out e_.symm : gb9 ≠ gb3); have N95 := Aside0.mk (fun e_ => N59.out e_.symm : gb9 ≠ gb5); clear hb hbox hg; have hczh_0 : w9.cell? ⟨gb9, 0, none⟩ = some (.slice none 0 0) := (blk_cell BK9.out 0).trans rfl; have hczh_1 : w9.cell? ⟨gb9, 1, none⟩ = some (.int .i64 0) := (blk_cell BK9.out 1).trans rfl; have hczh_2 : w9.cell? ⟨gb9, 2, none⟩ = some (.int .i64 0) := (blk_cell BK9.out 2).trans rfl; have hfzh_0 := blk_frozen BK9.out 0; have hfzh_1 := blk_frozen BK9.out 1; have hfzh_2 := blk_frozen BK9.out 2; have hczi_0 : w9.cell? ⟨gb3, 0, none⟩ = some (.slice As s1.length cs) := (blk_cell BK3.out 0).trans rfl; have hczi_1 : w9.cell? ⟨gb3, 1, none⟩ = some (.int .i64 s2) := (blk_cell BK3.out 1).trans rfl; have hczi_2 : w9.cell? ⟨gb3, 2, none⟩ = some (.int .i64 s3) := (blk_cell BK3.out 2).trans rfl; have hfzi_0 := blk_frozen BK3.out 0; have hfzi_1 := blk_frozen BK3.out 1; have hfzi_2 := blk_frozen BK3.out 2; have hnb9 := N39.out; have hnc9 := N93.out) | ((with_reducible refine gate_callee (f := 53) rfl ?_); refine goesL_ (some 51) rfl rfl Try.func53 (by kernel_rfl) rfl #[.agg #[.slice Ah g1.length ch, .int .i64 g2, .int .i64 g3], .agg #[.slice As s1.length cs, .int .i64 s2, .int .i64 s3]] rfl (by (try simp only [List.map_toArray, List.map_cons, List.map_nil]); rfl) ?_; (with_reducible refine (laws_eqJoiner.calls k _ _ g1 g2 g3 _ _ s1 s2 s3 true _ ?side1 ?side2 ?side3 ?side4 A3.out).mono ?_); (case side1 => refine (Kd.S_reads' (d := k40a) (n := g1.length) (c := ch) (base := w.heap.size) (ok := fun k_ => k_ < w8.heap.size) (e := 40) ?_).2.2; exact (by exact Kd.S_far (Kd.S_far (Kd.S_far HH.out (fun k_ hk_ => Nat.ne_of_lt (Nat.lt_of_lt_of_le hk_ GH9.out)) _) (fun k_ hk_ => Nat.ne_of_lt (Nat.lt_of_lt_of_le hk_ GH9.out)) _) (fun k_ hk_ => Nat.ne_of_lt (Nat.lt_of_lt_of_le hk_ GH9.out)) _)); (case side2 => exact (Kd.S_reads' HH.out).2.1); (case side3 => refine (Kd.S_reads' (d := k40) (n := s1.length) (c := cs) (base := w.heap.size) (ok := fun k_ => k_ < w1.heap.size) (e := 40) ?_).2.2; exact (by exact Kd.S_far (Kd.S_far (Kd.S_far HS.out (fun k_ hk_ => Nat.ne_of_lt (Nat.lt_of_lt_of_le hk_ GS9.out)) _) (fun k_ hk_ => Nat.ne_of_lt (Nat.lt_of_lt_of_le hk_ GS9.out)) _) (fun k_ hk_ => Nat.ne_of_lt (Nat.lt_of_lt_of_le hk_ GS9.out)) _)); (case side4 => exact (Kd.S_reads' HS.out).2.1); rintro e w10 ⟨rfl, hb⟩; refine ⟨_, rfl, ?_⟩; have n0_ := Aside0.mk (Kd.S_below (by exact Kd.S_far (Kd.S_far (Kd.S_far HG.out (fun k_ hk_ => Nat.ne_of_lt (Nat.lt_of_lt_of_le hk_ GG9.out)) _) (fun k_ hk_ => Nat.ne_of_lt (Nat.lt_of_lt_of_le hk_ GG9.out)) _) (fun k_ hk_ => Nat.ne_of_lt (Nat.lt_of_lt_of_le hk_ GG9.out)) _) hb); have n1_ := Aside0.mk (blk_below (g := gb5) (o := .cells #[.slice Ag m2.length cg, .int .i64 g2, .int .i64 g3] 68 (0, 0)) (by refine blk_far ?_ N59.out _; refine blk_far ?_ N59.out _; refine blk_far ?_ N59.out _; exact BK5.out) hb); have n2_ := Aside0.mk (below_step (by repeat (with_reducible first | exact HB.out | refine below_set ?_ GW9.out)) hb); (try clear HG); (try clear BK5); (try clear HB); have HG := n0_; have BK5 := n1_; have HB := n2_; clear n0_ n1_ n2_; clear hb; have hne_ : (s4 != s4) = false := bne_self_eq_false s4; have hczj_0 : w10.cell? ⟨gb5, 0, none⟩ = some (.slice Ag m2.length cg) := (blk_cell BK5.out 0).trans rfl; have hczj_1 : w10.cell? ⟨gb5, 1, none⟩ = some (.int .i64 g2) := (blk_cell BK5.out 1).trans rfl; have hczj_2 : w10.cell? ⟨gb5, 2, none⟩ = some (.int .i64 g3) := (blk_cell BK5.out 2).trans rfl; have hfzj_0 := blk_frozen BK5.out 0; have hfzj_1 := blk_frozen BK5.out 1; have hfzj_2 := blk_frozen BK5.out 2) | ((with_reducible refine gate_callee (f := 55) rfl ?_); refine goesL_ (some 60) rfl rfl Try.func55 (by kernel_rfl) rfl #[.agg #[.slice Ag m2.length cg, .int .i64 g2, .int .i64 g3], .int .i64 1] rfl (by (try simp only [List.map_toArray, List.map_cons, List.map_nil]); rfl) ?_; (with_reducible refine (laws_heldJoiner.calls k _ _ m2 g2 g3 1 m1 _ ?side1 ?side2 A5.out).mono ?_); (case side1 => refine (Kd.S_reads' (d := k40a) (n := m2.length) (c := cg) (base := w.heap.size) (ok := fun k_ => k_ < w6.heap.size) (e := 40) ?_).2.2; exact HG.out); (case side2 => exact (Kd.S_reads' HG.out).2.1); rintro e w11 ⟨rfl, hb⟩; refine ⟨_, rfl, ?_⟩; have n0_ := Aside0.mk (below_step HB.out hb); (try clear HB); have HB := n0_; clear n0_; clear hb; have hq_ : (m1 != m1) = false := bne_self_eq_false m1))
    go_ret
    exact ⟨rfl, HB.out⟩

/-- THE ONE PURE STATEMENT of laws_FnExactParseJoiner. -/
def laws_FnExactParseJoiner.Pure : Prop := ∀ (a0 : ByteArray), a0.size ≤ 140737488351232 → ∃ k, laws_FnExactParseJoiner.f k a0 = some true
theorem laws_FnExactParseJoiner.walk (P : laws_FnExactParseJoiner.Pure) (a0 : ByteArray) (w : World) (w0 : a0.size ≤ 140737488351232) :
  Calls Try.prog 7 #[.string a0] w fun e w' => e = .returned (.bool true) ∧ Below w.heap.size w w' := by
 obtain ⟨k, h⟩ := P a0 w0
 refine (laws_FnExactParseJoiner.calls k a0 true w h).mono ?_
 rintro e w' ⟨rfl, hd⟩
 exact ⟨rfl, hd⟩

end Go.Proofs.Ytobndcjmjhehjaa.P
namespace Go.Proofs.Ytobndcjmjhehjaa.P
open Go.RowKit Go.Proofs.YtobndcjmjhehjaaW.PrintWords Go.Proofs.YtobndcjmjhehjaaW.PrintLast Go.Proofs.YtobndcjmjhehjaaW.PrintMore
attribute [local go_sem] max2_int min2_int max_two min_two max_three min_three max_four min_four   -- for this text's walks alone
set_option linter.unusedVariables false
set_option linter.unusedSimpArgs false
end Go.Proofs.Ytobndcjmjhehjaa.P
