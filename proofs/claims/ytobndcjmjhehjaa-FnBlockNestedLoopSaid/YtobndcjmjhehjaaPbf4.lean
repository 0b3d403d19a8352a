/- For every code the law FnBlockNestedLoop of the given program returns true and leaves its argument as it was; no condition. -/
import Derived.Test.YtobndcjmjhehjaaPbf3
namespace Go.Proofs.Ytobndcjmjhehjaa.P
open Go.RowKit Go.Proofs.YtobndcjmjhehjaaW.PrintWords Go.Proofs.YtobndcjmjhehjaaW.PrintLast Go.Proofs.YtobndcjmjhehjaaW.PrintMore
attribute [local go_sem] max2_int min2_int max_two min_two max_three min_three max_four min_four   -- for this text's walks alone
set_option linter.unusedVariables false
set_option linter.unusedSimpArgs false
set_option maxHeartbeats 8000000
set_option maxRecDepth 100000
end Go.Proofs.Ytobndcjmjhehjaa.P
namespace Go.Proofs.Ytobndcjmjhehjaa.P
open Go.RowKit Go.Proofs.YtobndcjmjhehjaaW.PrintWords Go.Proofs.YtobndcjmjhehjaaW.PrintLast Go.Proofs.YtobndcjmjhehjaaW.PrintMore
attribute [local go_sem] max2_int min2_int max_two min_two max_three min_three max_four min_four   -- for this text's walks alone
set_option linter.unusedVariables false
set_option linter.unusedSimpArgs false

attribute [local go_sem high] eqA128
set_option maxHeartbeats 8000000
set_option maxRecDepth 100000
def spec_EqualPairBags.l0 : Nat → List (S128) → List (S128) → Int → Option (Bool)
 | 0, _, _, _ => none
 | k + 1, x5, x6, x7 => if x7 < (x5.length : Int) then (if 0 ≤ x7 then (if x7 < (x6.length : Int) then (if ((!(((rd_T128 x5 x7).f0.f0) == ((rd_T128 x6 x7).f0.f0)) || (!(((rd_T128 x5 x7).f0.f1) == ((rd_T128 x6 x7).f0.f1)) || (!(((rd_T128 x5 x7).f0.f2) == ((rd_T128 x6 x7).f0.f2))))) || ((!(((rd_T128 x5 x7).f1.f0) == ((rd_T128 x6 x7).f1.f0)) || (!(((rd_T128 x5 x7).f1.f1) == ((rd_T128 x6 x7).f1.f1)) || (!(((rd_T128 x5 x7).f1.f2) == ((rd_T128 x6 x7).f1.f2))))) || (!(((rd_T128 x5 x7).f2) == ((rd_T128 x6 x7).f2))))) = true then (some false) else (spec_EqualPairBags.l0 k x5 x6 (wrap64 (x7 + 1)))) else (none)) else (none)) else (some true)
def spec_EqualPairBags.f (k : Nat) (l0 : List (S128)) (l1 : List (S128)) : Option (Bool) := (spec_l7Sorted.f k l0).bind fun t748 => ((spec_l7Sorted.f k l1).bind fun t751 => (if (t748.length : Int) = (t751.length : Int) then (spec_EqualPairBags.l0 k t748 t751 0) else (some false)))
theorem spec_EqualPairBags.calls (k : Nat) (A0 : Option Addr) (c0 : Nat) (l0 : List (S128)) (A1 : Option Addr) (c1 : Nat) (l1 : List (S128)) (r : Bool) (w : World) (hr0 : Kd.C k128 w A0 l0.length l0) (hc0 : l0.length ≤ c0) (hr1 : Kd.C k128 w A1 l1.length l1) (hc1 : l1.length ≤ c1) (h : spec_EqualPairBags.f k l0 l1 = some r) :
  Calls Try.prog 25 #[.slice A0 l0.length c0, .slice A1 l1.length c1] w fun e w' => e = .returned (.bool r) ∧ Below w.heap.size w w' := by
 have hu128 := Try.underlying128
 have HR0 := am hr0
 have HC0 := am hc0
 clear hr0 hc0
 have HR1 := am hr1
 have HC1 := am hc1
 clear hr1 hc1
 have HB := am (Below.refl w.heap.size w)
 have H : ((spec_l7Sorted.f k l0).bind fun t748 => ((spec_l7Sorted.f k l1).bind fun t751 => (if (t748.length : Int) = (t751.length : Int) then (spec_EqualPairBags.l0 k t748 t751 0) else (some false)))) = some r := h
 clear h
 replace H := Option.bind_eq_some_iff.mp H
 obtain ⟨t748, A30, H⟩ := H
 have A3 := am A30
 clear A30
 replace H := Option.bind_eq_some_iff.mp H
 obtain ⟨t751, A40, H⟩ := H
 have A4 := am A40
 clear A40
 by_cases c5 : (t748.length : Int) = (t751.length : Int)
 ·rw [if_pos c5] at H
  have c5b0 : ((t748.length : Int) == (t751.length : Int)) = true := beq_iff_eq.mpr c5
  have c5b1 : ((t748.length : Int) != (t751.length : Int)) = false := bne_eq_false_iff_eq.mpr c5
  have c5b2 : (t748.length == t751.length) = true := by (simp at c5 ⊢; omega)
  clear c5
  have H' := am H
  clear H
  go_enter Try.func25, Try.ntmps25
  go_wp2_with (first | (go_at_call 122; (with_reducible refine (spec_l7Sorted.calls k _ _ l0 t748 _ ?side1 ?side2 A3.out).mono ?_); (case side1 => repeat (exact HR0.out)); (case side2 => exact HC0.out); rintro e w6 ⟨v749, rfl, ho0, hb⟩; have HO750 := am (Kd.R_lower ho0 (below_size HB.out)); replace HB := am (below_step HB.out hb); (try clear hb); (try clear ho0)) | (go_at_call 122; (with_reducible refine (spec_l7Sorted.calls k _ _ l1 t751 _ ?side1 ?side2 A4.out).mono ?_); (case side1 => repeat (exact (Kd.C_below HR1.out HB.out))); (case side2 => exact HC1.out); rintro e w7 ⟨v752, rfl, ho0, hb⟩; have HO753 := am (Kd.R_lower (Kd.R_new' ho0 (Kd.R_lt HO750.out)) (below_size HB.out)); replace HO750 := am (Kd.R_elder' HO750.out (Kd.R_base ho0) hb); replace HB := am (below_step HB.out hb); (try clear hb); (try clear ho0); obtain ⟨Ao8, co8, eo8⟩ := Kd.R_slice HO750.out; subst eo8; obtain ⟨Ao9, co9, eo9⟩ := Kd.R_slice HO753.out; subst eo9))
  repeat (go_quiet (first | (go_at_call 122; (with_reducible refine (spec_l7Sorted.calls k _ _ l0 t748 _ ?side1 ?side2 A3.out).mono ?_); (case side1 => skip); (case side2 => exact HC0.out); rintro e w6 ⟨v749, rfl, ho0, hb⟩; have HO750 := am (Kd.R_lower ho0 (below_size (by skip))); replace HB := am (below_step (by skip) hb); (try clear hb); (try clear ho0)) | (go_at_call 122; (with_reducible refine (spec_l7Sorted.calls k _ _ l1 t751 _ ?side1 ?side2 A4.out).mono ?_); (case side1 => skip); (case side2 => exact HC1.out); rintro e w7 ⟨v752, rfl, ho0, hb⟩; have HO753 := am (Kd.R_lower (Kd.R_new' ho0 (Kd.R_lt HO750.out)) (below_size (by skip))); replace HO750 := am (Kd.R_elder' HO750.out (Kd.R_base ho0) hb); replace HB := am (below_step (by skip) hb); (try clear hb); (try clear ho0); obtain ⟨Ao8, co8, eo8⟩ := Kd.R_slice HO750.out; subst eo8; obtain ⟨Ao9, co9, eo9⟩ := Kd.R_slice HO753.out; subst eo9)))
  go_loopg [7] k (fun kq v7 w' => ∃ (x7_1 : Int), v7 = .int .i64 x7_1 ∧ Aside0 (spec_EqualPairBags.l0 kq t748 t751 x7_1 = some r) ∧ Aside0 (kq ≤ k) ∧ Aside0 (Kd.R k128 128 w' w.heap.size (fun k_ => some k_ ≠ ((.slice Ao9 t751.length co9) : Value).ownBlock) (.slice Ao8 t748.length co8) t748) ∧ Aside0 (Kd.R k128 128 w' w.heap.size (fun k_ => some k_ ≠ ((.slice Ao8 t748.length co8) : Value).ownBlock) (.slice Ao9 t751.length co9) t751) ∧ Aside0 (Below w.heap.size w w'))
  case atStart => exact ⟨(0), rfl, H', ⟨Nat.le_refl _⟩, ⟨by exact Kd.R_mono HO750.out (fun _ hk => hk.2)⟩, ⟨by exact Kd.R_mono HO753.out (fun _ hk => hk.2)⟩, ⟨HB.out⟩⟩
  case round =>
   clear H'
   try clear c5b0
   try clear c5b1
   try clear c5b2
   obtain ⟨x7_1, rfl, HA, HK1, HO_5, HO_6, HB⟩ := hrel
   cases gk with
   | zero => exact absurd HA.out (by simp [spec_EqualPairBags.l0])
   | succ k1 =>
    have H := HA.out
    clear HA
    simp only [spec_EqualPairBags.l0] at H
    by_cases c10 : x7_1 < (t748.length : Int)
    ·rw [if_pos c10] at H
     have c10b0 : decide (x7_1 < (t748.length : Int)) = true := decide_eq_true c10
     clear c10
     by_cases c11 : 0 ≤ x7_1
     ·rw [if_pos c11] at H
      have c11b0 : decide (0 ≤ x7_1) = true := decide_eq_true c11
      clear c11
      by_cases c12 : x7_1 < (t751.length : Int)
      ·rw [if_pos c12] at H
       have c12b0 : decide (x7_1 < (t751.length : Int)) = true := decide_eq_true c12
       clear c12
       by_cases c13 : ((!(((rd_T128 t748 x7_1).f0.f0) == ((rd_T128 t751 x7_1).f0.f0)) || (!(((rd_T128 t748 x7_1).f0.f1) == ((rd_T128 t751 x7_1).f0.f1)) || (!(((rd_T128 t748 x7_1).f0.f2) == ((rd_T128 t751 x7_1).f0.f2))))) || ((!(((rd_T128 t748 x7_1).f1.f0) == ((rd_T128 t751 x7_1).f1.f0)) || (!(((rd_T128 t748 x7_1).f1.f1) == ((rd_T128 t751 x7_1).f1.f1)) || (!(((rd_T128 t748 x7_1).f1.f2) == ((rd_T128 t751 x7_1).f1.f2))))) || (!(((rd_T128 t748 x7_1).f2) == ((rd_T128 t751 x7_1).f2))))) = true
       ·rw [if_pos c13] at H
        have c13b0 : ((!(((rd_T128 t748 x7_1).f0.f0) == ((rd_T128 t751 x7_1).f0.f0)) || (!(((rd_T128 t748 x7_1).f0.f1) == ((rd_T128 t751 x7_1).f0.f1)) || (!(((rd_T128 t748 x7_1).f0.f2) == ((rd_T128 t751 x7_1).f0.f2))))) || ((!(((rd_T128 t748 x7_1).f1.f0) == ((rd_T128 t751 x7_1).f1.f0)) || (!(((rd_T128 t748 x7_1).f1.f1) == ((rd_T128 t751 x7_1).f1.f1)) || (!(((rd_T128 t748 x7_1).f1.f2) == ((rd_T128 t751 x7_1).f1.f2))))) || (!(((rd_T128 t748 x7_1).f2) == ((rd_T128 t751 x7_1).f2))))) = true := c13
        clear c13
        obtain rfl := Option.some.inj H
        have p754 : 0 ≤ (x7_1 : Int) := of_decide_eq_true (by (with_reducible assumption))
        have q754 : x7_1 < (t748.length : Int) := of_decide_eq_true (by (with_reducible assumption))
        obtain ⟨ad754, e754, hx754_0, hx754_1, hx754_2, hx754_3, hx754_4, hx754_5, hx754_6⟩ := at_T128 (Kd.R_reads' HO_5.out).2.2 x7_1 p754 q754
        cases e754
        replace p754 := eq_true p754
        replace q754 := eq_true q754
        have p755 : 0 ≤ (x7_1 : Int) := of_decide_eq_true (by (with_reducible assumption))
        have q755 : x7_1 < (t751.length : Int) := of_decide_eq_true (by (with_reducible assumption))
        obtain ⟨ad755, e755, hx755_0, hx755_1, hx755_2, hx755_3, hx755_4, hx755_5, hx755_6⟩ := at_T128 (Kd.R_reads' HO_6.out).2.2 x7_1 p755 q755
        cases e755
        replace p755 := eq_true p755
        replace q755 := eq_true q755
        go_wp2
        repeat (go_quiet (fail); try go_wp2)
        go_ret
        exact ⟨rfl, by repeat ((with_reducible first | exact HB.out | apply pw_below_drewN))⟩
       ·rw [if_neg c13] at H
        have c13b0 : ((!(((rd_T128 t748 x7_1).f0.f0) == ((rd_T128 t751 x7_1).f0.f0)) || (!(((rd_T128 t748 x7_1).f0.f1) == ((rd_T128 t751 x7_1).f0.f1)) || (!(((rd_T128 t748 x7_1).f0.f2) == ((rd_T128 t751 x7_1).f0.f2))))) || ((!(((rd_T128 t748 x7_1).f1.f0) == ((rd_T128 t751 x7_1).f1.f0)) || (!(((rd_T128 t748 x7_1).f1.f1) == ((rd_T128 t751 x7_1).f1.f1)) || (!(((rd_T128 t748 x7_1).f1.f2) == ((rd_T128 t751 x7_1).f1.f2))))) || (!(((rd_T128 t748 x7_1).f2) == ((rd_T128 t751 x7_1).f2))))) = false := by simpa using c13
        clear c13
        have H' := am H
        clear H
        have p754 : 0 ≤ (x7_1 : Int) := of_decide_eq_true (by (with_reducible assumption))
        have q754 : x7_1 < (t748.length : Int) := of_decide_eq_true (by (with_reducible assumption))
        obtain ⟨ad754, e754, hx754_0, hx754_1, hx754_2, hx754_3, hx754_4, hx754_5, hx754_6⟩ := at_T128 (Kd.R_reads' HO_5.out).2.2 x7_1 p754 q754
        cases e754
        replace p754 := eq_true p754
        replace q754 := eq_true q754
        have p755 : 0 ≤ (x7_1 : Int) := of_decide_eq_true (by (with_reducible assumption))
        have q755 : x7_1 < (t751.length : Int) := of_decide_eq_true (by (with_reducible assumption))
        obtain ⟨ad755, e755, hx755_0, hx755_1, hx755_2, hx755_3, hx755_4, hx755_5, hx755_6⟩ := at_T128 (Kd.R_reads' HO_6.out).2.2 x7_1 p755 q755
        cases e755
        replace p755 := eq_true p755
        replace q755 := eq_true q755
        go_wp2
        repeat (go_quiet (fail); try go_wp2)
        go_roundg k1
        case measure => have := HK1.out; omega
        case rel => exact ⟨(wrap64 (x7_1 + 1)), rfl, H', ⟨by have := HK1.out; omega⟩, ⟨by (with_reducible repeat (apply Kd.R_drewN)); exact HO_5.out⟩, ⟨by (with_reducible repeat (apply Kd.R_drewN)); exact HO_6.out⟩, ⟨by repeat ((with_reducible first | exact HB.out | apply pw_below_drewN))⟩⟩
      ·rw [if_neg c12] at H
       exact absurd H (by simp)
     ·rw [if_neg c11] at H
      exact absurd H (by simp)
    ·rw [if_neg c10] at H
     have c10b0 : decide (x7_1 < (t748.length : Int)) = false := decide_eq_false c10
     clear c10
     obtain rfl := Option.some.inj H
     go_wp2
     repeat (go_quiet (fail))
     go_ret
     exact ⟨rfl, HB.out⟩
 ·rw [if_neg c5] at H
  have c5b0 : ((t748.length : Int) == (t751.length : Int)) = false := beq_eq_false_iff_ne.mpr c5
  have c5b1 : ((t748.length : Int) != (t751.length : Int)) = true := bne_iff_ne.mpr c5
  have c5b2 : (t748.length == t751.length) = false := by (simp at c5 ⊢; omega)
  obtain rfl := Option.some.inj H
  go_enter Try.func25, Try.ntmps25
  go_wp2_with (first | (go_at_call 122; (with_reducible refine (spec_l7Sorted.calls k _ _ l0 t748 _ ?side1 ?side2 A3.out).mono ?_); (case side1 => repeat (exact HR0.out)); (case side2 => exact HC0.out); rintro e w14 ⟨v749, rfl, ho0, hb⟩; have HO750 := am (Kd.R_lower ho0 (below_size HB.out)); replace HB := am (below_step HB.out hb); (try clear hb); (try clear ho0)) | (go_at_call 122; (with_reducible refine (spec_l7Sorted.calls k _ _ l1 t751 _ ?side1 ?side2 A4.out).mono ?_); (case side1 => repeat (exact (Kd.C_below HR1.out HB.out))); (case side2 => exact HC1.out); rintro e w15 ⟨v752, rfl, ho0, hb⟩; have HO753 := am (Kd.R_lower (Kd.R_new' ho0 (Kd.R_lt HO750.out)) (below_size HB.out)); replace HO750 := am (Kd.R_elder' HO750.out (Kd.R_base ho0) hb); replace HB := am (below_step HB.out hb); (try clear hb); (try clear ho0); obtain ⟨Ao16, co16, eo16⟩ := Kd.R_slice HO750.out; subst eo16; obtain ⟨Ao17, co17, eo17⟩ := Kd.R_slice HO753.out; subst eo17))
  repeat (go_quiet (first | (go_at_call 122; (with_reducible refine (spec_l7Sorted.calls k _ _ l0 t748 _ ?side1 ?side2 A3.out).mono ?_); (case side1 => skip); (case side2 => exact HC0.out); rintro e w14 ⟨v749, rfl, ho0, hb⟩; have HO750 := am (Kd.R_lower ho0 (below_size (by skip))); replace HB := am (below_step (by skip) hb); (try clear hb); (try clear ho0)) | (go_at_call 122; (with_reducible refine (spec_l7Sorted.calls k _ _ l1 t751 _ ?side1 ?side2 A4.out).mono ?_); (case side1 => skip); (case side2 => exact HC1.out); rintro e w15 ⟨v752, rfl, ho0, hb⟩; have HO753 := am (Kd.R_lower (Kd.R_new' ho0 (Kd.R_lt HO750.out)) (below_size (by skip))); replace HO750 := am (Kd.R_elder' HO750.out (Kd.R_base ho0) hb); replace HB := am (below_step (by skip) hb); (try clear hb); (try clear ho0); obtain ⟨Ao16, co16, eo16⟩ := Kd.R_slice HO750.out; subst eo16; obtain ⟨Ao17, co17, eo17⟩ := Kd.R_slice HO753.out; subst eo17)))
  go_ret
  exact ⟨rfl, HB.out⟩

end Go.Proofs.Ytobndcjmjhehjaa.P
namespace Go.Proofs.Ytobndcjmjhehjaa.P
open Go.RowKit Go.Proofs.YtobndcjmjhehjaaW.PrintWords Go.Proofs.YtobndcjmjhehjaaW.PrintLast Go.Proofs.YtobndcjmjhehjaaW.PrintMore
attribute [local go_sem] max2_int min2_int max_two min_two max_three min_three max_four min_four   -- for this text's walks alone
set_option linter.unusedVariables false
set_option linter.unusedSimpArgs false
set_option maxHeartbeats 8000000
set_option maxRecDepth 100000
def spec_ReferenceJoin.l0 : Nat → Int → List (S60) → List (S60) → List (S128) → Int → Option ((List (S128)))
 | 0, _, _, _, _, _ => none
 | k + 1, x0, x1, x2, x7, x8 => if x8 < (x1.length : Int) then ((spec_IsValidJoinKind.f x0).bind fun t759 => (if t759 = true then (if 0 ≤ x8 then ((spec_l7One.f k x0 ((rd_T60 x1 x8).f0) ((rd_T60 x1 x8).f1) ((rd_T60 x1 x8).f2) x2).bind fun t761 => (if x7.length + t761.length < 2513169434916 then (spec_ReferenceJoin.l0 k x0 x1 x2 (x7 ++ t761) (wrap64 (x8 + 1))) else (none))) else (none)) else (some x7))) else (some x7)
def spec_ReferenceJoin.f (k : Nat) (a0 : Int) (l1 : List (S60)) (l2 : List (S60)) : Option ((List (S128))) := spec_ReferenceJoin.l0 k a0 l1 l2 (([] : List (S128))) 0
theorem spec_ReferenceJoin.calls (k : Nat) (a0 : Int) (A1 : Option Addr) (c1 : Nat) (l1 : List (S60)) (A2 : Option Addr) (c2 : Nat) (l2 : List (S60)) (r : List (S128)) (w : World) (hr1 : Kd.C k60 w A1 l1.length l1) (hc1 : l1.length ≤ c1) (hr2 : Kd.C k60 w A2 l2.length l2) (hc2 : l2.length ≤ c2) (h : spec_ReferenceJoin.f k a0 l1 l2 = some r) :
  Calls Try.prog 26 #[.int .i64 a0, .slice A1 l1.length c1, .slice A2 l2.length c2] w fun e w' => ∃ v0_ : Value, e = .returned (v0_) ∧ Kd.R k128 128 w' w.heap.size (fun _ => True) v0_ r ∧ Below w.heap.size w w' := by
 have hu60 := Try.underlying60
 have HR1 := am hr1
 have HC1 := am hc1
 clear hr1 hc1
 have HR2 := am hr2
 have HC2 := am hc2
 clear hr2 hc2
 have HB := am (Below.refl w.heap.size w)
 have H : (spec_ReferenceJoin.l0 k a0 l1 l2 (([] : List (S128))) 0) = some r := h
 clear h
 obtain ⟨y756, hy756⟩ : ∃ y_ : List (S128), y_ = (([] : List (S128))) := ⟨_, rfl⟩
 replace H : (spec_ReferenceJoin.l0 k a0 l1 l2 y756 0) = some r := by (rw [hy756]; with_reducible exact H)
 have Ny756 := am hy756
 clear hy756
 have H' := am H
 clear H
 go_enter Try.func26, Try.ntmps26
 go_wp2_with (((with_reducible refine gate_dst (N := 9) rfl ?_); refine Kd.R_lit k128 _ 128 ?hg (N := 9) ?hd (xs := ([] : List (S128))) (inner := []) (ok := fun _ => True) (okp := fun _ => True) ?hr ?hp (fun _ hk => hk) trivial (Below.refl _ _) (Nat.le_refl _) (by simp) ?_; (case hd => rfl); (case hg => rfl); (case hr => (go_simp; done)); (case hp => exact (Reps.none _ _)); intro v757 w4 ho5 hb hg_ hnew_; clear hg_ hnew_; (rw [← Ny756.out] at ho5); have HO758 := am (Kd.R_lower ho5 (below_size HB.out)); replace HB := am (below_step HB.out hb); clear hb ho5))
 go_loopg [7, 8] k (fun kq v7 v8 w' => ∃ (x7_1 : List (S128)) (x8_1 : Int), v8 = .int .i64 x8_1 ∧ Aside0 (spec_ReferenceJoin.l0 kq a0 l1 l2 x7_1 x8_1 = some r) ∧ Aside0 (kq ≤ k) ∧ Aside0 (Kd.R k128 128 w' w.heap.size (fun _ => True) v7 x7_1) ∧ Aside0 (Below w.heap.size w w'))
 case atStart => exact ⟨(y756), (0), rfl, H', ⟨Nat.le_refl _⟩, ⟨HO758.out⟩, ⟨HB.out⟩⟩
 case round =>
  clear H'
  obtain ⟨x7_1, x8_1, rfl, HA, HK1, HO_7, HB⟩ := hrel
  cases gk with
  | zero => exact absurd HA.out (by simp [spec_ReferenceJoin.l0])
  | succ k1 =>
   have H := HA.out
   clear HA
   simp only [spec_ReferenceJoin.l0] at H
   by_cases c6 : x8_1 < (l1.length : Int)
   ·rw [if_pos c6] at H
    have c6b0 : decide (x8_1 < (l1.length : Int)) = true := decide_eq_true c6
    clear c6
    replace H := Option.bind_eq_some_iff.mp H
    obtain ⟨t759, A70, H⟩ := H
    have A7 := am A70
    clear A70
    by_cases c8 : t759 = true
    ·subst c8
     rw [if_pos rfl] at H
     by_cases c9 : 0 ≤ x8_1
     ·rw [if_pos c9] at H
      have c9b0 : decide (0 ≤ x8_1) = true := decide_eq_true c9
      clear c9
      replace H := Option.bind_eq_some_iff.mp H
      obtain ⟨t761, A100, H⟩ := H
      have A10 := am A100
      clear A100
      by_cases c11 : x7_1.length + t761.length < 2513169434916
      ·rw [if_pos c11] at H
       have LMc11 := am c11
       clear c11
       obtain ⟨y764, hy764⟩ : ∃ y_ : List (S128), y_ = (x7_1 ++ t761) := ⟨_, rfl⟩
       replace H : (spec_ReferenceJoin.l0 k1 a0 l1 l2 y764 (wrap64 (x8_1 + 1))) = some r := by (rw [hy764]; with_reducible exact H)
       have Ny764 := am hy764
       clear hy764
       have H' := am H
       clear H
       go_wp2_with (first | (go_at_call 47; (with_reducible refine (spec_IsValidJoinKind.calls a0 true _ A7.out).mono ?_); rintro e w' ⟨rfl, ⟨nd, rfl⟩⟩; have p760 : 0 ≤ (x8_1 : Int) := of_decide_eq_true (by (with_reducible assumption)); have q760 : x8_1 < (l1.length : Int) := of_decide_eq_true (by (with_reducible assumption)); obtain ⟨ad760, e760, hx760_0, hx760_1, hx760_2⟩ := at_T60 HR1.out x8_1 p760 q760; cases e760; replace hx760_0 := bc_ HB.out hx760_0; replace hx760_1 := bc_ HB.out hx760_1; replace hx760_2 := bc_ HB.out hx760_2; replace p760 := eq_true p760; replace q760 := eq_true q760) | ((with_reducible refine gate_callee (f := 123) rfl ?_); refine goesL_ (some 27) rfl rfl Try.func123 (by kernel_rfl) rfl #[.int .i64 a0, .agg #[.int .i64 ((rd_T60 l1 x8_1).f0), .int .i64 ((rd_T60 l1 x8_1).f1), .int .i64 ((rd_T60 l1 x8_1).f2)], .slice A2 l2.length c2] rfl (by (try simp only [List.map_toArray, List.map_cons, List.map_nil]); rfl) ?_; (with_reducible refine (spec_l7One.calls k1 a0 ((rd_T60 l1 x8_1).f0) ((rd_T60 l1 x8_1).f1) ((rd_T60 l1 x8_1).f2) _ _ l2 t761 _ ?side1 ?side2 A10.out).mono ?_); (case side1 => repeat (exact (Kd.C_below HR2.out (by repeat (with_reducible first | exact HB.out | apply pw_below_drewN))))); (case side2 => exact HC2.out); rintro e w12 ⟨v762, rfl, ho0, hb⟩; refine ⟨_, rfl, ?_⟩; have HO763 := am (Kd.R_lower (Kd.R_new' ho0 (Kd.R_lt (by (with_reducible repeat (apply Kd.R_drewN)); exact HO_7.out))) (below_size (by repeat (with_reducible first | exact HB.out | apply pw_below_drewN)))); replace HO_7 := am (Kd.R_elder' (by (with_reducible repeat (apply Kd.R_drewN)); exact HO_7.out) (Kd.R_base ho0) hb); replace HB := am (below_step (by repeat (with_reducible first | exact HB.out | apply pw_below_drewN)) hb); (try clear hb); (try clear ho0); obtain ⟨Ao14, co14, eo14⟩ := Kd.R_slice HO763.out; subst eo14) | ((with_reducible refine gate_builtin (b := .append) (xs := #[.tmp 20, .tmp 27]) rfl ?_); at_builtin; refine Kd.R_append_rows k128 (w0 := w) w.heap.size rfl (.tmp 20) (.tmp 27) 33 128 (.agg #[(.int .i64 0), (.int .i64 0), (.int .i64 0), (.int .i64 0), (.int .i64 0), (.int .i64 0), (.bool false)]) 56 rfl Try.underlying33 info128 rfl (by decide) (by omega) u7 x7_1 t761 _ _ _ (fun k_ => some k_ ≠ (.slice Ao14 t761.length co14 : Value).ownBlock) (fun _ => False) rfl rfl ?aO ?aR (fun _ _ h => h) (fun _ h => h.elim) ?aF ?aB ?aS ?aL ?_; (case aR => repeat (exact (Kd.R_reads' HO763.out).2.2)); (case aB => exact HB.out); (case aF => exact (fun k_ hk => Kd.fresh' (Kd.R_lt HO763.out) k_ hk)); (case aO => exact (by exact Kd.R_mono HO_7.out (fun _ hk => hk.2))); (case aS => exact (below_size HB.out)); (case aL => have := LMc11.out; omega); intro v765 w13 ho hb hg hat; rw [← Ny764.out] at ho; replace HO763 := am (Kd.R_after (ok := (fun _ => True)) HO763.out hg hat); replace HB := am (hb); have HO766 := am (ho); clear HO_7 ho hb hg hat))
       go_roundg k1
       case measure => have := HK1.out; omega
       case rel => exact ⟨(y764), (wrap64 (x8_1 + 1)), rfl, H', ⟨by have := HK1.out; omega⟩, ⟨by exact Kd.R_mono HO766.out (fun _ hk => trivial)⟩, ⟨HB.out⟩⟩
      ·rw [if_neg c11] at H
       exact absurd H (by simp)
     ·rw [if_neg c9] at H
      exact absurd H (by simp)
    ·replace c8 := Bool.eq_false_iff.mpr c8
     subst c8
     rw [if_neg (show ¬ (false = true) by decide)] at H
     obtain rfl := Option.some.inj H
     go_wp2_with ((go_at_call 47; (with_reducible refine (spec_IsValidJoinKind.calls a0 false _ A7.out).mono ?_); rintro e w' ⟨rfl, ⟨nd, rfl⟩⟩))
     go_ret
     exact ⟨_, rfl, by (with_reducible repeat (apply Kd.R_drewN)); exact HO_7.out, by repeat ((with_reducible first | exact HB.out | apply pw_below_drewN))⟩
   ·rw [if_neg c6] at H
    have c6b0 : decide (x8_1 < (l1.length : Int)) = false := decide_eq_false c6
    clear c6
    obtain rfl := Option.some.inj H
    go_wp2
    go_ret
    exact ⟨_, rfl, HO_7.out, HB.out⟩

mutual
def laws_FnBlockNestedLoop.j0 : Nat → List Int → Bool → Option (Bool)
 | 0, _, _ => none
 | k + 1, x0, x78 => if x78 = true then (some false) else ((spec_DrawBlockNestedLoopJoin.f k x0).bind fun bt798 => ((impl_BlockNestedLoopJoin.f k bt798.1 bt798.2.1 bt798.2.2.1 bt798.2.2.2).bind fun bt806 => ((spec_BlockNestedLoopJoin.f k bt798.1 bt798.2.1 bt798.2.2.1 bt798.2.2.2).bind fun bt811 => (if (bt806.2.2 != bt811.2.2) = true then (none) else (if bt806.2.1 = bt811.2.1 then ((spec_EqualPairBags.f k bt806.1 bt811.1).bind fun t816 => (laws_FnBlockNestedLoop.j1 k bt798.1 bt798.2.1 bt798.2.2.1 bt806.1 bt806.2.1 bt806.2.2 (!t816))) else (none))))))
def laws_FnBlockNestedLoop.j1 : Nat → Int → List (S60) → List (S60) → List (S128) → Int → Bool → Bool → Option (Bool)
 | 0, _, _, _, _, _, _, _ => none
 | k + 1, x9, x10, x11, x13, x14, x15, x117 => if x117 = true then (some false) else (if x15 = true then ((spec_ReferenceJoin.f k x9 x10 x11).bind fun t817 => ((spec_EqualPairBags.f k x13 t817).bind fun t820 => (if t820 = true then (some (decide (x14 ≤ (x11.length : Int)))) else (none)))) else (some true))
end
def laws_FnBlockNestedLoop.f (k : Nat) (l0 : List Int) : Option (Bool) := (laws_big.f l0).bind fun t767 => (if t767 = true then (some true) else ((spec_DrawNextChunk.f k l0).bind fun bt768 => ((impl_NextChunk.f k bt768.1 bt768.2).bind fun bt772 => ((spec_NextChunk.f k bt768.1 bt768.2).bind fun bt778 => ((laws_sameRows.f k bt772.1 bt778.1).bind fun t784 => (if t784 = true then ((laws_sameRows.f k bt772.2 bt778.2).bind fun t785 => (if t785 = true then ((some (([] : List (S60)) : List (S60))).bind fun y786 => (if y786.length + bt772.1.length < 5864062014805 then ((some (y786 ++ bt772.1 : List (S60))).bind fun y789 => (if y789.length + bt772.2.length < 5864062014805 then ((laws_sameRows.f k (y789 ++ bt772.2) bt768.1).bind fun t795 => (if t795 = true then (if (bt768.1.length : Int) > 0 then (if (bt772.1.length : Int) = 0 then (none) else (if (bt772.1.length : Int) > 1 then ((spec_TotalCost.f k bt772.1).bind fun t796 => (laws_FnBlockNestedLoop.j0 k l0 (decide (t796 > bt768.2)))) else (laws_FnBlockNestedLoop.j0 k l0 false))) else (if (bt772.1.length : Int) > 1 then (none) else (laws_FnBlockNestedLoop.j0 k l0 false))) else (none))) else (none))) else (none))) else (none))) else (none)))))))
theorem laws_FnBlockNestedLoop.calls (k : Nat) (A0 : Option Addr) (c0 : Nat) (l0 : List Int) (r : Bool) (w : World) (hr0 : Kd.C (Kd.int .u8) w A0 l0.length l0) (hc0 : l0.length ≤ c0) (h : laws_FnBlockNestedLoop.f k l0 = some r) :
  Calls Try.prog 3 #[.slice A0 l0.length c0] w fun e w' => e = .returned (.bool r) ∧ Below w.heap.size w w' := by
 have HR0 := am hr0
 have HC0 := am hc0
 clear hr0 hc0
 have HB := am (Below.refl w.heap.size w)
 have H : ((laws_big.f l0).bind fun t767 => (if t767 = true then (some true) else ((spec_DrawNextChunk.f k l0).bind fun bt768 => ((impl_NextChunk.f k bt768.1 bt768.2).bind fun bt772 => ((spec_NextChunk.f k bt768.1 bt768.2).bind fun bt778 => ((laws_sameRows.f k bt772.1 bt778.1).bind fun t784 => (if t784 = true then ((laws_sameRows.f k bt772.2 bt778.2).bind fun t785 => (if t785 = true then ((some (([] : List (S60)) : List (S60))).bind fun y786 => (if y786.length + bt772.1.length < 5864062014805 then ((some (y786 ++ bt772.1 : List (S60))).bind fun y789 => (if y789.length + bt772.2.length < 5864062014805 then ((laws_sameRows.f k (y789 ++ bt772.2) bt768.1).bind fun t795 => (if t795 = true then (if (bt768.1.length : Int) > 0 then (if (bt772.1.length : Int) = 0 then (none) else (if (bt772.1.length : Int) > 1 then ((spec_TotalCost.f k bt772.1).bind fun t796 => (laws_FnBlockNestedLoop.j0 k l0 (decide (t796 > bt768.2)))) else (laws_FnBlockNestedLoop.j0 k l0 false))) else (if (bt772.1.length : Int) > 1 then (none) else (laws_FnBlockNestedLoop.j0 k l0 false))) else (none))) else (none))) else (none))) else (none))) else (none)))))))) = some r := h
 clear h
 replace H := Option.bind_eq_some_iff.mp H
 obtain ⟨t767, A20, H⟩ := H
 have A2 := am A20
 clear A20
 by_cases c3 : t767 = true
 ·subst c3
  rw [if_pos rfl] at H
  obtain rfl := Option.some.inj H
  go_enter Try.func3, Try.ntmps3
  go_wp2_with (((with_reducible refine gate_callee (f := 16) rfl ?_); refine goesL_ (some 20) rfl rfl Try.func16 (by kernel_rfl) rfl #[.slice A0 l0.length c0] rfl (by (try simp only [List.map_toArray, List.map_cons, List.map_nil]); rfl) ?_; (with_reducible refine (laws_big.calls _ _ l0 true _ ?side1 ?side2 A2.out).mono ?_); (case side1 => repeat (exact HR0.out)); (case side2 => exact HC0.out); rintro e w' ⟨rfl, ⟨nd, rfl⟩⟩; refine ⟨_, rfl, ?_⟩))
  go_ret
  exact ⟨rfl, by repeat ((with_reducible first | exact HB.out | apply pw_below_drewN))⟩
 ·replace c3 := Bool.eq_false_iff.mpr c3
  subst c3
  rw [if_neg (show ¬ (false = true) by decide)] at H
  replace H := Option.bind_eq_some_iff.mp H
  obtain ⟨⟨t768, t769⟩, A40, H⟩ := H
  have A4 := am A40
  clear A40
  replace H := Option.bind_eq_some_iff.mp H
  obtain ⟨⟨t772, t773⟩, A50, H⟩ := H
  have A5 := am A50
  clear A50
  replace H := Option.bind_eq_some_iff.mp H
  obtain ⟨⟨t778, t779⟩, A60, H⟩ := H
  have A6 := am A60
  clear A60
  have HC7 := am H
  clear H
  go_enter Try.func3, Try.ntmps3
  go_upto_region 6 with (first | ((with_reducible refine gate_callee (f := 16) rfl ?_); refine goesL_ (some 20) rfl rfl Try.func16 (by kernel_rfl) rfl #[.slice A0 l0.length c0] rfl (by (try simp only [List.map_toArray, List.map_cons, List.map_nil]); rfl) ?_; (with_reducible refine (laws_big.calls _ _ l0 false _ ?side1 ?side2 A2.out).mono ?_); (case side1 => repeat (exact HR0.out)); (case side2 => exact HC0.out); rintro e w' ⟨rfl, ⟨nd, rfl⟩⟩; refine ⟨_, rfl, ?_⟩) | ((with_reducible refine gate_callee (f := 17) rfl ?_); refine goesL_ (some 23) rfl rfl Try.func17 (by kernel_rfl) rfl #[.slice A0 l0.length c0] rfl (by (try simp only [List.map_toArray, List.map_cons, List.map_nil]); rfl) ?_; (with_reducible refine (spec_DrawNextChunk.calls k _ _ l0 t768 t769 _ ?side1 ?side2 A4.out).mono ?_); (case side1 => repeat (exact HR0.out)); (case side2 => exact HC0.out); rintro e w8 ⟨v770, rfl, ho0, hb⟩; refine ⟨_, rfl, ?_⟩; have HO771 := am (Kd.R_lower ho0 (below_size (by repeat (with_reducible first | exact HB.out | apply pw_below_drewN)))); replace HB := am (below_step (by repeat (with_reducible first | exact HB.out | apply pw_below_drewN)) hb); (try clear hb); (try clear ho0); obtain ⟨Ao9, co9, eo9⟩ := Kd.R_slice HO771.out; subst eo9) | ((with_reducible refine gate_callee (f := 18) rfl ?_); refine goesL_ (some 29) rfl rfl Try.func18 (by kernel_rfl) rfl #[.slice Ao9 t768.length co9, .int .i64 t769] rfl (by (try simp only [List.map_toArray, List.map_cons, List.map_nil]); rfl) ?_; (with_reducible refine (impl_NextChunk.calls k _ _ t768 t769 t772 t773 _ ?side1 ?side2 A5.out).mono ?_); (case side1 => repeat (exact (Kd.R_reads' HO771.out).2.2)); (case side2 => exact (Kd.R_reads' HO771.out).2.1); rintro e w10 ⟨v774, v776, rfl, ho0, ho1, hb⟩; refine ⟨_, rfl, ?_⟩; have HO775 := am (Kd.R_lower (Kd.R_new' ho0 (Kd.R_lt HO771.out)) (below_size HB.out)); have HO777 := am (Kd.R_lower (Kd.R_new' ho1 (Kd.R_lt HO771.out)) (below_size HB.out)); replace HO771 := am (Kd.R_mono (Kd.R_told (Kd.R_told (Kd.R_old HO771.out hb) (Kd.R_base ho0)) (Kd.R_base ho1)) (fun _ h_ => h_.1)); replace HB := am (below_step HB.out hb); (try clear hb); (try clear ho0); (try clear ho1)) | ((with_reducible refine gate_callee (f := 19) rfl ?_); refine goesL_ (some 35) rfl rfl Try.func19 (by kernel_rfl) rfl #[.slice Ao9 t768.length co9, .int .i64 t769] rfl (by (try simp only [List.map_toArray, List.map_cons, List.map_nil]); rfl) ?_; (with_reducible refine (spec_NextChunk.calls k _ _ t768 t769 t778 t779 _ ?side1 ?side2 A6.out).mono ?_); (case side1 => repeat (exact (Kd.R_reads' HO771.out).2.2)); (case side2 => exact (Kd.R_reads' HO771.out).2.1); rintro e w11 ⟨v780, v782, rfl, ho0, ho1, hb⟩; refine ⟨_, rfl, ?_⟩; have HO781 := am (Kd.R_lower (Kd.R_new' (Kd.R_new' (Kd.R_new' ho0 (Kd.R_lt HO771.out)) (Kd.R_lt HO775.out)) (Kd.R_lt HO777.out)) (below_size HB.out)); have HO783 := am (Kd.R_lower (Kd.R_new' (Kd.R_new' (Kd.R_new' ho1 (Kd.R_lt HO771.out)) (Kd.R_lt HO775.out)) (Kd.R_lt HO777.out)) (below_size HB.out)); replace HO771 := am (Kd.R_mono (Kd.R_told (Kd.R_told (Kd.R_old HO771.out hb) (Kd.R_base ho0)) (Kd.R_base ho1)) (fun _ h_ => h_.1)); replace HO775 := am (Kd.R_mono (Kd.R_told (Kd.R_told (Kd.R_old HO775.out hb) (Kd.R_base ho0)) (Kd.R_base ho1)) (fun _ h_ => h_.1)); replace HO777 := am (Kd.R_mono (Kd.R_told (Kd.R_told (Kd.R_old HO777.out hb) (Kd.R_base ho0)) (Kd.R_base ho1)) (fun _ h_ => h_.1)); replace HB := am (below_step HB.out hb); (try clear hb); (try clear ho0); (try clear ho1)))
  (try simp only [Act.put, s2_, s0_, s1_])
  go_cut [78] (fun v78 wc => ∃ (kq : Nat) (x78_6 : Bool), v78 = .bool x78_6 ∧ Aside0 (laws_FnBlockNestedLoop.j0 kq l0 x78_6 = some r) ∧ Aside0 (kq ≤ k) ∧ Aside0 (Below w.heap.size w wc))
  case first =>
   have H := HC7.out
   clear HC7
   replace H := Option.bind_eq_some_iff.mp H
   obtain ⟨t784, A120, H⟩ := H
   have A12 := am A120
   clear A120
   by_cases c13 : t784 = true
   ·subst c13
    rw [if_pos rfl] at H
    replace H := Option.bind_eq_some_iff.mp H
    obtain ⟨t785, A140, H⟩ := H
    have A14 := am A140
    clear A140
    by_cases c15 : t785 = true
    ·subst c15
     rw [if_pos rfl] at H
     obtain ⟨y786, hy786, H⟩ := bindO_ H
     have Ny786 := am hy786
     clear hy786
     by_cases c16 : y786.length + t772.length < 5864062014805
     ·rw [if_pos c16] at H
      have LMc16 := am c16
      clear c16
      obtain ⟨y789, hy789, H⟩ := bindO_ H
      have Ny789 := am hy789
      clear hy789
      by_cases c17 : y789.length + t773.length < 5864062014805
      ·rw [if_pos c17] at H
       have LMc17 := am c17
       clear c17
       obtain ⟨y792, hy792⟩ : ∃ y_ : List (S60), y_ = (y789 ++ t773) := ⟨_, rfl⟩
       replace H : ((laws_sameRows.f k y792 t768).bind fun t795 => (if t795 = true then (if (t768.length : Int) > 0 then (if (t772.length : Int) = 0 then (none) else (if (t772.length : Int) > 1 then ((spec_TotalCost.f k t772).bind fun t796 => (laws_FnBlockNestedLoop.j0 k l0 (decide (t796 > t769)))) else (laws_FnBlockNestedLoop.j0 k l0 false))) else (if (t772.length : Int) > 1 then (none) else (laws_FnBlockNestedLoop.j0 k l0 false))) else (none))) = some r := by (rw [hy792]; with_reducible exact H)
       have Ny792 := am hy792
       clear hy792
       replace H := Option.bind_eq_some_iff.mp H
       obtain ⟨t795, A180, H⟩ := H
       have A18 := am A180
       clear A180
       by_cases c19 : t795 = true
       ·subst c19
        rw [if_pos rfl] at H
        by_cases c20 : (t768.length : Int) > 0
        ·rw [if_pos c20] at H
         have c20b0 : decide (0 < (t768.length : Int)) = true := decide_eq_true c20
         have c20b1 : decide (0 < t768.length) = true := decide_eq_true (by omega)
         clear c20
         (skip)
         by_cases c21 : (t772.length : Int) = 0
         ·rw [if_pos c21] at H
          exact absurd H (by simp)
         ·rw [if_neg c21] at H
          have c21b0 : ((t772.length : Int) == 0) = false := beq_eq_false_iff_ne.mpr c21
          have c21b1 : ((t772.length : Int) != 0) = true := bne_iff_ne.mpr c21
          have c21b2 : ¬ (t772 = []) := fun h_ => c21 (by rw [h_]; rfl)
          by_cases c31 : (t772.length : Int) > 1
          ·rw [if_pos c31] at H
           have c31b0 : decide (1 < (t772.length : Int)) = true := decide_eq_true c31
           have c31b1 : decide (1 < t772.length) = true := decide_eq_true (by omega)
           clear c31
           replace H := Option.bind_eq_some_iff.mp H
           obtain ⟨t796, A320, H⟩ := H
           have A32 := am A320
           clear A320
           have H' := am H
           clear H
           obtain ⟨Ao33, co33, eo33⟩ := Kd.R_slice HO775.out
           subst eo33
           obtain ⟨Ao34, co34, eo34⟩ := Kd.R_slice HO781.out
           subst eo34
           go_wp2_with (first | ((with_reducible refine gate_callee (f := 20) rfl ?_); refine goesL_ (some 40) rfl rfl Try.func20 (by kernel_rfl) rfl #[.slice Ao33 t772.length co33, .slice Ao34 t778.length co34] rfl (by (try simp only [List.map_toArray, List.map_cons, List.map_nil]); rfl) ?_; (with_reducible refine (laws_sameRows.calls k _ _ t772 _ _ t778 true _ ?side1 ?side2 ?side3 ?side4 A12.out).mono ?_); (case side1 => repeat (exact (Kd.R_reads' HO775.out).2.2)); (case side2 => exact (Kd.R_reads' HO775.out).2.1); (case side3 => repeat (exact (Kd.R_reads' HO781.out).2.2)); (case side4 => exact (Kd.R_reads' HO781.out).2.1); rintro e w' ⟨rfl, ⟨nd, rfl⟩⟩; refine ⟨_, rfl, ?_⟩; obtain ⟨Ao35, co35, eo35⟩ := Kd.R_slice HO777.out; subst eo35; obtain ⟨Ao36, co36, eo36⟩ := Kd.R_slice HO783.out; subst eo36) | (go_at_call 20; (with_reducible refine (laws_sameRows.calls k _ _ t773 _ _ t779 true _ ?side1 ?side2 ?side3 ?side4 A14.out).mono ?_); (case side1 => repeat (exact (Kd.R_reads' HO777.out).2.2)); (case side2 => exact (Kd.R_reads' HO777.out).2.1); (case side3 => repeat (exact (Kd.R_reads' HO783.out).2.2)); (case side4 => exact (Kd.R_reads' HO783.out).2.1); rintro e w' ⟨rfl, ⟨nd, rfl⟩⟩) | ((with_reducible refine gate_dst (N := 49) rfl ?_); (try (refine gate_guard rfl ?_; dsimp only)); refine Kd.R_lit k60 _ 60 ?hg (N := 49) ?hd (xs := ([] : List (S60))) (inner := []) (ok := fun _ => True) (okp := fun _ => True) ?hr ?hp (fun _ hk => hk) trivial (Below.refl _ _) (Nat.le_refl _) (by simp) ?_; (case hd => rfl); (case hg => rfl); (case hr => (go_simp; done)); (case hp => exact (Reps.none _ _)); intro v787 w37 ho38 hb hg_ hnew_; clear hg_ hnew_; (rw [← Ny786.out] at ho38); have HO788 := am (Kd.R_lower (Kd.R_new' (Kd.R_new' (Kd.R_new' (Kd.R_new' (Kd.R_new' ho38 (Kd.R_lt (by (with_reducible repeat (apply Kd.R_drewN)); exact HO771.out))) (Kd.R_lt (by (with_reducible repeat (apply Kd.R_drewN)); exact HO775.out))) (Kd.R_lt (by (with_reducible repeat (apply Kd.R_drewN)); exact HO777.out))) (Kd.R_lt (by (with_reducible repeat (apply Kd.R_drewN)); exact HO781.out))) (Kd.R_lt (by (with_reducible repeat (apply Kd.R_drewN)); exact HO783.out))) (below_size (by repeat (with_reducible first | exact HB.out | apply pw_below_drewN)))); replace HO771 := am (Kd.R_elder' (by (with_reducible repeat (apply Kd.R_drewN)); exact HO771.out) (Kd.R_base ho38) hb); replace HO775 := am (Kd.R_elder' (by (with_reducible repeat (apply Kd.R_drewN)); exact HO775.out) (Kd.R_base ho38) hb); replace HO777 := am (Kd.R_elder' (by (with_reducible repeat (apply Kd.R_drewN)); exact HO777.out) (Kd.R_base ho38) hb); replace HO781 := am (Kd.R_elder' (by (with_reducible repeat (apply Kd.R_drewN)); exact HO781.out) (Kd.R_base ho38) hb); replace HO783 := am (Kd.R_elder' (by (with_reducible repeat (apply Kd.R_drewN)); exact HO783.out) (Kd.R_base ho38) hb); replace HB := am (below_step (by repeat (with_reducible first | exact HB.out | apply pw_below_drewN)) hb); clear hb ho38) | ((with_reducible refine gate_builtin (b := .append) (xs := #[.tmp 49, .tmp 50]) rfl ?_); (try (refine gate_guard rfl ?_; dsimp only)); at_builtin; refine Kd.R_append_rows k60 (w0 := w) w.heap.size rfl (.tmp 49) (.tmp 50) 24 60 (.agg #[(.int .i64 0), (.int .i64 0), (.int .i64 0)]) 24 rfl Try.underlying24 info60 rfl (by decide) (by omega) v787 y786 t772 _ _ _ (fun k_ => some k_ ≠ (.slice Ao9 t768.length co9 : Value).ownBlock ∧ some k_ ≠ (.slice Ao33 t772.length co33 : Value).ownBlock ∧ some k_ ≠ (.slice Ao35 t773.length co35 : Value).ownBlock ∧ some k_ ≠ (.slice Ao34 t778.length co34 : Value).ownBlock ∧ some k_ ≠ (.slice Ao36 t779.length co36 : Value).ownBlock) (fun _ => False) rfl rfl ?aO ?aR (fun _ _ h => h) (fun _ h => h.elim) ?aF ?aB ?aS ?aL ?_; (case aR => repeat (exact (Kd.R_reads' HO775.out).2.2)); (case aB => exact HB.out); (case aF => exact (fun k_ hk => ⟨Kd.fresh' (Kd.R_lt HO771.out) k_ hk, Kd.fresh' (Kd.R_lt HO775.out) k_ hk, Kd.fresh' (Kd.R_lt HO777.out) k_ hk, Kd.fresh' (Kd.R_lt HO781.out) k_ hk, Kd.fresh' (Kd.R_lt HO783.out) k_ hk⟩)); (case aO => exact (by exact Kd.R_mono HO788.out (fun _ hk => ⟨hk.1.1.1.1.2, ⟨hk.1.1.1.2, ⟨hk.1.1.2, ⟨hk.1.2, hk.2⟩⟩⟩⟩))); (case aS => exact (below_size HB.out)); (case aL => have := LMc16.out; omega); intro v790 w39 ho hb hg hat; rw [← Ny789.out] at ho; replace HO771 := am (Kd.R_after (ok := (fun k_ => some k_ ≠ (.slice Ao33 t772.length co33 : Value).ownBlock ∧ some k_ ≠ (.slice Ao35 t773.length co35 : Value).ownBlock ∧ some k_ ≠ (.slice Ao34 t778.length co34 : Value).ownBlock ∧ some k_ ≠ (.slice Ao36 t779.length co36 : Value).ownBlock)) (by exact Kd.R_mono HO771.out (fun _ hk => ⟨⟨hk.1.1.1.1.2, ⟨hk.1.1.1.2, ⟨hk.1.1.2, hk.1.2⟩⟩⟩, hk.2⟩)) hg hat); replace HO775 := am (Kd.R_after (ok := (fun k_ => some k_ ≠ (.slice Ao9 t768.length co9 : Value).ownBlock ∧ some k_ ≠ (.slice Ao35 t773.length co35 : Value).ownBlock ∧ some k_ ≠ (.slice Ao34 t778.length co34 : Value).ownBlock ∧ some k_ ≠ (.slice Ao36 t779.length co36 : Value).ownBlock)) (by exact Kd.R_mono HO775.out (fun _ hk => ⟨⟨hk.1.1.1.2, ⟨hk.1.1.1.1, ⟨hk.1.1.2, hk.1.2⟩⟩⟩, hk.2⟩)) hg hat); replace HO777 := am (Kd.R_after (ok := (fun k_ => some k_ ≠ (.slice Ao9 t768.length co9 : Value).ownBlock ∧ some k_ ≠ (.slice Ao33 t772.length co33 : Value).ownBlock ∧ some k_ ≠ (.slice Ao34 t778.length co34 : Value).ownBlock ∧ some k_ ≠ (.slice Ao36 t779.length co36 : Value).ownBlock)) (by exact Kd.R_mono HO777.out (fun _ hk => ⟨⟨hk.1.1.1.2, ⟨hk.1.1.1.1, ⟨hk.1.1.2, hk.1.2⟩⟩⟩, hk.2⟩)) hg hat); replace HO781 := am (Kd.R_after (ok := (fun k_ => some k_ ≠ (.slice Ao9 t768.length co9 : Value).ownBlock ∧ some k_ ≠ (.slice Ao33 t772.length co33 : Value).ownBlock ∧ some k_ ≠ (.slice Ao35 t773.length co35 : Value).ownBlock ∧ some k_ ≠ (.slice Ao36 t779.length co36 : Value).ownBlock)) (by exact Kd.R_mono HO781.out (fun _ hk => ⟨⟨hk.1.1.1.2, ⟨hk.1.1.2, ⟨hk.1.2, hk.1.1.1.1⟩⟩⟩, hk.2⟩)) hg hat); replace HO783 := am (Kd.R_after (ok := (fun k_ => some k_ ≠ (.slice Ao9 t768.length co9 : Value).ownBlock ∧ some k_ ≠ (.slice Ao33 t772.length co33 : Value).ownBlock ∧ some k_ ≠ (.slice Ao35 t773.length co35 : Value).ownBlock ∧ some k_ ≠ (.slice Ao34 t778.length co34 : Value).ownBlock)) (by exact Kd.R_mono HO783.out (fun _ hk => ⟨⟨hk.1.1.1.2, ⟨hk.1.1.2, ⟨hk.1.2, hk.1.1.1.1⟩⟩⟩, hk.2⟩)) hg hat); replace HB := am (hb); have HO791 := am (ho); clear HO788 ho hb hg hat) | ((with_reducible refine gate_builtin (b := .append) (xs := #[.tmp 51, .tmp 52]) rfl ?_); (try (refine gate_guard rfl ?_; dsimp only)); at_builtin; refine Kd.R_append_rows k60 (w0 := w) w.heap.size rfl (.tmp 51) (.tmp 52) 24 60 (.agg #[(.int .i64 0), (.int .i64 0), (.int .i64 0)]) 24 rfl Try.underlying24 info60 rfl (by decide) (by omega) v790 y789 t773 _ _ _ (fun k_ => some k_ ≠ (.slice Ao9 t768.length co9 : Value).ownBlock ∧ some k_ ≠ (.slice Ao33 t772.length co33 : Value).ownBlock ∧ some k_ ≠ (.slice Ao35 t773.length co35 : Value).ownBlock ∧ some k_ ≠ (.slice Ao34 t778.length co34 : Value).ownBlock ∧ some k_ ≠ (.slice Ao36 t779.length co36 : Value).ownBlock) (fun _ => False) rfl rfl ?aO ?aR (fun _ _ h => h) (fun _ h => h.elim) ?aF ?aB ?aS ?aL ?_; (case aR => repeat (exact (Kd.R_reads' HO777.out).2.2)); (case aB => exact HB.out); (case aF => exact (fun k_ hk => ⟨Kd.fresh' (Kd.R_lt HO771.out) k_ hk, Kd.fresh' (Kd.R_lt HO775.out) k_ hk, Kd.fresh' (Kd.R_lt HO777.out) k_ hk, Kd.fresh' (Kd.R_lt HO781.out) k_ hk, Kd.fresh' (Kd.R_lt HO783.out) k_ hk⟩)); (case aO => exact HO791.out); (case aS => exact (below_size HB.out)); (case aL => have := LMc17.out; omega); intro v793 w40 ho hb hg hat; rw [← Ny792.out] at ho; replace HO771 := am (Kd.R_after (ok := (fun k_ => some k_ ≠ (.slice Ao33 t772.length co33 : Value).ownBlock ∧ some k_ ≠ (.slice Ao35 t773.length co35 : Value).ownBlock ∧ some k_ ≠ (.slice Ao34 t778.length co34 : Value).ownBlock ∧ some k_ ≠ (.slice Ao36 t779.length co36 : Value).ownBlock)) HO771.out hg hat); replace HO775 := am (Kd.R_after (ok := (fun k_ => some k_ ≠ (.slice Ao9 t768.length co9 : Value).ownBlock ∧ some k_ ≠ (.slice Ao35 t773.length co35 : Value).ownBlock ∧ some k_ ≠ (.slice Ao34 t778.length co34 : Value).ownBlock ∧ some k_ ≠ (.slice Ao36 t779.length co36 : Value).ownBlock)) HO775.out hg hat); replace HO777 := am (Kd.R_after (ok := (fun k_ => some k_ ≠ (.slice Ao9 t768.length co9 : Value).ownBlock ∧ some k_ ≠ (.slice Ao33 t772.length co33 : Value).ownBlock ∧ some k_ ≠ (.slice Ao34 t778.length co34 : Value).ownBlock ∧ some k_ ≠ (.slice Ao36 t779.length co36 : Value).ownBlock)) HO777.out hg hat); replace HO781 := am (Kd.R_after (ok := (fun k_ => some k_ ≠ (.slice Ao9 t768.length co9 : Value).ownBlock ∧ some k_ ≠ (.slice Ao33 t772.length co33 : Value).ownBlock ∧ some k_ ≠ (.slice Ao35 t773.length co35 : Value).ownBlock ∧ some k_ ≠ (.slice Ao36 t779.length co36 : Value).ownBlock)) HO781.out hg hat); replace HO783 := am (Kd.R_after (ok := (fun k_ => some k_ ≠ (.slice Ao9 t768.length co9 : Value).ownBlock ∧ some k_ ≠ (.slice Ao33 t772.length co33 : Value).ownBlock ∧ some k_ ≠ (.slice Ao35 t773.length co35 : Value).ownBlock ∧ some k_ ≠ (.slice Ao34 t778.length co34 : Value).ownBlock)) HO783.out hg hat); replace HB := am (hb); have HO794 := am (ho); clear HO791 ho hb hg hat; obtain ⟨Ao41, co41, eo41⟩ := Kd.R_slice HO794.out; subst eo41) | (go_at_call 20; (with_reducible refine (laws_sameRows.calls k _ _ y792 _ _ t768 true _ ?side1 ?side2 ?side3 ?side4 A18.out).mono ?_); (case side1 => repeat (exact (Kd.R_reads' HO794.out).2.2)); (case side2 => exact (Kd.R_reads' HO794.out).2.1); (case side3 => repeat (exact (Kd.R_reads' HO771.out).2.2)); (case side4 => exact (Kd.R_reads' HO771.out).2.1); rintro e w' ⟨rfl, ⟨nd, rfl⟩⟩) | (go_at_call 21; (with_reducible refine (spec_TotalCost.calls k _ _ t772 t796 _ ?side1 ?side2 A32.out).mono ?_); (case side1 => repeat (exact (Kd.R_reads' HO775.out).2.2)); (case side2 => exact (Kd.R_reads' HO775.out).2.1); rintro e w42 ⟨rfl, hb⟩; replace HO771 := am (Kd.R_below (by (with_reducible repeat (apply Kd.R_drewN)); exact HO771.out) hb); replace HO775 := am (Kd.R_below (by (with_reducible repeat (apply Kd.R_drewN)); exact HO775.out) hb); replace HO777 := am (Kd.R_below (by (with_reducible repeat (apply Kd.R_drewN)); exact HO777.out) hb); replace HO781 := am (Kd.R_below (by (with_reducible repeat (apply Kd.R_drewN)); exact HO781.out) hb); replace HO783 := am (Kd.R_below (by (with_reducible repeat (apply Kd.R_drewN)); exact HO783.out) hb); replace HO794 := am (Kd.R_below (by (with_reducible repeat (apply Kd.R_drewN)); exact HO794.out) hb); replace HB := am (below_step (by repeat (with_reducible first | exact HB.out | apply pw_below_drewN)) hb); (try clear hb)))
           go_meet
           case rel => exact ⟨_, (decide (t796 > t769)), rfl, H', ⟨by omega⟩, ⟨HB.out⟩⟩
          ·rw [if_neg c31] at H
           have c31b0 : decide (1 < (t772.length : Int)) = false := decide_eq_false c31
           have c31b1 : decide (1 < t772.length) = false := decide_eq_false (by omega)
           clear c31
           have H' := am H
           clear H
           obtain ⟨Ao43, co43, eo43⟩ := Kd.R_slice HO775.out
           subst eo43
           obtain ⟨Ao44, co44, eo44⟩ := Kd.R_slice HO781.out
           subst eo44
           go_wp2_with (first | ((with_reducible refine gate_callee (f := 20) rfl ?_); refine goesL_ (some 40) rfl rfl Try.func20 (by kernel_rfl) rfl #[.slice Ao43 t772.length co43, .slice Ao44 t778.length co44] rfl (by (try simp only [List.map_toArray, List.map_cons, List.map_nil]); rfl) ?_; (with_reducible refine (laws_sameRows.calls k _ _ t772 _ _ t778 true _ ?side1 ?side2 ?side3 ?side4 A12.out).mono ?_); (case side1 => repeat (exact (Kd.R_reads' HO775.out).2.2)); (case side2 => exact (Kd.R_reads' HO775.out).2.1); (case side3 => repeat (exact (Kd.R_reads' HO781.out).2.2)); (case side4 => exact (Kd.R_reads' HO781.out).2.1); rintro e w' ⟨rfl, ⟨nd, rfl⟩⟩; refine ⟨_, rfl, ?_⟩; obtain ⟨Ao45, co45, eo45⟩ := Kd.R_slice HO777.out; subst eo45; obtain ⟨Ao46, co46, eo46⟩ := Kd.R_slice HO783.out; subst eo46) | (go_at_call 20; (with_reducible refine (laws_sameRows.calls k _ _ t773 _ _ t779 true _ ?side1 ?side2 ?side3 ?side4 A14.out).mono ?_); (case side1 => repeat (exact (Kd.R_reads' HO777.out).2.2)); (case side2 => exact (Kd.R_reads' HO777.out).2.1); (case side3 => repeat (exact (Kd.R_reads' HO783.out).2.2)); (case side4 => exact (Kd.R_reads' HO783.out).2.1); rintro e w' ⟨rfl, ⟨nd, rfl⟩⟩) | ((with_reducible refine gate_dst (N := 49) rfl ?_); (try (refine gate_guard rfl ?_; dsimp only)); refine Kd.R_lit k60 _ 60 ?hg (N := 49) ?hd (xs := ([] : List (S60))) (inner := []) (ok := fun _ => True) (okp := fun _ => True) ?hr ?hp (fun _ hk => hk) trivial (Below.refl _ _) (Nat.le_refl _) (by simp) ?_; (case hd => rfl); (case hg => rfl); (case hr => (go_simp; done)); (case hp => exact (Reps.none _ _)); intro v787 w47 ho48 hb hg_ hnew_; clear hg_ hnew_; (rw [← Ny786.out] at ho48); have HO788 := am (Kd.R_lower (Kd.R_new' (Kd.R_new' (Kd.R_new' (Kd.R_new' (Kd.R_new' ho48 (Kd.R_lt (by (with_reducible repeat (apply Kd.R_drewN)); exact HO771.out))) (Kd.R_lt (by (with_reducible repeat (apply Kd.R_drewN)); exact HO775.out))) (Kd.R_lt (by (with_reducible repeat (apply Kd.R_drewN)); exact HO777.out))) (Kd.R_lt (by (with_reducible repeat (apply Kd.R_drewN)); exact HO781.out))) (Kd.R_lt (by (with_reducible repeat (apply Kd.R_drewN)); exact HO783.out))) (below_size (by repeat (with_reducible first | exact HB.out | apply pw_below_drewN)))); replace HO771 := am (Kd.R_elder' (by (with_reducible repeat (apply Kd.R_drewN)); exact HO771.out) (Kd.R_base ho48) hb); replace HO775 := am (Kd.R_elder' (by (with_reducible repeat (apply Kd.R_drewN)); exact HO775.out) (Kd.R_base ho48) hb); replace HO777 := am (Kd.R_elder' (by (with_reducible repeat (apply Kd.R_drewN)); exact HO777.out) (Kd.R_base ho48) hb); replace HO781 := am (Kd.R_elder' (by (with_reducible repeat (apply Kd.R_drewN)); exact HO781.out) (Kd.R_base ho48) hb); replace HO783 := am (Kd.R_elder' (by (with_reducible repeat (apply Kd.R_drewN)); exact HO783.out) (Kd.R_base ho48) hb); replace HB := am (below_step (by repeat (with_reducible first | exact HB.out | apply pw_below_drewN)) hb); clear hb ho48) | ((with_reducible refine gate_builtin (b := .append) (xs := #[.tmp 49, .tmp 50]) rfl ?_); (try (refine gate_guard rfl ?_; dsimp only)); at_builtin; refine Kd.R_append_rows k60 (w0 := w) w.heap.size rfl (.tmp 49) (.tmp 50) 24 60 (.agg #[(.int .i64 0), (.int .i64 0), (.int .i64 0)]) 24 rfl Try.underlying24 info60 rfl (by decide) (by omega) v787 y786 t772 _ _ _ (fun k_ => some k_ ≠ (.slice Ao9 t768.length co9 : Value).ownBlock ∧ some k_ ≠ (.slice Ao43 t772.length co43 : Value).ownBlock ∧ some k_ ≠ (.slice Ao45 t773.length co45 : Value).ownBlock ∧ some k_ ≠ (.slice Ao44 t778.length co44 : Value).ownBlock ∧ some k_ ≠ (.slice Ao46 t779.length co46 : Value).ownBlock) (fun _ => False) rfl rfl ?aO ?aR (fun _ _ h => h) (fun _ h => h.elim) ?aF ?aB ?aS ?aL ?_; (case aR => repeat (exact (Kd.R_reads' HO775.out).2.2)); (case aB => exact HB.out); (case aF => exact (fun k_ hk => ⟨Kd.fresh' (Kd.R_lt HO771.out) k_ hk, Kd.fresh' (Kd.R_lt HO775.out) k_ hk, Kd.fresh' (Kd.R_lt HO777.out) k_ hk, Kd.fresh' (Kd.R_lt HO781.out) k_ hk, Kd.fresh' (Kd.R_lt HO783.out) k_ hk⟩)); (case aO => exact (by exact Kd.R_mono HO788.out (fun _ hk => ⟨hk.1.1.1.1.2, ⟨hk.1.1.1.2, ⟨hk.1.1.2, ⟨hk.1.2, hk.2⟩⟩⟩⟩))); (case aS => exact (below_size HB.out)); (case aL => have := LMc16.out; omega); intro v790 w49 ho hb hg hat; rw [← Ny789.out] at ho; replace HO771 := am (Kd.R_after (ok := (fun k_ => some k_ ≠ (.slice Ao43 t772.length co43 : Value).ownBlock ∧ some k_ ≠ (.slice Ao45 t773.length co45 : Value).ownBlock ∧ some k_ ≠ (.slice Ao44 t778.length co44 : Value).ownBlock ∧ some k_ ≠ (.slice Ao46 t779.length co46 : Value).ownBlock)) (by exact Kd.R_mono HO771.out (fun _ hk => ⟨⟨hk.1.1.1.1.2, ⟨hk.1.1.1.2, ⟨hk.1.1.2, hk.1.2⟩⟩⟩, hk.2⟩)) hg hat); replace HO775 := am (Kd.R_after (ok := (fun k_ => some k_ ≠ (.slice Ao9 t768.length co9 : Value).ownBlock ∧ some k_ ≠ (.slice Ao45 t773.length co45 : Value).ownBlock ∧ some k_ ≠ (.slice Ao44 t778.length co44 : Value).ownBlock ∧ some k_ ≠ (.slice Ao46 t779.length co46 : Value).ownBlock)) (by exact Kd.R_mono HO775.out (fun _ hk => ⟨⟨hk.1.1.1.2, ⟨hk.1.1.1.1, ⟨hk.1.1.2, hk.1.2⟩⟩⟩, hk.2⟩)) hg hat); replace HO777 := am (Kd.R_after (ok := (fun k_ => some k_ ≠ (.slice Ao9 t768.length co9 : Value).ownBlock ∧ some k_ ≠ (.slice Ao43 t772.length co43 : Value).ownBlock ∧ some k_ ≠ (.slice Ao44 t778.length co44 : Value).ownBlock ∧ some k_ ≠ (.slice Ao46 t779.length co46 : Value).ownBlock)) (by exact Kd.R_mono HO777.out (fun _ hk => ⟨⟨hk.1.1.1.2, ⟨hk.1.1.1.1, ⟨hk.1.1.2, hk.1.2⟩⟩⟩, hk.2⟩)) hg hat); replace HO781 := am (Kd.R_after (ok := (fun k_ => some k_ ≠ (.slice Ao9 t768.length co9 : Value).ownBlock ∧ some k_ ≠ (.slice Ao43 t772.length co43 : Value).ownBlock ∧ some k_ ≠ (.slice Ao45 t773.length co45 : Value).ownBlock ∧ some k_ ≠ (.slice Ao46 t779.length co46 : Value).ownBlock)) (by exact Kd.R_mono HO781.out (fun _ hk => ⟨⟨hk.1.1.1.2, ⟨hk.1.1.2, ⟨hk.1.2, hk.1.1.1.1⟩⟩⟩, hk.2⟩)) hg hat); replace HO783 := am (Kd.R_after (ok := (fun k_ => some k_ ≠ (.slice Ao9 t768.length co9 : Value).ownBlock ∧ some k_ ≠ (.slice Ao43 t772.length co43 : Value).ownBlock ∧ some k_ ≠ (.slice Ao45 t773.length co45 : Value).ownBlock ∧ some k_ ≠ (.slice Ao44 t778.length co44 : Value).ownBlock)) (by exact Kd.R_mono HO783.out (fun _ hk => ⟨⟨hk.1.1.1.2, ⟨hk.1.1.2, ⟨hk.1.2, hk.1.1.1.1⟩⟩⟩, hk.2⟩)) hg hat); replace HB := am (hb); have HO791 := am (ho); clear HO788 ho hb hg hat) | ((with_reducible refine gate_builtin (b := .append) (xs := #[.tmp 51, .tmp 52]) rfl ?_); (try (refine gate_guard rfl ?_; dsimp only)); at_builtin; refine Kd.R_append_rows k60 (w0 := w) w.heap.size rfl (.tmp 51) (.tmp 52) 24 60 (.agg #[(.int .i64 0), (.int .i64 0), (.int .i64 0)]) 24 rfl Try.underlying24 info60 rfl (by decide) (by omega) v790 y789 t773 _ _ _ (fun k_ => some k_ ≠ (.slice Ao9 t768.length co9 : Value).ownBlock ∧ some k_ ≠ (.slice Ao43 t772.length co43 : Value).ownBlock ∧ some k_ ≠ (.slice Ao45 t773.length co45 : Value).ownBlock ∧ some k_ ≠ (.slice Ao44 t778.length co44 : Value).ownBlock ∧ some k_ ≠ (.slice Ao46 t779.length co46 : Value).ownBlock) (fun _ => False) rfl rfl ?aO ?aR (fun _ _ h => h) (fun _ h => h.elim) ?aF ?aB ?aS ?aL ?_; (case aR => repeat (exact (Kd.R_reads' HO777.out).2.2)); (case aB => exact HB.out); (case aF => exact (fun k_ hk => ⟨Kd.fresh' (Kd.R_lt HO771.out) k_ hk, Kd.fresh' (Kd.R_lt HO775.out) k_ hk, Kd.fresh' (Kd.R_lt HO777.out) k_ hk, Kd.fresh' (Kd.R_lt HO781.out) k_ hk, Kd.fresh' (Kd.R_lt HO783.out) k_ hk⟩)); (case aO => exact HO791.out); (case aS => exact (below_size HB.out)); (case aL => have := LMc17.out; omega); intro v793 w50 ho hb hg hat; rw [← Ny792.out] at ho; replace HO771 := am (Kd.R_after (ok := (fun k_ => some k_ ≠ (.slice Ao43 t772.length co43 : Value).ownBlock ∧ some k_ ≠ (.slice Ao45 t773.length co45 : Value).ownBlock ∧ some k_ ≠ (.slice Ao44 t778.length co44 : Value).ownBlock ∧ some k_ ≠ (.slice Ao46 t779.length co46 : Value).ownBlock)) HO771.out hg hat); replace HO775 := am (Kd.R_after (ok := (fun k_ => some k_ ≠ (.slice Ao9 t768.length co9 : Value).ownBlock ∧ some k_ ≠ (.slice Ao45 t773.length co45 : Value).ownBlock ∧ some k_ ≠ (.slice Ao44 t778.length co44 : Value).ownBlock ∧ some k_ ≠ (.slice Ao46 t779.length co46 : Value).ownBlock)) HO775.out hg hat); replace HO777 := am (Kd.R_after (ok := (fun k_ => some k_ ≠ (.slice Ao9 t768.length co9 : Value).ownBlock ∧ some k_ ≠ (.slice Ao43 t772.length co43 : Value).ownBlock ∧ some k_ ≠ (.slice Ao44 t778.length co44 : Value).ownBlock ∧ some k_ ≠ (.slice Ao46 t779.length co46 : Value).ownBlock)) HO777.out hg hat); replace HO781 := am (Kd.R_after (ok := (fun k_ => some k_ ≠ (.slice Ao9 t768.length co9 : Value).ownBlock ∧ some k_ ≠ (.slice Ao43 t772.length co43 : Value).ownBlock ∧ some k_ ≠ (.slice Ao45 t773.length co45 : Value).ownBlock ∧ some k_ ≠ (.slice Ao46 t779.length co46 : Value).ownBlock)) HO781.out hg hat); replace HO783 := am (Kd.R_after (ok := (fun k_ => some k_ ≠ (.slice Ao9 t768.length co9 : Value).ownBlock ∧ some k_ ≠ (.slice Ao43 t772.length co43 : Value).ownBlock ∧ some k_ ≠ (.slice Ao45 t773.length co45 : Value).ownBlock ∧ some k_ ≠ (.slice Ao44 t778.length co44 : Value).ownBlock)) HO783.out hg hat); replace HB := am (hb); have HO794 := am (ho); clear HO791 ho hb hg hat; obtain ⟨Ao51, co51, eo51⟩ := Kd.R_slice HO794.out; subst eo51) | (go_at_call 20; (with_reducible refine (laws_sameRows.calls k _ _ y792 _ _ t768 true _ ?side1 ?side2 ?side3 ?side4 A18.out).mono ?_); (case side1 => repeat (exact (Kd.R_reads' HO794.out).2.2)); (case side2 => exact (Kd.R_reads' HO794.out).2.1); (case side3 => repeat (exact (Kd.R_reads' HO771.out).2.2)); (case side4 => exact (Kd.R_reads' HO771.out).2.1); rintro e w' ⟨rfl, ⟨nd, rfl⟩⟩))
           go_meet
           case rel => exact ⟨_, (false), rfl, H', ⟨by omega⟩, ⟨by repeat ((with_reducible first | exact HB.out | apply pw_below_drewN))⟩⟩
        ·rw [if_neg c20] at H
         have c20b0 : decide (0 < (t768.length : Int)) = false := decide_eq_false c20
         have c20b1 : decide (0 < t768.length) = false := decide_eq_false (by omega)
         clear c20
         (skip)
         by_cases c52 : (t772.length : Int) > 1
         ·rw [if_pos c52] at H
          exact absurd H (by simp)
         ·rw [if_neg c52] at H
          have c52b0 : decide (1 < (t772.length : Int)) = false := decide_eq_false c52
          have c52b1 : decide (1 < t772.length) = false := decide_eq_false (by omega)
          clear c52
          have H' := am H
          clear H
          obtain ⟨Ao64, co64, eo64⟩ := Kd.R_slice HO775.out
          subst eo64
          obtain ⟨Ao65, co65, eo65⟩ := Kd.R_slice HO781.out
          subst eo65
          go_wp2_with (first | ((with_reducible refine gate_callee (f := 20) rfl ?_); refine goesL_ (some 40) rfl rfl Try.func20 (by kernel_rfl) rfl #[.slice Ao64 t772.length co64, .slice Ao65 t778.length co65] rfl (by (try simp only [List.map_toArray, List.map_cons, List.map_nil]); rfl) ?_; (with_reducible refine (laws_sameRows.calls k _ _ t772 _ _ t778 true _ ?side1 ?side2 ?side3 ?side4 A12.out).mono ?_); (case side1 => repeat (exact (Kd.R_reads' HO775.out).2.2)); (case side2 => exact (Kd.R_reads' HO775.out).2.1); (case side3 => repeat (exact (Kd.R_reads' HO781.out).2.2)); (case side4 => exact (Kd.R_reads' HO781.out).2.1); rintro e w' ⟨rfl, ⟨nd, rfl⟩⟩; refine ⟨_, rfl, ?_⟩; obtain ⟨Ao66, co66, eo66⟩ := Kd.R_slice HO777.out; subst eo66; obtain ⟨Ao67, co67, eo67⟩ := Kd.R_slice HO783.out; subst eo67) | (go_at_call 20; (with_reducible refine (laws_sameRows.calls k _ _ t773 _ _ t779 true _ ?side1 ?side2 ?side3 ?side4 A14.out).mono ?_); (case side1 => repeat (exact (Kd.R_reads' HO777.out).2.2)); (case side2 => exact (Kd.R_reads' HO777.out).2.1); (case side3 => repeat (exact (Kd.R_reads' HO783.out).2.2)); (case side4 => exact (Kd.R_reads' HO783.out).2.1); rintro e w' ⟨rfl, ⟨nd, rfl⟩⟩) | ((with_reducible refine gate_dst (N := 49) rfl ?_); (try (refine gate_guard rfl ?_; dsimp only)); refine Kd.R_lit k60 _ 60 ?hg (N := 49) ?hd (xs := ([] : List (S60))) (inner := []) (ok := fun _ => True) (okp := fun _ => True) ?hr ?hp (fun _ hk => hk) trivial (Below.refl _ _) (Nat.le_refl _) (by simp) ?_; (case hd => rfl); (case hg => rfl); (case hr => (go_simp; done)); (case hp => exact (Reps.none _ _)); intro v787 w68 ho69 hb hg_ hnew_; clear hg_ hnew_; (rw [← Ny786.out] at ho69); have HO788 := am (Kd.R_lower (Kd.R_new' (Kd.R_new' (Kd.R_new' (Kd.R_new' (Kd.R_new' ho69 (Kd.R_lt (by (with_reducible repeat (apply Kd.R_drewN)); exact HO771.out))) (Kd.R_lt (by (with_reducible repeat (apply Kd.R_drewN)); exact HO775.out))) (Kd.R_lt (by (with_reducible repeat (apply Kd.R_drewN)); exact HO777.out))) (Kd.R_lt (by (with_reducible repeat (apply Kd.R_drewN)); exact HO781.out))) (Kd.R_lt (by (with_reducible repeat (apply Kd.R_drewN)); exact HO783.out))) (below_size (by repeat (with_reducible first | exact HB.out | apply pw_below_drewN)))); replace HO771 := am (Kd.R_elder' (by (with_reducible repeat (apply Kd.R_drewN)); exact HO771.out) (Kd.R_base ho69) hb); replace HO775 := am (Kd.R_elder' (by (with_reducible repeat (apply Kd.R_drewN)); exact HO775.out) (Kd.R_base ho69) hb); replace HO777 := am (Kd.R_elder' (by (with_reducible repeat (apply Kd.R_drewN)); exact HO777.out) (Kd.R_base ho69) hb); replace HO781 := am (Kd.R_elder' (by (with_reducible repeat (apply Kd.R_drewN)); exact HO781.out) (Kd.R_base ho69) hb); replace HO783 := am (Kd.R_elder' (by (with_reducible repeat (apply Kd.R_drewN)); exact HO783.out) (Kd.R_base ho69) hb); replace HB := am (below_step (by repeat (with_reducible first | exact HB.out | apply pw_below_drewN)) hb); clear hb ho69) | ((with_reducible refine gate_builtin (b := .append) (xs := #[.tmp 49, .tmp 50]) rfl ?_); (try (refine gate_guard rfl ?_; dsimp only)); at_builtin; refine Kd.R_append_rows k60 (w0 := w) w.heap.size rfl (.tmp 49) (.tmp 50) 24 60 (.agg #[(.int .i64 0), (.int .i64 0), (.int .i64 0)]) 24 rfl Try.underlying24 info60 rfl (by decide) (by omega) v787 y786 t772 _ _ _ (fun k_ => some k_ ≠ (.slice Ao9 t768.length co9 : Value).ownBlock ∧ some k_ ≠ (.slice Ao64 t772.length co64 : Value).ownBlock ∧ some k_ ≠ (.slice Ao66 t773.length co66 : Value).ownBlock ∧ some k_ ≠ (.slice Ao65 t778.length co65 : Value).ownBlock ∧ some k_ ≠ (.slice Ao67 t779.length co67 : Value).ownBlock) (fun _ => False) rfl rfl ?aO ?aR (fun _ _ h => h) (fun _ h => h.elim) ?aF ?aB ?aS ?aL ?_; (case aR => repeat (exact (Kd.R_reads' HO775.out).2.2)); (case aB => exact HB.out); (case aF => exact (fun k_ hk => ⟨Kd.fresh' (Kd.R_lt HO771.out) k_ hk, Kd.fresh' (Kd.R_lt HO775.out) k_ hk, Kd.fresh' (Kd.R_lt HO777.out) k_ hk, Kd.fresh' (Kd.R_lt HO781.out) k_ hk, Kd.fresh' (Kd.R_lt HO783.out) k_ hk⟩)); (case aO => exact (by exact Kd.R_mono HO788.out (fun _ hk => ⟨hk.1.1.1.1.2, ⟨hk.1.1.1.2, ⟨hk.1.1.2, ⟨hk.1.2, hk.2⟩⟩⟩⟩))); (case aS => exact (below_size HB.out)); (case aL => have := LMc16.out; omega); intro v790 w70 ho hb hg hat; rw [← Ny789.out] at ho; replace HO771 := am (Kd.R_after (ok := (fun k_ => some k_ ≠ (.slice Ao64 t772.length co64 : Value).ownBlock ∧ some k_ ≠ (.slice Ao66 t773.length co66 : Value).ownBlock ∧ some k_ ≠ (.slice Ao65 t778.length co65 : Value).ownBlock ∧ some k_ ≠ (.slice Ao67 t779.length co67 : Value).ownBlock)) (by exact Kd.R_mono HO771.out (fun _ hk => ⟨⟨hk.1.1.1.1.2, ⟨hk.1.1.1.2, ⟨hk.1.1.2, hk.1.2⟩⟩⟩, hk.2⟩)) hg hat); replace HO775 := am (Kd.R_after (ok := (fun k_ => some k_ ≠ (.slice Ao9 t768.length co9 : Value).ownBlock ∧ some k_ ≠ (.slice Ao66 t773.length co66 : Value).ownBlock ∧ some k_ ≠ (.slice Ao65 t778.length co65 : Value).ownBlock ∧ some k_ ≠ (.slice Ao67 t779.length co67 : Value).ownBlock)) (by exact Kd.R_mono HO775.out (fun _ hk => ⟨⟨hk.1.1.1.2, ⟨hk.1.1.1.1, ⟨hk.1.1.2, hk.1.2⟩⟩⟩, hk.2⟩)) hg hat); replace HO777 := am (Kd.R_after (ok := (fun k_ => some k_ ≠ (.slice Ao9 t768.length co9 : Value).ownBlock ∧ some k_ ≠ (.slice Ao64 t772.length co64 : Value).ownBlock ∧ some k_ ≠ (.slice Ao65 t778.length co65 : Value).ownBlock ∧ some k_ ≠ (.slice Ao67 t779.length co67 : Value).ownBlock)) (by exact Kd.R_mono HO777.out (fun _ hk => ⟨⟨hk.1.1.1.2, ⟨hk.1.1.1.1, ⟨hk.1.1.2, hk.1.2⟩⟩⟩, hk.2⟩)) hg hat); replace HO781 := am (Kd.R_after (ok := (fun k_ => some k_ ≠ (.slice Ao9 t768.length co9 : Value).ownBlock ∧ some k_ ≠ (.slice Ao64 t772.length co64 : Value).ownBlock ∧ some k_ ≠ (.slice Ao66 t773.length co66 : Value).ownBlock ∧ some k_ ≠ (.slice Ao67 t779.length co67 : Value).ownBlock)) (by exact Kd.R_mono HO781.out (fun _ hk => ⟨⟨hk.1.1.1.2, ⟨hk.1.1.2, ⟨hk.1.2, hk.1.1.1.1⟩⟩⟩, hk.2⟩)) hg hat); replace HO783 := am (Kd.R_after (ok := (fun k_ => some k_ ≠ (.slice Ao9 t768.length co9 : Value).ownBlock ∧ some k_ ≠ (.slice Ao64 t772.length co64 : Value).ownBlock ∧ some k_ ≠ (.slice Ao66 t773.length co66 : Value).ownBlock ∧ some k_ ≠ (.slice Ao65 t778.length co65 : Value).ownBlock)) (by exact Kd.R_mono HO783.out (fun _ hk => ⟨⟨hk.1.1.1.2, ⟨hk.1.1.2, ⟨hk.1.2, hk.1.1.1.1⟩⟩⟩, hk.2⟩)) hg hat); replace HB := am (hb); have HO791 := am (ho); clear HO788 ho hb hg hat) | ((with_reducible refine gate_builtin (b := .append) (xs := #[.tmp 51, .tmp 52]) rfl ?_); (try (refine gate_guard rfl ?_; dsimp only)); at_builtin; refine Kd.R_append_rows k60 (w0 := w) w.heap.size rfl (.tmp 51) (.tmp 52) 24 60 (.agg #[(.int .i64 0), (.int .i64 0), (.int .i64 0)]) 24 rfl Try.underlying24 info60 rfl (by decide) (by omega) v790 y789 t773 _ _ _ (fun k_ => some k_ ≠ (.slice Ao9 t768.length co9 : Value).ownBlock ∧ some k_ ≠ (.slice Ao64 t772.length co64 : Value).ownBlock ∧ some k_ ≠ (.slice Ao66 t773.length co66 : Value).ownBlock ∧ some k_ ≠ (.slice Ao65 t778.length co65 : Value).ownBlock ∧ some k_ ≠ (.slice Ao67 t779.length co67 : Value).ownBlock) (fun _ => False) rfl rfl ?aO ?aR (fun _ _ h => h) (fun _ h => h.elim) ?aF ?aB ?aS ?aL ?_; (case aR => repeat (exact (Kd.R_reads' HO777.out).2.2)); (case aB => exact HB.out); (case aF => exact (fun k_ hk => ⟨Kd.fresh' (Kd.R_lt HO771.out) k_ hk, Kd.fresh' (Kd.R_lt HO775.out) k_ hk, Kd.fresh' (Kd.R_lt HO777.out) k_ hk, Kd.fresh' (Kd.R_lt HO781.out) k_ hk, Kd.fresh' (Kd.R_lt HO783.out) k_ hk⟩)); (case aO => exact HO791.out); (case aS => exact (below_size HB.out)); (case aL => have := LMc17.out; omega); intro v793 w71 ho hb hg hat; rw [← Ny792.out] at ho; replace HO771 := am (Kd.R_after (ok := (fun k_ => some k_ ≠ (.slice Ao64 t772.length co64 : Value).ownBlock ∧ some k_ ≠ (.slice Ao66 t773.length co66 : Value).ownBlock ∧ some k_ ≠ (.slice Ao65 t778.length co65 : Value).ownBlock ∧ some k_ ≠ (.slice Ao67 t779.length co67 : Value).ownBlock)) HO771.out hg hat); replace HO775 := am (Kd.R_after (ok := (fun k_ => some k_ ≠ (.slice Ao9 t768.length co9 : Value).ownBlock ∧ some k_ ≠ (.slice Ao66 t773.length co66 : Value).ownBlock ∧ some k_ ≠ (.slice Ao65 t778.length co65 : Value).ownBlock ∧ some k_ ≠ (.slice Ao67 t779.length co67 : Value).ownBlock)) HO775.out hg hat); replace HO777 := am (Kd.R_after (ok := (fun k_ => some k_ ≠ (.slice Ao9 t768.length co9 : Value).ownBlock ∧ some k_ ≠ (.slice Ao64 t772.length co64 : Value).ownBlock ∧ some k_ ≠ (.slice Ao65 t778.length co65 : Value).ownBlock ∧ some k_ ≠ (.slice Ao67 t779.length co67 : Value).ownBlock)) HO777.out hg hat); replace HO781 := am (Kd.R_after (ok := (fun k_ => some k_ ≠ (.slice Ao9 t768.length co9 : Value).ownBlock ∧ some k_ ≠ (.slice Ao64 t772.length co64 : Value).ownBlock ∧ some k_ ≠ (.slice Ao66 t773.length co66 : Value).ownBlock ∧ some k_ ≠ (.slice Ao67 t779.length co67 : Value).ownBlock)) HO781.out hg hat); replace HO783 := am (Kd.R_after (ok := (fun k_ => some k_ ≠ (.slice Ao9 t768.length co9 : Value).ownBlock ∧ some k_ ≠ (.slice Ao64 t772.length co64 : Value).ownBlock ∧ some k_ ≠ (.slice Ao66 t773.length co66 : Value).ownBlock ∧ some k_ ≠ (.slice Ao65 t778.length co65 : Value).ownBlock)) HO783.out hg hat); replace HB := am (hb); have HO794 := am (ho); clear HO791 ho hb hg hat; obtain ⟨Ao72, co72, eo72⟩ := Kd.R_slice HO794.out; subst eo72) | (go_at_call 20; (with_reducible refine (laws_sameRows.calls k _ _ y792 _ _ t768 true _ ?side1 ?side2 ?side3 ?side4 A18.out).mono ?_); (case side1 => repeat (exact (Kd.R_reads' HO794.out).2.2)); (case side2 => exact (Kd.R_reads' HO794.out).2.1); (case side3 => repeat (exact (Kd.R_reads' HO771.out).2.2)); (case side4 => exact (Kd.R_reads' HO771.out).2.1); rintro e w' ⟨rfl, ⟨nd, rfl⟩⟩))
          go_meet
          case rel => exact ⟨_, (false), rfl, H', ⟨by omega⟩, ⟨by repeat ((with_reducible first | exact HB.out | apply pw_below_drewN))⟩⟩
       ·replace c19 := Bool.eq_false_iff.mpr c19
        subst c19
        rw [if_neg (show ¬ (false = true) by decide)] at H
        exact absurd H (by simp)
      ·rw [if_neg c17] at H
       exact absurd H (by simp)
     ·rw [if_neg c16] at H
      exact absurd H (by simp)
    ·replace c15 := Bool.eq_false_iff.mpr c15
     subst c15
     rw [if_neg (show ¬ (false = true) by decide)] at H
     exact absurd H (by simp)
   ·replace c13 := Bool.eq_false_iff.mpr c13
    subst c13
    rw [if_neg (show ¬ (false = true) by decide)] at H
    exact absurd H (by simp)
  case rest =>
   clear HC7
   obtain ⟨kq, x78_6, rfl, HA, HJ6, HB⟩ := hcut
   cases kq with
   | zero => exact absurd HA.out (by simp [laws_FnBlockNestedLoop.j0])
   | succ kj6 =>
    have H := HA.out
    clear HA
    simp only [laws_FnBlockNestedLoop.j0] at H
    by_cases c88 : x78_6 = true
    ·subst c88
     rw [if_pos rfl] at H
     obtain rfl := Option.some.inj H
     go_wp2
     go_ret
     exact ⟨rfl, HB.out⟩
    ·replace c88 := Bool.eq_false_iff.mpr c88
     subst c88
     rw [if_neg (show ¬ (false = true) by decide)] at H
     replace H := Option.bind_eq_some_iff.mp H
     obtain ⟨⟨t798, t799, t800, t801⟩, A890, H⟩ := H
     have A89 := am A890
     clear A890
     replace H := Option.bind_eq_some_iff.mp H
     obtain ⟨⟨t806, t807, t808⟩, A900, H⟩ := H
     have A90 := am A900
     clear A900
     replace H := Option.bind_eq_some_iff.mp H
     obtain ⟨⟨t811, t814, t815⟩, A910, H⟩ := H
     have A91 := am A910
     clear A910
     have HC92 := am H
     clear H
     go_upto_region 11 with (first | ((with_reducible refine gate_callee (f := 22) rfl ?_); refine goesL_ (some 81) rfl rfl Try.func22 (by kernel_rfl) rfl #[.slice A0 l0.length c0] rfl (by (try simp only [List.map_toArray, List.map_cons, List.map_nil]); rfl) ?_; (with_reducible refine (spec_DrawBlockNestedLoopJoin.calls kj6 _ _ l0 t798 t799 t800 t801 _ ?side1 ?side2 A89.out).mono ?_); (case side1 => repeat (exact (Kd.C_below HR0.out HB.out))); (case side2 => exact HC0.out); rintro e w93 ⟨v802, v804, rfl, ho0, ho1, hb⟩; refine ⟨_, rfl, ?_⟩; have HO803 := am (Kd.R_lower ho0 (below_size HB.out)); have HO805 := am (Kd.R_lower ho1 (below_size HB.out)); replace HB := am (below_step HB.out hb); (try clear hb); (try clear ho0); (try clear ho1); obtain ⟨Ao94, co94, eo94⟩ := Kd.R_slice HO803.out; subst eo94; obtain ⟨Ao95, co95, eo95⟩ := Kd.R_slice HO805.out; subst eo95) | ((with_reducible refine gate_callee (f := 23) rfl ?_); refine goesL_ (some 91) rfl rfl Try.func23 (by kernel_rfl) rfl #[.int .i64 t798, .slice Ao94 t799.length co94, .slice Ao95 t800.length co95, .int .i64 t801] rfl (by (try simp only [List.map_toArray, List.map_cons, List.map_nil]); rfl) ?_; (with_reducible refine (impl_BlockNestedLoopJoin.calls kj6 t798 _ _ t799 _ _ t800 t801 t806 t807 t808 _ ?side1 ?side2 ?side3 ?side4 A90.out).mono ?_); (case side1 => repeat (exact (Kd.R_reads' HO803.out).2.2)); (case side2 => exact (Kd.R_reads' HO803.out).2.1); (case side3 => repeat (exact (Kd.R_reads' HO805.out).2.2)); (case side4 => exact (Kd.R_reads' HO805.out).2.1); rintro e w96 ⟨v809, rfl, ho0, hb⟩; refine ⟨_, rfl, ?_⟩; replace HO803 := am (Kd.R_below HO803.out hb); replace HO805 := am (Kd.R_below HO805.out hb); have HO810 := am (Kd.R_lower ho0 (below_size HB.out)); replace HB := am (below_step HB.out hb); (try clear hb); (try clear ho0)) | ((with_reducible refine gate_callee (f := 24) rfl ?_); refine goesL_ (some 100) rfl rfl Try.func24 (by kernel_rfl) rfl #[.int .i64 t798, .slice Ao94 t799.length co94, .slice Ao95 t800.length co95, .int .i64 t801] rfl (by (try simp only [List.map_toArray, List.map_cons, List.map_nil]); rfl) ?_; (with_reducible refine (spec_BlockNestedLoopJoin.calls kj6 t798 _ _ t799 (fun k_ => some k_ = (.slice Ao95 t800.length co95 : Value).ownBlock) _ _ t800 t801 t811 t814 t815 _ ?side1 ?side2 ?side3 A91.out).mono ?_); (case side1 => repeat (exact (Kd.R_reads' HO803.out).2.2)); (case side2 => exact (Kd.R_reads' HO803.out).2.1); (case side3 => exact Kd.R_V (Kd.R_tight rfl (Kd.R_apart' HO805.out (Kd.R_typed HO810.out) (by decide)))); rintro e w97 ⟨v812, rfl, ho0, hb⟩; refine ⟨_, rfl, ?_⟩; replace HO803 := am (Kd.R_below HO803.out hb); replace HO805 := am (Kd.R_below HO805.out hb); have HO813 := am (Kd.R_lower (Kd.R_new' (Kd.R_mono (ok' := fun k_ => True) ho0 (fun _ hk_ => trivial)) (Kd.R_lt HO810.out)) (below_size HB.out)); replace HO810 := am (Kd.R_elder' HO810.out (Kd.R_base ho0) hb); replace HB := am (below_step HB.out hb); (try clear hb); (try clear ho0)))
     (try simp only [Act.put, s2_, s0_, s1_])
     go_cut [117] (fun v117 wc => ∃ (kq : Nat) (x117_91 : Bool), v117 = .bool x117_91 ∧ Aside0 (laws_FnBlockNestedLoop.j1 kq t798 t799 t800 t806 t807 t808 x117_91 = some r) ∧ Aside0 (kq ≤ kj6) ∧ Aside0 (Kd.R k60 60 wc w.heap.size (fun k_ => some k_ ≠ ((.slice Ao95 t800.length co95) : Value).ownBlock) (.slice Ao94 t799.length co94) t799) ∧ Aside0 (Kd.R k60 60 wc w.heap.size (fun k_ => some k_ ≠ ((.slice Ao94 t799.length co94) : Value).ownBlock) (.slice Ao95 t800.length co95) t800) ∧ Aside0 (Kd.R k128 128 wc w.heap.size (fun _ => True) v809 t806) ∧ Aside0 (Below w.heap.size w wc))
     case first =>
      have H := HC92.out
      clear HC92
      by_cases c98 : (t808 != t815) = true
      ·rw [if_pos c98] at H
       exact absurd H (by simp)
      ·rw [if_neg c98] at H
       have c98b0 : (t808 != t815) = false := by simpa using c98
       (try (have c98b1 : decide (t808 = t815) = true := by simpa using c98))
       (try (have c98b2 : (t808 == t815) = true := by simpa using c98))
       clear c98
       (skip)
       by_cases c99 : t807 = t814
       ·rw [if_pos c99] at H
        have c99b0 : (t807 == t814) = true := beq_iff_eq.mpr c99
        have c99b1 : (t807 != t814) = false := bne_eq_false_iff_eq.mpr c99
        clear c99
        replace H := Option.bind_eq_some_iff.mp H
        obtain ⟨t816, A1000, H⟩ := H
        have A100 := am A1000
        clear A1000
        have H' := am H
        clear H
        obtain ⟨Ao101, co101, eo101⟩ := Kd.R_slice HO810.out
        subst eo101
        obtain ⟨Ao102, co102, eo102⟩ := Kd.R_slice HO813.out
        subst eo102
        go_wp2_with ((go_at_call 25; (with_reducible refine (spec_EqualPairBags.calls kj6 _ _ t806 _ _ t811 t816 _ ?side1 ?side2 ?side3 ?side4 A100.out).mono ?_); (case side1 => repeat (exact (Kd.R_reads' HO810.out).2.2)); (case side2 => exact (Kd.R_reads' HO810.out).2.1); (case side3 => repeat (exact (Kd.R_reads' HO813.out).2.2)); (case side4 => exact (Kd.R_reads' HO813.out).2.1); rintro e w103 ⟨rfl, hb⟩; replace HO803 := am (Kd.R_below HO803.out hb); replace HO805 := am (Kd.R_below HO805.out hb); replace HO810 := am (Kd.R_below HO810.out hb); replace HO813 := am (Kd.R_below HO813.out hb); replace HB := am (below_step HB.out hb); (try clear hb)))
        go_meet
        case rel => exact ⟨_, (!t816), rfl, H', ⟨by have := HJ6.out; omega⟩, ⟨HO803.out⟩, ⟨HO805.out⟩, ⟨by exact Kd.R_mono HO810.out (fun _ hk => trivial)⟩, ⟨HB.out⟩⟩
       ·rw [if_neg c99] at H
        exact absurd H (by simp)
     case rest =>
      clear HC92
      obtain ⟨kq, x117_91, rfl, HA, HJ91, HO_10, HO_11, HO_13, HB⟩ := hcut
      cases kq with
      | zero => exact absurd HA.out (by simp [laws_FnBlockNestedLoop.j1])
      | succ kj91 =>
       have H := HA.out
       clear HA
       simp only [laws_FnBlockNestedLoop.j1] at H
       by_cases c104 : x117_91 = true
       ·subst c104
        rw [if_pos rfl] at H
        obtain rfl := Option.some.inj H
        go_wp2
        go_ret
        exact ⟨rfl, HB.out⟩
       ·replace c104 := Bool.eq_false_iff.mpr c104
        subst c104
        rw [if_neg (show ¬ (false = true) by decide)] at H
        by_cases c105 : t808 = true
        ·subst c105
         rw [if_pos rfl] at H
         replace H := Option.bind_eq_some_iff.mp H
         obtain ⟨t817, A1060, H⟩ := H
         have A106 := am A1060
         clear A1060
         replace H := Option.bind_eq_some_iff.mp H
         obtain ⟨t820, A1070, H⟩ := H
         have A107 := am A1070
         clear A1070
         by_cases c108 : t820 = true
         ·subst c108
          rw [if_pos rfl] at H
          obtain rfl := Option.some.inj H
          go_wp2_with (first | (go_at_call 26; (with_reducible refine (spec_ReferenceJoin.calls kj91 t798 _ _ t799 _ _ t800 t817 _ ?side1 ?side2 ?side3 ?side4 A106.out).mono ?_); (case side1 => repeat (exact (Kd.R_reads' HO_10.out).2.2)); (case side2 => exact (Kd.R_reads' HO_10.out).2.1); (case side3 => repeat (exact (Kd.R_reads' HO_11.out).2.2)); (case side4 => exact (Kd.R_reads' HO_11.out).2.1); rintro e w109 ⟨v818, rfl, ho0, hb⟩; replace HO_10 := am (Kd.R_below HO_10.out hb); replace HO_11 := am (Kd.R_below HO_11.out hb); have HO819 := am (Kd.R_lower (Kd.R_new' ho0 (Kd.R_lt HO_13.out)) (below_size HB.out)); replace HO_13 := am (Kd.R_elder' HO_13.out (Kd.R_base ho0) hb); replace HB := am (below_step HB.out hb); (try clear hb); (try clear ho0); obtain ⟨Ao110, co110, eo110⟩ := Kd.R_slice HO_13.out; subst eo110; obtain ⟨Ao111, co111, eo111⟩ := Kd.R_slice HO819.out; subst eo111) | (go_at_call 25; (with_reducible refine (spec_EqualPairBags.calls kj91 _ _ t806 _ _ t817 true _ ?side1 ?side2 ?side3 ?side4 A107.out).mono ?_); (case side1 => repeat (exact (Kd.R_reads' HO_13.out).2.2)); (case side2 => exact (Kd.R_reads' HO_13.out).2.1); (case side3 => repeat (exact (Kd.R_reads' HO819.out).2.2)); (case side4 => exact (Kd.R_reads' HO819.out).2.1); rintro e w112 ⟨rfl, hb⟩; replace HO_10 := am (Kd.R_below HO_10.out hb); replace HO_11 := am (Kd.R_below HO_11.out hb); replace HO_13 := am (Kd.R_below HO_13.out hb); replace HO819 := am (Kd.R_below HO819.out hb); replace HB := am (below_step HB.out hb); (try clear hb)))
          go_ret
          exact ⟨rfl, HB.out⟩
         ·replace c108 := Bool.eq_false_iff.mpr c108
          subst c108
          rw [if_neg (show ¬ (false = true) by decide)] at H
          exact absurd H (by simp)
        ·replace c105 := Bool.eq_false_iff.mpr c105
         subst c105
         rw [if_neg (show ¬ (false = true) by decide)] at H
         obtain rfl := Option.some.inj H
         go_wp2
         go_ret
         exact ⟨rfl, HB.out⟩

/-- THE ONE PURE STATEMENT of laws_FnBlockNestedLoop: yours. -/
def laws_FnBlockNestedLoop.Pure : Prop := ∀ (l0 : List Int), l0.length ≤ maxLen → l0.length * 1 ≤ 140737488351232 → (∀ x ∈ l0, (Lit.int .u8 x).wf = true) → ∃ k, laws_FnBlockNestedLoop.f k l0 = some true
theorem laws_FnBlockNestedLoop.walk (P : laws_FnBlockNestedLoop.Pure) (a0 : Option Addr) (len0 cap0 : Nat) (z0 : List Int) (w : World) (w0 : (a0 = none ∧ len0 = 0 ∧ cap0 = 0 ∧ z0 = []) ∨ ∃ x, a0 = some x ∧ len0 ≤ cap0 ∧ cap0 ≤ maxLen ∧ z0.length = cap0 ∧ (∀ i, i < z0.length → w.cell? (x.add i) = some (.int .u8 (z0.getD i 0))) ∧ ∀ n ∈ z0, (Lit.int .u8 n).wf = true) (y0 : len0 * 1 ≤ 140737488351232) :
  Calls Try.prog 3 #[.slice a0 len0 cap0] w fun e w' => e = .returned (.bool true) ∧ Below w.heap.size w w' := by
 obtain ⟨l0, rfl, hr0, hm0, hw0, hc0⟩ := ReadsInt.ofRowC w0
 obtain ⟨k, h⟩ := P l0 hm0 y0 hw0
 refine (laws_FnBlockNestedLoop.calls k _ _ l0 true w (Kd.C_of_reads (d := (0 : Int)) (h1 := fun _ => rfl) hr0) hc0 h).mono ?_
 rintro e w' ⟨rfl, hd⟩
 exact ⟨rfl, hd⟩

end Go.Proofs.Ytobndcjmjhehjaa.P
