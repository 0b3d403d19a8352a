/- For every string the law FnExactParseAggregator of the given program returns true and leaves its argument as it was; no condition. -/
import Derived.Test.YtphkghnppcfdpaaPaf0
namespace Go.Proofs.Ytphkghnppcfdpaa.P
open Go.RowKit Go.Proofs.YtphkghnppcfdpaaW.PrintWords Go.Proofs.YtphkghnppcfdpaaW.PrintLast Go.Proofs.YtphkghnppcfdpaaW.PrintMore
attribute [local go_sem] max2_int min2_int max_two min_two max_three min_three max_four min_four   -- for this text's walks alone
set_option linter.unusedVariables false
set_option linter.unusedSimpArgs false

/-! ### impl_IsValidAggregator: function 56 -/
def impl_IsValidAggregator.l0 : Nat → Int → List (S79) → Int → Int → List (S79) → Int → Bool → Option (Bool)
 | 0, _, _, _, _, _, _, _ => none
 | k + 1, x3, x7, x8, x9, x221000, x221001, x221002 => if x9 < x8 then (if 0 ≤ x9 then (if x9 < (x7.length : Int) then ((impl_AreValidRows.f k ((rd_T79 x7 x9).f0)).bind fun t224 => (if t224 = true then ((impl_within.f ((rd_T79 x7 x9).f1) 0 4).bind fun t225 => (if t225 = true then (impl_IsValidAggregator.l0 k (wrap64 (x3 + (((rd_T79 x7 x9).f0).length : Int))) x7 x8 (wrap64 (x9 + 1)) x221000 x221001 x221002) else (some false))) else (some false))) else (none)) else (none)) else (if (x221000.length : Int) ≤ 40 then (if x3 ≤ 24 then ((impl_within.f x221001 0 100000).bind fun t221 => (some t221)) else (some false)) else (some false))
def impl_IsValidAggregator.f (k : Nat) (l0_0 : List (S79)) (a0_1 : Int) (a0_2 : Bool) : Option (Bool) := impl_IsValidAggregator.l0 k 0 l0_0 (l0_0.length : Int) 0 l0_0 a0_1 a0_2
theorem impl_IsValidAggregator.mono_l : ∀ k, (∀ y0 y1 y2 y3 y4 y5 y6, LeO (impl_IsValidAggregator.l0 k y0 y1 y2 y3 y4 y5 y6) (impl_IsValidAggregator.l0 (k + 1) y0 y1 y2 y3 y4 y5 y6))
 | 0 => fun _ _ _ _ _ _ _ r h => by simp [impl_IsValidAggregator.l0] at h
 | k + 1 => by
  have ih0 := impl_IsValidAggregator.mono_l k
  ·intro y0 y1 y2 y3 y4 y5 y6
   unfold impl_IsValidAggregator.l0
   repeat' first
   | (with_reducible exact ih0 _ _ _ _ _ _ _)
   | (with_reducible exact impl_AreValidRows.mono _ _)
   | (with_reducible exact LeO.refl _)
   | (with_reducible refine LeO.ite ?_ ?_)
   | (with_reducible refine LeO.bind ?_ (fun _ => ?_))
theorem impl_IsValidAggregator.mono : ∀ a0 a1 a2 k, LeO (impl_IsValidAggregator.f k a0 a1 a2) (impl_IsValidAggregator.f (k + 1) a0 a1 a2) := by
 intro a0 a1 a2 k
 have ih0 := impl_IsValidAggregator.mono_l k
 unfold impl_IsValidAggregator.f
 repeat' (with_reducible exact ih0 _ _ _ _ _ _ _)

set_option maxHeartbeats 8000000 in
set_option maxRecDepth 100000 in
theorem impl_IsValidAggregator.calls (k : Nat) (A0_0 : Option Addr) (c0_0 : Nat) (l0_0 : List (S79)) (a0_1 : Int) (a0_2 : Bool) (r : Bool) (w : World) (hr0_0 : Kd.C k79 w A0_0 l0_0.length l0_0) (hc0_0 : l0_0.length ≤ c0_0) (h : impl_IsValidAggregator.f k l0_0 a0_1 a0_2 = some r) :
  Calls Try.prog 56 #[.agg #[.slice A0_0 l0_0.length c0_0, .int .i64 a0_1, .bool a0_2]] w fun e w' => e = .returned (.bool r) ∧ Below w.heap.size w w' := by
 have hu24 := Try.underlying24
 have hu79 := Try.underlying79
 have HR0_0 := Aside0.mk hr0_0
 have HC0_0 := Aside0.mk hc0_0
 clear hr0_0 hc0_0
 have HB := Aside0.mk (Below.refl w.heap.size w)
 have H : (impl_IsValidAggregator.l0 k 0 l0_0 (l0_0.length : Int) 0 l0_0 a0_1 a0_2) = some r := h
 clear h
 have H' := Aside0.mk H
 clear H
 go_enter Try.func56, Try.ntmps56
 go_wp2_with (((with_reducible refine gate_dst (N := 1) rfl ?_); refine box_event ?hg (N := 1) ?hd (cs := #[.slice A0_0 l0_0.length c0_0, .int .i64 a0_1, .bool a0_2]) (t := 24) ?hr ?_; (case hd => rfl); (case hg => rfl); (case hr => (go_simp; done)); intro gb220 hg w2 hbox hb; have n0_ := Aside0.mk (below_step HB.out hb); have n1_ := Aside0.mk (hbox); have n2_ := Aside0.mk ((by rw [hg]; exact (below_size HB.out) : w.heap.size ≤ gb220)); have n3_ := Aside0.mk ((by rw [hg]; exact (below_size HB.out) : w.heap.size ≤ gb220)); clear HB; have HB := n0_; have BK220 := n1_; have GW220 := n2_; have GE220 := n3_; clear n0_ n1_ n2_ n3_; clear hb hbox hg; have hcz3_0 : w2.cell? ⟨gb220, 0, none⟩ = some (.slice A0_0 l0_0.length c0_0) := (blk_cell BK220.out 0).trans rfl; have hcz3_1 : w2.cell? ⟨gb220, 1, none⟩ = some (.int .i64 a0_1) := (blk_cell BK220.out 1).trans rfl; have hcz3_2 : w2.cell? ⟨gb220, 2, none⟩ = some (.bool a0_2) := (blk_cell BK220.out 2).trans rfl; have hfz3_0 := blk_frozen BK220.out 0; have hfz3_1 := blk_frozen BK220.out 1; have hfz3_2 := blk_frozen BK220.out 2))
 go_loopg [3, 9] k (fun kq v3 v9 w' => ∃ (x3_1 : Int) (x9_1 : Int), v3 = .int .i64 x3_1 ∧ v9 = .int .i64 x9_1 ∧ Aside0 (impl_IsValidAggregator.l0 kq x3_1 l0_0 (l0_0.length : Int) x9_1 l0_0 a0_1 a0_2 = some r) ∧ Aside0 (kq ≤ k) ∧ Aside0 (w'.heap[gb220]? = some (.cells #[(.slice A0_0 l0_0.length c0_0), .int .i64 a0_1, .bool a0_2] 24 (0, 0))) ∧ Aside0 (Below w.heap.size w w'))
 case atStart => exact ⟨(0), (0), rfl, rfl, H', ⟨Nat.le_refl _⟩, ⟨BK220.out⟩, ⟨HB.out⟩⟩
 case round =>
  clear H'
  try clear hcz3_0
  try clear hcz3_1
  try clear hcz3_2
  try clear hfz3_0
  try clear hfz3_1
  try clear hfz3_2
  obtain ⟨x3_1, x9_1, rfl, rfl, HA, HK1, BK220, HB⟩ := hrel
  cases gk with
  | zero => exact absurd HA.out (by simp [impl_IsValidAggregator.l0])
  | succ k1 =>
   have H := HA.out
   clear HA
   simp only [impl_IsValidAggregator.l0] at H
   by_cases c4 : x9_1 < (l0_0.length : Int)
   ·rw [if_pos c4] at H
    have c4b0 : decide (x9_1 < (l0_0.length : Int)) = true := decide_eq_true c4
    clear c4
    by_cases c5 : 0 ≤ x9_1
    ·rw [if_pos c5] at H
     have c5b0 : decide (0 ≤ x9_1) = true := decide_eq_true c5
     clear c5
     by_cases c6 : x9_1 < (l0_0.length : Int)
     ·rw [if_pos c6] at H
      have c6b0 : decide (x9_1 < (l0_0.length : Int)) = true := decide_eq_true c6
      clear c6
      replace H := Option.bind_eq_some_iff.mp H
      obtain ⟨t224, A70, H⟩ := H
      have A7 := Aside0.mk A70
      clear A70
      by_cases c8 : t224 = true
      ·subst c8
       rw [if_pos rfl] at H
       replace H := Option.bind_eq_some_iff.mp H
       obtain ⟨t225, A90, H⟩ := H
       have A9 := Aside0.mk A90
       clear A90
       by_cases c10 : t225 = true
       ·subst c10
        rw [if_pos rfl] at H
        have H' := Aside0.mk H
        clear H
        have p222 : 0 ≤ (x9_1 : Int) := of_decide_eq_true (by (with_reducible assumption))
        have q222 : x9_1 < (l0_0.length : Int) := of_decide_eq_true (by (with_reducible assumption))
        obtain ⟨ad222, A222_0, c222_0, e222, hx222_0, hx222_1, hl222_0, hi222_0⟩ := at_T79 HR0_0.out x9_1 p222 q222
        cases e222
        replace hx222_0 := (HB.out.cell (World.block_lt_of_cell? w _ hx222_0)).trans hx222_0
        replace hx222_1 := (HB.out.cell (World.block_lt_of_cell? w _ hx222_1)).trans hx222_1
        have HR222_0 := Aside0.mk hi222_0
        have HC222_0 := Aside0.mk hl222_0
        clear hi222_0 hl222_0
        replace p222 := eq_true p222
        replace q222 := eq_true q222
        go_wp2_with (first | ((with_reducible refine gate_dst (N := 5) rfl ?_); refine box_event ?hg (N := 5) ?hd (cs := #[.slice none 0 0, .int .i64 0]) (t := 79) ?hr ?_; (case hd => rfl); (case hg => rfl); (case hr => (go_simp; done)); intro gb223 hg w11 hbox hb; have n0_ := Aside0.mk (blk_below (g := gb220) (o := .cells #[.slice (some ad222) l0_0.length c0_0, .int .i64 a0_1, .bool a0_2] 24 (0, 0)) BK220.out hb); have n1_ := Aside0.mk (below_step HB.out hb); have n2_ := Aside0.mk (hbox); have n3_ := Aside0.mk ((by rw [hg]; exact (below_size HB.out) : w.heap.size ≤ gb223)); have n4_ := Aside0.mk ((by rw [hg]; exact (below_size HB.out) : w.heap.size ≤ gb223)); have n5_ := Aside0.mk ((by rw [hg]; exact Nat.ne_of_lt (blk_lt (g := gb220) (o := .cells #[.slice (some ad222) l0_0.length c0_0, .int .i64 a0_1, .bool a0_2] 24 (0, 0)) BK220.out) : gb220 ≠ gb223)); have n6_ := Aside0.mk ((by rw [hg]; exact Nat.ne_of_gt (blk_lt (g := gb220) (o := .cells #[.slice (some ad222) l0_0.length c0_0, .int .i64 a0_1, .bool a0_2] 24 (0, 0)) BK220.out) : gb223 ≠ gb220)); clear BK220; clear HB; have BK220 := n0_; have HB := n1_; have BK223 := n2_; have GW223 := n3_; have GE223 := n4_; have NB220_223 := n5_; have NB223_220 := n6_; clear n0_ n1_ n2_ n3_ n4_ n5_ n6_; clear hb hbox hg; have hnb12 := NB223_220.out; have hnc12 := NB220_223.out; have hcz13_0 : w11.cell? ⟨gb223, 0, none⟩ = some (.slice none 0 0) := (blk_cell BK223.out 0).trans rfl; have hcz13_1 : w11.cell? ⟨gb223, 1, none⟩ = some (.int .i64 0) := (blk_cell BK223.out 1).trans rfl; have hfz13_0 := blk_frozen BK223.out 0; have hfz13_1 := blk_frozen BK223.out 1) | ((with_reducible refine gate_callee (f := 115) rfl ?_); refine goesL_ (some 15) rfl rfl Try.func115 (by kernel_rfl) rfl #[.slice A222_0 ((rd_T79 l0_0 x9_1).f0).length c222_0] rfl (by (try simp only [List.map_toArray, List.map_cons, List.map_nil]); rfl) ?_; (with_reducible refine (impl_AreValidRows.calls k1 _ _ ((rd_T79 l0_0 x9_1).f0) true _ ?side1 ?side2 A7.out).mono ?_); (case side1 => exact Kd.C_below HR222_0.out (by repeat (with_reducible first | exact HB.out | refine below_set ?_ GE223.out))); (case side2 => exact HC222_0.out); rintro e w14 ⟨rfl, hb⟩; refine ⟨_, rfl, ?_⟩; have n0_ := Aside0.mk (blk_below (g := gb220) (o := .cells #[.slice (some ad222) l0_0.length c0_0, .int .i64 a0_1, .bool a0_2] 24 (0, 0)) (by refine blk_far ?_ NB220_223.out _; refine blk_far ?_ NB220_223.out _; exact BK220.out) hb); have n1_ := Aside0.mk (blk_below (g := gb223) (o := .cells #[.slice A222_0 ((rd_T79 l0_0 x9_1).f0).length c222_0, .int .i64 ((rd_T79 l0_0 x9_1).f1)] 79 (0, 0)) (by refine blk_put (cs := #[.slice A222_0 ((rd_T79 l0_0 x9_1).f0).length c222_0, .int .i64 0]) ?_ 1 _ rfl; refine blk_put (cs := #[.slice none 0 0, .int .i64 0]) ?_ 0 _ rfl; exact BK223.out) hb); have n2_ := Aside0.mk (below_step (by repeat (with_reducible first | exact HB.out | refine below_set ?_ GE223.out)) hb); clear BK220; clear BK223; clear HB; have BK220 := n0_; have BK223 := n1_; have HB := n2_; clear n0_ n1_ n2_; (try clear hb); (try clear hb2); (try clear hk); (try clear hi); have hcz15_0 : w14.cell? ⟨gb223, 0, none⟩ = some (.slice A222_0 ((rd_T79 l0_0 x9_1).f0).length c222_0) := (blk_cell BK223.out 0).trans rfl; have hcz15_1 : w14.cell? ⟨gb223, 1, none⟩ = some (.int .i64 ((rd_T79 l0_0 x9_1).f1)) := (blk_cell BK223.out 1).trans rfl; have hfz15_0 := blk_frozen BK223.out 0; have hfz15_1 := blk_frozen BK223.out 1) | (go_at_call 128; (with_reducible refine (impl_within.calls ((rd_T79 l0_0 x9_1).f1) 0 4 true _ A9.out).mono ?_); rintro e w' ⟨rfl, ⟨nd, rfl⟩⟩))
        go_roundg k1
        case measure => have := HK1.out; omega
        case rel => exact ⟨(wrap64 (x3_1 + (((rd_T79 l0_0 x9_1).f0).length : Int))), (wrap64 (x9_1 + 1)), rfl, rfl, H', ⟨by have := HK1.out; omega⟩, ⟨by (with_reducible repeat (refine blk_drewN ?_ _)); exact BK220.out⟩, ⟨by repeat ((with_reducible first | exact HB.out | apply pw_below_drewN))⟩⟩
       ·replace c10 := Bool.eq_false_iff.mpr c10
        subst c10
        rw [if_neg (show ¬ (false = true) by decide)] at H
        obtain rfl := Option.some.inj H
        have p222 : 0 ≤ (x9_1 : Int) := of_decide_eq_true (by (with_reducible assumption))
        have q222 : x9_1 < (l0_0.length : Int) := of_decide_eq_true (by (with_reducible assumption))
        obtain ⟨ad222, A222_0, c222_0, e222, hx222_0, hx222_1, hl222_0, hi222_0⟩ := at_T79 HR0_0.out x9_1 p222 q222
        cases e222
        replace hx222_0 := (HB.out.cell (World.block_lt_of_cell? w _ hx222_0)).trans hx222_0
        replace hx222_1 := (HB.out.cell (World.block_lt_of_cell? w _ hx222_1)).trans hx222_1
        have HR222_0 := Aside0.mk hi222_0
        have HC222_0 := Aside0.mk hl222_0
        clear hi222_0 hl222_0
        replace p222 := eq_true p222
        replace q222 := eq_true q222
        go_wp2_with (first | ((with_reducible refine gate_dst (N := 5) rfl ?_); refine box_event ?hg (N := 5) ?hd (cs := #[.slice none 0 0, .int .i64 0]) (t := 79) ?hr ?_; (case hd => rfl); (case hg => rfl); (case hr => (go_simp; done)); intro gb223 hg w16 hbox hb; have n0_ := Aside0.mk (blk_below (g := gb220) (o := .cells #[.slice (some ad222) l0_0.length c0_0, .int .i64 a0_1, .bool a0_2] 24 (0, 0)) BK220.out hb); have n1_ := Aside0.mk (below_step HB.out hb); have n2_ := Aside0.mk (hbox); have n3_ := Aside0.mk ((by rw [hg]; exact (below_size HB.out) : w.heap.size ≤ gb223)); have n4_ := Aside0.mk ((by rw [hg]; exact (below_size HB.out) : w.heap.size ≤ gb223)); have n5_ := Aside0.mk ((by rw [hg]; exact Nat.ne_of_lt (blk_lt (g := gb220) (o := .cells #[.slice (some ad222) l0_0.length c0_0, .int .i64 a0_1, .bool a0_2] 24 (0, 0)) BK220.out) : gb220 ≠ gb223)); have n6_ := Aside0.mk ((by rw [hg]; exact Nat.ne_of_gt (blk_lt (g := gb220) (o := .cells #[.slice (some ad222) l0_0.length c0_0, .int .i64 a0_1, .bool a0_2] 24 (0, 0)) BK220.out) : gb223 ≠ gb220)); clear BK220; clear HB; have BK220 := n0_; have HB := n1_; have BK223 := n2_; have GW223 := n3_; have GE223 := n4_; have NB220_223 := n5_; have NB223_220 := n6_; clear n0_ n1_ n2_ n3_ n4_ n5_ n6_; clear hb hbox hg; have hnb17 := NB223_220.out; have hnc17 := NB220_223.out; have hcz18_0 : w16.cell? ⟨gb223, 0, none⟩ = some (.slice none 0 0) := (blk_cell BK223.out 0).trans rfl; have hcz18_1 : w16.cell? ⟨gb223, 1, none⟩ = some (.int .i64 0) := (blk_cell BK223.out 1).trans rfl; have hfz18_0 := blk_frozen BK223.out 0; have hfz18_1 := blk_frozen BK223.out 1) | ((with_reducible refine gate_callee (f := 115) rfl ?_); refine goesL_ (some 15) rfl rfl Try.func115 (by kernel_rfl) rfl #[.slice A222_0 ((rd_T79 l0_0 x9_1).f0).length c222_0] rfl (by (try simp only [List.map_toArray, List.map_cons, List.map_nil]); rfl) ?_; (with_reducible refine (impl_AreValidRows.calls k1 _ _ ((rd_T79 l0_0 x9_1).f0) true _ ?side1 ?side2 A7.out).mono ?_); (case side1 => exact Kd.C_below HR222_0.out (by repeat (with_reducible first | exact HB.out | refine below_set ?_ GE223.out))); (case side2 => exact HC222_0.out); rintro e w19 ⟨rfl, hb⟩; refine ⟨_, rfl, ?_⟩; have n0_ := Aside0.mk (blk_below (g := gb220) (o := .cells #[.slice (some ad222) l0_0.length c0_0, .int .i64 a0_1, .bool a0_2] 24 (0, 0)) (by refine blk_far ?_ NB220_223.out _; refine blk_far ?_ NB220_223.out _; exact BK220.out) hb); have n1_ := Aside0.mk (blk_below (g := gb223) (o := .cells #[.slice A222_0 ((rd_T79 l0_0 x9_1).f0).length c222_0, .int .i64 ((rd_T79 l0_0 x9_1).f1)] 79 (0, 0)) (by refine blk_put (cs := #[.slice A222_0 ((rd_T79 l0_0 x9_1).f0).length c222_0, .int .i64 0]) ?_ 1 _ rfl; refine blk_put (cs := #[.slice none 0 0, .int .i64 0]) ?_ 0 _ rfl; exact BK223.out) hb); have n2_ := Aside0.mk (below_step (by repeat (with_reducible first | exact HB.out | refine below_set ?_ GE223.out)) hb); clear BK220; clear BK223; clear HB; have BK220 := n0_; have BK223 := n1_; have HB := n2_; clear n0_ n1_ n2_; (try clear hb); (try clear hb2); (try clear hk); (try clear hi); have hcz20_0 : w19.cell? ⟨gb223, 0, none⟩ = some (.slice A222_0 ((rd_T79 l0_0 x9_1).f0).length c222_0) := (blk_cell BK223.out 0).trans rfl; have hcz20_1 : w19.cell? ⟨gb223, 1, none⟩ = some (.int .i64 ((rd_T79 l0_0 x9_1).f1)) := (blk_cell BK223.out 1).trans rfl; have hfz20_0 := blk_frozen BK223.out 0; have hfz20_1 := blk_frozen BK223.out 1) | (go_at_call 128; (with_reducible refine (impl_within.calls ((rd_T79 l0_0 x9_1).f1) 0 4 false _ A9.out).mono ?_); rintro e w' ⟨rfl, ⟨nd, rfl⟩⟩))
        go_ret
        exact ⟨rfl, by repeat ((with_reducible first | exact HB.out | apply pw_below_drewN))⟩
      ·replace c8 := Bool.eq_false_iff.mpr c8
       subst c8
       rw [if_neg (show ¬ (false = true) by decide)] at H
       obtain rfl := Option.some.inj H
       have p222 : 0 ≤ (x9_1 : Int) := of_decide_eq_true (by (with_reducible assumption))
       have q222 : x9_1 < (l0_0.length : Int) := of_decide_eq_true (by (with_reducible assumption))
       obtain ⟨ad222, A222_0, c222_0, e222, hx222_0, hx222_1, hl222_0, hi222_0⟩ := at_T79 HR0_0.out x9_1 p222 q222
       cases e222
       replace hx222_0 := (HB.out.cell (World.block_lt_of_cell? w _ hx222_0)).trans hx222_0
       replace hx222_1 := (HB.out.cell (World.block_lt_of_cell? w _ hx222_1)).trans hx222_1
       have HR222_0 := Aside0.mk hi222_0
       have HC222_0 := Aside0.mk hl222_0
       clear hi222_0 hl222_0
       replace p222 := eq_true p222
       replace q222 := eq_true q222
       go_wp2_with (first | ((with_reducible refine gate_dst (N := 5) rfl ?_); refine box_event ?hg (N := 5) ?hd (cs := #[.slice none 0 0, .int .i64 0]) (t := 79) ?hr ?_; (case hd => rfl); (case hg => rfl); (case hr => (go_simp; done)); intro gb223 hg w21 hbox hb; have n0_ := Aside0.mk (blk_below (g := gb220) (o := .cells #[.slice (some ad222) l0_0.length c0_0, .int .i64 a0_1, .bool a0_2] 24 (0, 0)) BK220.out hb); have n1_ := Aside0.mk (below_step HB.out hb); have n2_ := Aside0.mk (hbox); have n3_ := Aside0.mk ((by rw [hg]; exact (below_size HB.out) : w.heap.size ≤ gb223)); have n4_ := Aside0.mk ((by rw [hg]; exact (below_size HB.out) : w.heap.size ≤ gb223)); have n5_ := Aside0.mk ((by rw [hg]; exact Nat.ne_of_lt (blk_lt (g := gb220) (o := .cells #[.slice (some ad222) l0_0.length c0_0, .int .i64 a0_1, .bool a0_2] 24 (0, 0)) BK220.out) : gb220 ≠ gb223)); have n6_ := Aside0.mk ((by rw [hg]; exact Nat.ne_of_gt (blk_lt (g := gb220) (o := .cells #[.slice (some ad222) l0_0.length c0_0, .int .i64 a0_1, .bool a0_2] 24 (0, 0)) BK220.out) : gb223 ≠ gb220)); clear BK220; clear HB; have BK220 := n0_; have HB := n1_; have BK223 := n2_; have GW223 := n3_; have GE223 := n4_; have NB220_223 := n5_; have NB223_220 := n6_; clear n0_ n1_ n2_ n3_ n4_ n5_ n6_; clear hb hbox hg; have hnb22 := NB223_220.out; have hnc22 := NB220_223.out; have hcz23_0 : w21.cell? ⟨gb223, 0, none⟩ = some (.slice none 0 0) := (blk_cell BK223.out 0).trans rfl; have hcz23_1 : w21.cell? ⟨gb223, 1, none⟩ = some (.int .i64 0) := (blk_cell BK223.out 1).trans rfl; have hfz23_0 := blk_frozen BK223.out 0; have hfz23_1 := blk_frozen BK223.out 1) | ((with_reducible refine gate_callee (f := 115) rfl ?_); refine goesL_ (some 15) rfl rfl Try.func115 (by kernel_rfl) rfl #[.slice A222_0 ((rd_T79 l0_0 x9_1).f0).length c222_0] rfl (by (try simp only [List.map_toArray, List.map_cons, List.map_nil]); rfl) ?_; (with_reducible refine (impl_AreValidRows.calls k1 _ _ ((rd_T79 l0_0 x9_1).f0) false _ ?side1 ?side2 A7.out).mono ?_); (case side1 => exact Kd.C_below HR222_0.out (by repeat (with_reducible first | exact HB.out | refine below_set ?_ GE223.out))); (case side2 => exact HC222_0.out); rintro e w24 ⟨rfl, hb⟩; refine ⟨_, rfl, ?_⟩; have n0_ := Aside0.mk (blk_below (g := gb220) (o := .cells #[.slice (some ad222) l0_0.length c0_0, .int .i64 a0_1, .bool a0_2] 24 (0, 0)) (by refine blk_far ?_ NB220_223.out _; refine blk_far ?_ NB220_223.out _; exact BK220.out) hb); have n1_ := Aside0.mk (blk_below (g := gb223) (o := .cells #[.slice A222_0 ((rd_T79 l0_0 x9_1).f0).length c222_0, .int .i64 ((rd_T79 l0_0 x9_1).f1)] 79 (0, 0)) (by refine blk_put (cs := #[.slice A222_0 ((rd_T79 l0_0 x9_1).f0).length c222_0, .int .i64 0]) ?_ 1 _ rfl; refine blk_put (cs := #[.slice none 0 0, .int .i64 0]) ?_ 0 _ rfl; exact BK223.out) hb); have n2_ := Aside0.mk (below_step (by repeat (with_reducible first | exact HB.out | refine below_set ?_ GE223.out)) hb); clear BK220; clear BK223; clear HB; have BK220 := n0_; have BK223 := n1_; have HB := n2_; clear n0_ n1_ n2_; (try clear hb); (try clear hb2); (try clear hk); (try clear hi)))
       go_ret
       exact ⟨rfl, HB.out⟩
     ·rw [if_neg c6] at H
      exact absurd H (by simp)
    ·rw [if_neg c5] at H
     exact absurd H (by simp)
   ·rw [if_neg c4] at H
    have c4b0 : decide (x9_1 < (l0_0.length : Int)) = false := decide_eq_false c4
    clear c4
    by_cases c25 : (l0_0.length : Int) ≤ 40
    ·rw [if_pos c25] at H
     have c25b0 : decide ((l0_0.length : Int) ≤ 40) = true := decide_eq_true c25
     have c25b1 : decide (l0_0.length ≤ 40) = true := decide_eq_true (by omega)
     clear c25
     by_cases c26 : x3_1 ≤ 24
     ·rw [if_pos c26] at H
      have c26b0 : decide (x3_1 ≤ 24) = true := decide_eq_true c26
      clear c26
      replace H := Option.bind_eq_some_iff.mp H
      obtain ⟨t221, A270, H⟩ := H
      have A27 := Aside0.mk A270
      clear A270
      obtain rfl := Option.some.inj H
      have hcz28_0 : wr.cell? ⟨gb220, 0, none⟩ = some (.slice A0_0 l0_0.length c0_0) := (blk_cell BK220.out 0).trans rfl
      have hcz28_1 : wr.cell? ⟨gb220, 1, none⟩ = some (.int .i64 a0_1) := (blk_cell BK220.out 1).trans rfl
      have hcz28_2 : wr.cell? ⟨gb220, 2, none⟩ = some (.bool a0_2) := (blk_cell BK220.out 2).trans rfl
      have hfz28_0 := blk_frozen BK220.out 0
      have hfz28_1 := blk_frozen BK220.out 1
      have hfz28_2 := blk_frozen BK220.out 2
      go_wp2_with ((go_at_call 128; (with_reducible refine (impl_within.calls a0_1 0 100000 t221 _ A27.out).mono ?_); rintro e w' ⟨rfl, ⟨nd, rfl⟩⟩))
      go_ret
      exact ⟨rfl, by repeat ((with_reducible first | exact HB.out | apply pw_below_drewN))⟩
     ·rw [if_neg c26] at H
      have c26b0 : decide (x3_1 ≤ 24) = false := decide_eq_false c26
      clear c26
      obtain rfl := Option.some.inj H
      have hcz29_0 : wr.cell? ⟨gb220, 0, none⟩ = some (.slice A0_0 l0_0.length c0_0) := (blk_cell BK220.out 0).trans rfl
      have hcz29_1 : wr.cell? ⟨gb220, 1, none⟩ = some (.int .i64 a0_1) := (blk_cell BK220.out 1).trans rfl
      have hcz29_2 : wr.cell? ⟨gb220, 2, none⟩ = some (.bool a0_2) := (blk_cell BK220.out 2).trans rfl
      have hfz29_0 := blk_frozen BK220.out 0
      have hfz29_1 := blk_frozen BK220.out 1
      have hfz29_2 := blk_frozen BK220.out 2
      go_wp2
      go_ret
      exact ⟨rfl, HB.out⟩
    ·rw [if_neg c25] at H
     have c25b0 : decide ((l0_0.length : Int) ≤ 40) = false := decide_eq_false c25
     have c25b1 : decide (l0_0.length ≤ 40) = false := decide_eq_false (by omega)
     clear c25
     obtain rfl := Option.some.inj H
     have hcz30_0 : wr.cell? ⟨gb220, 0, none⟩ = some (.slice A0_0 l0_0.length c0_0) := (blk_cell BK220.out 0).trans rfl
     have hcz30_1 : wr.cell? ⟨gb220, 1, none⟩ = some (.int .i64 a0_1) := (blk_cell BK220.out 1).trans rfl
     have hcz30_2 : wr.cell? ⟨gb220, 2, none⟩ = some (.bool a0_2) := (blk_cell BK220.out 2).trans rfl
     have hfz30_0 := blk_frozen BK220.out 0
     have hfz30_1 := blk_frozen BK220.out 1
     have hfz30_2 := blk_frozen BK220.out 2
     go_wp2
     go_ret
     exact ⟨rfl, HB.out⟩

end Go.Proofs.Ytphkghnppcfdpaa.P
namespace Go.Proofs.Ytphkghnppcfdpaa.P
open Go.RowKit Go.Proofs.YtphkghnppcfdpaaW.PrintWords Go.Proofs.YtphkghnppcfdpaaW.PrintLast Go.Proofs.YtphkghnppcfdpaaW.PrintMore
attribute [local go_sem] max2_int min2_int max_two min_two max_three min_three max_four min_four   -- for this text's walks alone
set_option linter.unusedVariables false
set_option linter.unusedSimpArgs false

/-! ### impl_cut: function 86 -/
def impl_cut.l0 : Nat → ByteArray → Int → List ByteArray → Int → Int → Int → Option (List ByteArray)
 | 0, _, _, _, _, _, _ => none
 | k + 1, x0, x1, x5, x6, x10, x11 => if x11 < x10 then (if 0 ≤ x11 then (if x11 < (x0.size : Int) then (if (bt x0 x11) = x1 then (if 0 ≤ x6 then (if x6 ≤ x11 then (if x11 ≤ (x0.size : Int) then (if x5.length < 8796093022208 then (impl_cut.l0 k x0 x1 (x5 ++ [x0.extract (x6 : Int).toNat (x11 : Int).toNat]) (wrap64 (x11 + 1)) x10 (wrap64 (x11 + 1))) else (none)) else (none)) else (none)) else (none)) else (impl_cut.l0 k x0 x1 x5 x6 x10 (wrap64 (x11 + 1)))) else (none)) else (none)) else (if 0 ≤ x6 then (if x6 ≤ (x0.size : Int) then (if x5.length < 8796093022208 then (some (x5 ++ [x0.extract (x6 : Int).toNat x0.size])) else (none)) else (none)) else (none))
def impl_cut.f (k : Nat) (a0 : ByteArray) (a1 : Int) : Option (List ByteArray) := impl_cut.l0 k a0 a1 ([] : List ByteArray) 0 (a0.size : Int) 0
theorem impl_cut.mono_l : ∀ k, (∀ y0 y1 y2 y3 y4 y5, LeO (impl_cut.l0 k y0 y1 y2 y3 y4 y5) (impl_cut.l0 (k + 1) y0 y1 y2 y3 y4 y5))
 | 0 => fun _ _ _ _ _ _ r h => by simp [impl_cut.l0] at h
 | k + 1 => by
  have ih0 := impl_cut.mono_l k
  ·intro y0 y1 y2 y3 y4 y5
   unfold impl_cut.l0
   repeat' first
   | (with_reducible exact ih0 _ _ _ _ _ _)
   | (with_reducible exact LeO.refl _)
   | (with_reducible refine LeO.ite ?_ ?_)
theorem impl_cut.mono : ∀ a0 a1 k, LeO (impl_cut.f k a0 a1) (impl_cut.f (k + 1) a0 a1) := by
 intro a0 a1 k
 have ih0 := impl_cut.mono_l k
 unfold impl_cut.f
 repeat' (with_reducible exact ih0 _ _ _ _ _ _)

set_option maxHeartbeats 8000000 in
set_option maxRecDepth 100000 in
theorem impl_cut.calls (k : Nat) (a0 : ByteArray) (a1 : Int) (r : List ByteArray) (w : World) (h : impl_cut.f k a0 a1 = some r) :
  Calls Try.prog 86 #[.string a0, .int .u8 a1] w fun e w' => ∃ v0_ : Value, e = .returned (v0_) ∧ Kd.R Kd.string 9 w' w.heap.size (fun _ => True) v0_ r ∧ Below w.heap.size w w' := by
 have HB := Aside0.mk (Below.refl w.heap.size w)
 have H : (impl_cut.l0 k a0 a1 ([] : List ByteArray) 0 (a0.size : Int) 0) = some r := h
 clear h
 obtain ⟨y226, hy226⟩ : ∃ y_ : List ByteArray, y_ = ([] : List ByteArray) := ⟨_, rfl⟩
 replace H : (impl_cut.l0 k a0 a1 y226 0 (a0.size : Int) 0) = some r := by (rw [hy226]; with_reducible exact H)
 have Ny226 := Aside0.mk hy226
 clear hy226
 have H' := Aside0.mk H
 clear H
 go_enter Try.func86, Try.ntmps86
 go_wp2_with (((with_reducible refine gate_dst (N := 8) rfl ?_); refine Kd.R_lit Kd.string _ 9 ?hg (N := 8) ?hd (xs := ([] : List ByteArray)) (inner := []) (ok := fun _ => True) (okp := fun _ => True) ?hr ?hp (fun _ hk => hk) trivial (Below.refl _ _) (Nat.le_refl _) (by simp) ?_; (case hd => rfl); (case hg => rfl); (case hr => (go_simp; done)); (case hp => exact (Reps.none _ _)); intro v227 w3 ho4 hb hg_ hnew_; clear hg_ hnew_; (rw [← Ny226.out] at ho4); have n0_ := Aside0.mk (Kd.R_lower ho4 (below_size HB.out)); have n1_ := Aside0.mk (below_step HB.out hb); clear HB; have HO228 := n0_; have HB := n1_; clear n0_ n1_; clear hb ho4))
 go_loopg [5, 6, 11] k (fun kq v5 v6 v11 w' => ∃ (x5_1 : List ByteArray) (x6_1 : Int) (x11_1 : Int), v6 = .int .i64 x6_1 ∧ v11 = .int .i64 x11_1 ∧ Aside0 (impl_cut.l0 kq a0 a1 x5_1 x6_1 (a0.size : Int) x11_1 = some r) ∧ Aside0 (kq ≤ k) ∧ Aside0 (Kd.R Kd.string 9 w' w.heap.size (fun _ => True) v5 x5_1) ∧ Aside0 (Below w.heap.size w w'))
 case atStart => exact ⟨(y226), (0), (0), rfl, rfl, H', ⟨Nat.le_refl _⟩, ⟨HO228.out⟩, ⟨HB.out⟩⟩
 case round =>
  clear H'
  obtain ⟨x5_1, x6_1, x11_1, rfl, rfl, HA, HK1, HO_5, HB⟩ := hrel
  cases gk with
  | zero => exact absurd HA.out (by simp [impl_cut.l0])
  | succ k1 =>
   have H := HA.out
   clear HA
   simp only [impl_cut.l0] at H
   by_cases c5 : x11_1 < (a0.size : Int)
   ·rw [if_pos c5] at H
    have c5b0 : decide (x11_1 < (a0.size : Int)) = true := decide_eq_true c5
    clear c5
    by_cases c6 : 0 ≤ x11_1
    ·rw [if_pos c6] at H
     have c6b0 : decide (0 ≤ x11_1) = true := decide_eq_true c6
     clear c6
     by_cases c7 : x11_1 < (a0.size : Int)
     ·rw [if_pos c7] at H
      have c7b0 : decide (x11_1 < (a0.size : Int)) = true := decide_eq_true c7
      clear c7
      by_cases c9 : (bt a0 x11_1) = a1
      ·rw [if_pos c9] at H
       have c9b0 : ((bt a0 x11_1) == a1) = true := beq_iff_eq.mpr c9
       have c9b1 : ((bt a0 x11_1) != a1) = false := bne_eq_false_iff_eq.mpr c9
       clear c9
       by_cases c10 : 0 ≤ x6_1
       ·rw [if_pos c10] at H
        have c10b0 := eq_true c10
        have c10b1 : decide (0 ≤ x6_1) = true := decide_eq_true c10
        clear c10
        by_cases c11 : x6_1 ≤ x11_1
        ·rw [if_pos c11] at H
         have c11b0 := eq_true c11
         have c11b1 : decide (x6_1 ≤ x11_1) = true := decide_eq_true c11
         clear c11
         by_cases c12 : x11_1 ≤ (a0.size : Int)
         ·rw [if_pos c12] at H
          have c12b0 := eq_true c12
          have c12b1 : decide (x11_1 ≤ (a0.size : Int)) = true := decide_eq_true c12
          clear c12
          by_cases c13 : x5_1.length < 8796093022208
          ·rw [if_pos c13] at H
           have LMc13 := Aside0.mk c13
           clear c13
           obtain ⟨y229, hy229⟩ : ∃ y_ : List ByteArray, y_ = (x5_1 ++ [a0.extract (x6_1 : Int).toNat (x11_1 : Int).toNat]) := ⟨_, rfl⟩
           replace H : (impl_cut.l0 k1 a0 a1 y229 (wrap64 (x11_1 + 1)) (a0.size : Int) (wrap64 (x11_1 + 1))) = some r := by (rw [hy229]; with_reducible exact H)
           have Ny229 := Aside0.mk hy229
           clear hy229
           have H' := Aside0.mk H
           clear H
           have p8 : 0 ≤ (x11_1 : Int) := of_decide_eq_true (by (with_reducible assumption))
           have q8 : x11_1 < (a0.size : Int) := of_decide_eq_true (by (with_reducible assumption))
           have hx8 := bt_at a0 x11_1
           replace p8 := eq_true p8
           replace q8 := eq_true q8
           go_wp2_with (((with_reducible refine gate_builtin (b := .append) (xs := #[.tmp 19, .tmp 24]) rfl ?_); at_builtin; refine Kd.R_append Kd.string (w0 := w) w.heap.size rfl (.tmp 19) (.tmp 24) 101 9 (.string ⟨#[]⟩) 16 rfl Try.underlying101 info9 rfl (by decide) (by omega) u5 x5_1 (a0.extract (x6_1 : Int).toNat (x11_1 : Int).toNat) [.string (a0.extract (x6_1 : Int).toNat (x11_1 : Int).toNat)] (fun _ => True) (fun _ => False) rfl rfl ?aP (fun _ hk => hk.elim) ?aF ?aO ?aB ?aS ?aL ?_; (case aP => exact rfl); (case aB => exact HB.out); (case aF => exact (fun _ _ => trivial)); (case aO => exact HO_5.out); (case aS => exact (below_size HB.out)); (case aL => have := LMc13.out; omega); intro v230 w14 ho hb hg hat; rw [← Ny229.out] at ho; have n0_ := Aside0.mk (hb); have n1_ := Aside0.mk (ho); clear HB; clear HO_5; have HB := n0_; have HO231 := n1_; clear n0_ n1_; clear ho hb hg hat))
           go_roundg k1
           case measure => have := HK1.out; omega
           case rel => exact ⟨(y229), (wrap64 (x11_1 + 1)), (wrap64 (x11_1 + 1)), rfl, rfl, H', ⟨by have := HK1.out; omega⟩, ⟨HO231.out⟩, ⟨HB.out⟩⟩
          ·rw [if_neg c13] at H
           exact absurd H (by simp)
         ·rw [if_neg c12] at H
          exact absurd H (by simp)
        ·rw [if_neg c11] at H
         exact absurd H (by simp)
       ·rw [if_neg c10] at H
        exact absurd H (by simp)
      ·rw [if_neg c9] at H
       have c9b0 : ((bt a0 x11_1) == a1) = false := beq_eq_false_iff_ne.mpr c9
       have c9b1 : ((bt a0 x11_1) != a1) = true := bne_iff_ne.mpr c9
       have H' := Aside0.mk H
       clear H
       have p8 : 0 ≤ (x11_1 : Int) := of_decide_eq_true (by (with_reducible assumption))
       have q8 : x11_1 < (a0.size : Int) := of_decide_eq_true (by (with_reducible assumption))
       have hx8 := bt_at a0 x11_1
       replace p8 := eq_true p8
       replace q8 := eq_true q8
       go_wp2
       go_roundg k1
       case measure => have := HK1.out; omega
       case rel => exact ⟨(x5_1), (x6_1), (wrap64 (x11_1 + 1)), rfl, rfl, H', ⟨by have := HK1.out; omega⟩, ⟨HO_5.out⟩, ⟨HB.out⟩⟩
     ·rw [if_neg c7] at H
      exact absurd H (by simp)
    ·rw [if_neg c6] at H
     exact absurd H (by simp)
   ·rw [if_neg c5] at H
    have c5b0 : decide (x11_1 < (a0.size : Int)) = false := decide_eq_false c5
    clear c5
    by_cases c15 : 0 ≤ x6_1
    ·rw [if_pos c15] at H
     have c15b0 := eq_true c15
     have c15b1 : decide (0 ≤ x6_1) = true := decide_eq_true c15
     clear c15
     by_cases c16 : x6_1 ≤ (a0.size : Int)
     ·rw [if_pos c16] at H
      have c16b0 := eq_true c16
      have c16b1 : decide (x6_1 ≤ (a0.size : Int)) = true := decide_eq_true c16
      clear c16
      by_cases c17 : x5_1.length < 8796093022208
      ·rw [if_pos c17] at H
       have LMc17 := Aside0.mk c17
       clear c17
       obtain ⟨y232, hy232⟩ : ∃ y_ : List ByteArray, y_ = (x5_1 ++ [a0.extract (x6_1 : Int).toNat a0.size]) := ⟨_, rfl⟩
       replace H : (some y232) = some r := by (rw [hy232]; with_reducible exact H)
       have Ny232 := Aside0.mk hy232
       clear hy232
       obtain rfl := Option.some.inj H
       go_wp2_with (((with_reducible refine gate_builtin (b := .append) (xs := #[.tmp 29, .tmp 33]) rfl ?_); at_builtin; refine Kd.R_append Kd.string (w0 := w) w.heap.size rfl (.tmp 29) (.tmp 33) 101 9 (.string ⟨#[]⟩) 16 rfl Try.underlying101 info9 rfl (by decide) (by omega) u5 x5_1 (a0.extract (x6_1 : Int).toNat a0.size) [.string (a0.extract (x6_1 : Int).toNat a0.size)] (fun _ => True) (fun _ => False) rfl rfl ?aP (fun _ hk => hk.elim) ?aF ?aO ?aB ?aS ?aL ?_; (case aP => exact rfl); (case aB => exact HB.out); (case aF => exact (fun _ _ => trivial)); (case aO => exact HO_5.out); (case aS => exact (below_size HB.out)); (case aL => have := LMc17.out; omega); intro v233 w18 ho hb hg hat; rw [← Ny232.out] at ho; have n0_ := Aside0.mk (hb); have n1_ := Aside0.mk (ho); clear HB; clear HO_5; have HB := n0_; have HO234 := n1_; clear n0_ n1_; clear ho hb hg hat))
       go_ret
       exact ⟨_, rfl, HO234.out, HB.out⟩
      ·rw [if_neg c17] at H
       exact absurd H (by simp)
     ·rw [if_neg c16] at H
      exact absurd H (by simp)
    ·rw [if_neg c15] at H
     exact absurd H (by simp)

end Go.Proofs.Ytphkghnppcfdpaa.P
namespace Go.Proofs.Ytphkghnppcfdpaa.P
open Go.RowKit Go.Proofs.YtphkghnppcfdpaaW.PrintWords Go.Proofs.YtphkghnppcfdpaaW.PrintLast Go.Proofs.YtphkghnppcfdpaaW.PrintMore
attribute [local go_sem] max2_int min2_int max_two min_two max_three min_three max_four min_four   -- for this text's walks alone
set_option linter.unusedVariables false
set_option linter.unusedSimpArgs false

/-! ### impl_decimal: function 149 -/
def impl_decimal.f : Nat → Int → Option (ByteArray)
 | 0, _ => none
 | k + 1, a0 => if a0 < 10 then (some (strOfNums (([(IntKind.u64.wrap (48 + a0)) % 256] : List Int)))) else ((impl_decimal.f k (IntKind.u64.wrap (Int.tdiv a0 10))).bind fun t238 => ((some (([(IntKind.u64.wrap (48 + (Int.tmod a0 10))) % 256] : List Int) : List Int)).bind fun y239 => (if t238.size + (strOfNums y239).size ≤ 9223372036854775807 then (some (t238 ++ (strOfNums y239))) else (none))))
theorem impl_decimal.mono_l : ∀ k, (∀ y0, LeO (impl_decimal.f k y0) (impl_decimal.f (k + 1) y0))
 | 0 => fun _ r h => by simp [impl_decimal.f] at h
 | k + 1 => by
  have ih0 := impl_decimal.mono_l k
  ·intro y0
   unfold impl_decimal.f
   repeat' first
   | (with_reducible exact ih0 _)
   | (with_reducible exact LeO.refl _)
   | (with_reducible refine LeO.ite ?_ ?_)
   | (with_reducible refine LeO.bind ?_ (fun _ => ?_))
theorem impl_decimal.mono : ∀ a0 k, LeO (impl_decimal.f k a0) (impl_decimal.f (k + 1) a0) := by
 intro a0 k
 have ih0 := impl_decimal.mono_l k
 exact ih0 a0
def impl_decimal.T3 : Bool × List (List Nat × List Nat) := (true, [([], []), ([0], [0]), ([1], [1]), ([], []), ([3], [3]), ([4], [4]), ([5], [5]), ([6], [6]), ([7], [7]), ([2, 8], [2, 8]), ([9, 2, 0, 1, 2, 3, 4, 5, 6, 7, 8, 9], [9])])
def impl_decimal.B3 : List Nat := [0, 1, 3, 0, 8, 24, 56, 120, 248, 511, 1023]
theorem impl_decimal.tab3 : rtab .any (opsOf Try.f149 3) = impl_decimal.T3 := by kernel_rfl
theorem impl_decimal.bits3 : waitsOk impl_decimal.T3.2 impl_decimal.B3 = true := by kernel_rfl
set_option maxHeartbeats 8000000 in
set_option maxRecDepth 100000 in
theorem impl_decimal.calls (k : Nat) : ∀ (a0 : Int) (r : ByteArray) (w : World) (h : impl_decimal.f k a0 = some r),
  Calls Try.prog 149 #[.int .u64 a0] w fun e w' => e = .returned (.string r) ∧ Below w.heap.size w w' := by
 induction k using Nat.strongRecOn with
 | _ k ih =>
 intro a0 r w h
 cases k with
 | zero => exact absurd h (by simp [impl_decimal.f])
 | succ k =>
 simp only [impl_decimal.f] at h
 have HB := Aside0.mk (Below.refl w.heap.size w)
 have H : (if a0 < 10 then (some (strOfNums (([(IntKind.u64.wrap (48 + a0)) % 256] : List Int)))) else ((impl_decimal.f k (IntKind.u64.wrap (Int.tdiv a0 10))).bind fun t238 => ((some (([(IntKind.u64.wrap (48 + (Int.tmod a0 10))) % 256] : List Int) : List Int)).bind fun y239 => (if t238.size + (strOfNums y239).size ≤ 9223372036854775807 then (some (t238 ++ (strOfNums y239))) else (none))))) = some r := h
 clear h
 by_cases c2 : a0 < 10
 ·rw [if_pos c2] at H
  have c2b0 : decide (a0 < 10) = true := decide_eq_true c2
  clear c2
  obtain ⟨y235, hy235⟩ : ∃ y_ : List Int, y_ = (([(IntKind.u64.wrap (48 + a0)) % 256] : List Int)) := ⟨_, rfl⟩
  replace H : (some (strOfNums y235)) = some r := by (rw [hy235]; with_reducible exact H)
  have Ny235 := Aside0.mk hy235
  clear hy235
  obtain rfl := Option.some.inj H
  go_enter Try.func149, Try.ntmps149
  go_wp2_with (((with_reducible refine gate_dst (N := 8) rfl ?_); refine Kd.R_lit (Kd.int .u8) _ 5 ?hg (N := 8) ?hd (xs := ([(IntKind.u64.wrap (48 + a0)) % 256] : List Int)) (inner := [.int .u8 ((IntKind.u64.wrap (48 + a0)) % 256)]) (ok := fun _ => True) (okp := fun _ => True) ?hr ?hp (fun _ hk => hk) trivial (Below.refl _ _) (Nat.le_refl _) (by simp) ?_; (case hd => rfl); (case hg => rfl); (case hr => (go_simp; done)); (case hp => exact (Reps.one (show Kd.M (Kd.int .u8) _ _ _ ((IntKind.u64.wrap (48 + a0)) % 256) [.int .u8 ((IntKind.u64.wrap (48 + a0)) % 256)] from rfl) (Reps.none _ _))); intro v236 w3 ho4 hb hg_ hnew_; clear hg_ hnew_; (rw [← Ny235.out] at ho4); have n0_ := Aside0.mk (Kd.R_lower ho4 (below_size HB.out)); have n1_ := Aside0.mk (below_step HB.out hb); clear HB; have HO237 := n0_; have HB := n1_; clear n0_ n1_; clear hb ho4; have hcv5 := own_string (P := Try.prog) Try.underlying49 Try.underlying5 Try.underlying9 (Kd.own_of_R HO237.out)))
  go_ret
  exact ⟨rfl, HB.out⟩
 ·rw [if_neg c2] at H
  have c2b0 : decide (a0 < 10) = false := decide_eq_false c2
  clear c2
  replace H := Option.bind_eq_some_iff.mp H
  obtain ⟨t238, A60, H⟩ := H
  have A6 := Aside0.mk A60
  clear A60
  obtain ⟨y239, hy239, H⟩ := bindO_ H
  have Ny239 := Aside0.mk hy239
  clear hy239
  by_cases c7 : t238.size + (strOfNums y239).size ≤ 9223372036854775807
  ·rw [if_pos c7] at H
   have c7b0 := eq_true c7
   have c7b1 : decide (t238.size + (strOfNums y239).size ≤ 9223372036854775807) = true := decide_eq_true c7
   try have c7b2 : (9223372036854775807 < t238.size + (strOfNums y239).size) = False := eq_false (Nat.not_lt.2 c7)
   obtain rfl := Option.some.inj H
   go_enter Try.func149, Try.ntmps149
   try go_wp2
   have n0_ := Aside0.mk (below_drew1 HB.out)
   clear HB
   have HB := n0_
   clear n0_
   refine start_ (n := 11) (S := fun w' => True) (ds := []) #[false, false, false, false, false, false, false, false, false, false, false] (by kernel_rfl) rfl rfl trivial (fun hHeld => ?_); refine with_tabW impl_decimal.tab3 impl_decimal.bits3 (fun HT_ HW_ => ?_)
   generalize w.drew = w8 at HB hHeld ⊢
   refine pure_ (i := 0) (N := some 10) (v := ?_) (a' := ?_) #[true, false, false, false, false, false, false, false, false, false, false] rfl rfl (any_of HT_.out (by kernel_rfl)) (fun _ _ _ h => h) (Or.inl ⟨rfl, ?_⟩) ?_ ?_
   rotate_left
   ·intro w'
    go_simp
    with_reducible rfl
   rotate_left
   ·simp only [Act.put, List.setIfInBounds_toArray, List.set_cons_zero, List.set_cons_succ, i64_w, i32_w]
    rfl
   refine pure_ (i := 1) (N := some 11) (v := ?_) (a' := ?_) #[true, true, false, false, false, false, false, false, false, false, false] rfl rfl (any_of HT_.out (by kernel_rfl)) (fun _ _ _ h => h) (Or.inl ⟨rfl, ?_⟩) ?_ ?_
   rotate_left
   ·intro w'
    go_simp
    with_reducible rfl
   rotate_left
   ·simp only [Act.put, List.setIfInBounds_toArray, List.set_cons_zero, List.set_cons_succ, i64_w, i32_w]
    rfl
   refine pure_ (i := 3) (N := some 13) (v := ?_) (a' := ?_) #[true, true, false, true, false, false, false, false, false, false, false] rfl rfl (any_of HT_.out (by kernel_rfl)) (fun _ _ _ h => h) (Or.inl ⟨rfl, ?_⟩) ?_ ?_
   rotate_left
   ·intro w'
    go_simp
    with_reducible rfl
   rotate_left
   ·simp only [Act.put, List.setIfInBounds_toArray, List.set_cons_zero, List.set_cons_succ, i64_w, i32_w]
    rfl
   refine pure_ (i := 4) (N := some 14) (v := ?_) (a' := ?_) #[true, true, false, true, true, false, false, false, false, false, false] rfl rfl (any_of HT_.out (by kernel_rfl)) (fun _ _ _ h => h) (Or.inl ⟨rfl, ?_⟩) ?_ ?_
   rotate_left
   ·intro w'
    go_simp
    with_reducible rfl
   rotate_left
   ·simp only [Act.put, List.setIfInBounds_toArray, List.set_cons_zero, List.set_cons_succ, i64_w, i32_w]
    rfl
   refine pure_ (i := 5) (N := some 15) (v := ?_) (a' := ?_) #[true, true, false, true, true, true, false, false, false, false, false] rfl rfl (any_of HT_.out (by kernel_rfl)) (fun _ _ _ h => h) (Or.inl ⟨rfl, ?_⟩) ?_ ?_
   rotate_left
   ·intro w'
    go_simp
    with_reducible rfl
   rotate_left
   ·simp only [Act.put, List.setIfInBounds_toArray, List.set_cons_zero, List.set_cons_succ, i64_w, i32_w]
    rfl
   refine pure_ (i := 6) (N := some 16) (v := ?_) (a' := ?_) #[true, true, false, true, true, true, true, false, false, false, false] rfl rfl (any_of HT_.out (by kernel_rfl)) (fun _ _ _ h => h) (Or.inl ⟨rfl, ?_⟩) ?_ ?_
   rotate_left
   ·intro w'
    go_simp
    with_reducible rfl
   rotate_left
   ·simp only [Act.put, List.setIfInBounds_toArray, List.set_cons_zero, List.set_cons_succ, i64_w, i32_w]
    rfl
   refine join_ (σ := Value) 2 #[true, true, true, true, true, true, true, true, true, false, false] (fun s_ => [(12, .string t238), (17, s_), (18, .string (strOfNums y239))]) (fun s_ w' => (Kd.R (Kd.int .u8) 5 w' w.heap.size (fun _ => True) s_ y239) ∧ (Below w.heap.size w w')) ?_ ?_
   rotate_left
   ·intro hCont
    refine two_ (i := 2) (j := 7) (Ni := some 12) (Nj := some 17) #[true, true, true, true, true, true, true, false, false, false, false] #[true, true, false, true, true, true, true, true, false, false, false] rfl rfl rfl rfl (two_of HT_.out (by kernel_rfl)) (by decide) (by decide) (fun K hK => ?_) (fun K hK => ?_)
    ·skip
     refine goes_ Try.func149 (by kernel_rfl) rfl #[.int .u64 (IntKind.u64.wrap (Int.tdiv a0 10))] rfl rfl rfl (by (try simp only [List.map_toArray, List.map_cons, List.map_nil]); rfl) ?_
     with_reducible refine (ih k (by omega) (IntKind.u64.wrap (Int.tdiv a0 10)) t238 _ A6.out).mono ?_
     rintro e w9 ⟨rfl, hb⟩
     refine ⟨_, rfl, ?_⟩
     have n0_ := Aside0.mk (below_step HB.out hb)
     clear HB
     have HB := n0_
     clear n0_
     (try clear hb)
     (try clear hb2)
     (try clear hk)
     (try clear hi)
     refine hK.out _ _ trivial (fun hHeld => ?_)
     clear hK K
     refine norm_ (a' := ?_) ?_ ?_
     rotate_left
     ·show Act.put _ (some 12) _ = _
      simp only [Act.put, List.setIfInBounds_toArray, List.set_cons_zero, List.set_cons_succ, i64_w, i32_w]
      rfl
     refine one_ (i := 7) (N := some 17) #[true, true, true, true, true, true, true, true, false, false, false] rfl rfl (one_of HT_.out (by kernel_rfl)) (by decide) (fun K hK => ?_)
     refine Kd.R_lit_step (Kd.int .u8) _ 5 ?hg (N := 17) ?hd (xs := ([(IntKind.u64.wrap (48 + (Int.tmod a0 10))) % 256] : List Int)) (inner := [.int .u8 ((IntKind.u64.wrap (48 + (Int.tmod a0 10))) % 256)]) (ok := fun _ => True) (okp := fun _ => True) ?hr ?hp (fun _ hk => hk) trivial (Below.refl _ _) (Nat.le_refl _) (by simp) ?_; (case hd => rfl); (case hg => rfl); (case hr => (go_simp; rfl)); (case hp => exact (Reps.one (show Kd.M (Kd.int .u8) _ _ _ ((IntKind.u64.wrap (48 + (Int.tmod a0 10))) % 256) [.int .u8 ((IntKind.u64.wrap (48 + (Int.tmod a0 10))) % 256)] from rfl) (Reps.none _ _)))
     intro v240 w10 ho11 hb hg_ hnew_
     clear hg_ hnew_
     (rw [← Ny239.out] at ho11)
     have n0_ := Aside0.mk (Kd.R_lower ho11 (below_size HB.out))
     have n1_ := Aside0.mk (below_step HB.out hb)
     clear HB
     have HO241 := n0_
     have HB := n1_
     clear n0_ n1_
     clear hb ho11
     refine hK.out _ _ trivial (fun hHeld => ?_)
     clear hK K
     refine norm_ (a' := ?_) ?_ ?_
     rotate_left
     ·show Act.put _ (some 17) _ = _
      simp only [Act.put, List.setIfInBounds_toArray, List.set_cons_zero, List.set_cons_succ, i64_w, i32_w]
      rfl
     refine one_ (i := 8) (N := some 18) #[true, true, true, true, true, true, true, true, true, false, false] rfl rfl (one_of HT_.out (by kernel_rfl)) (by decide) (fun K hK => ?_)
     have hcv12 := own_string (P := Try.prog) Try.underlying49 Try.underlying5 Try.underlying9 (Kd.own_of_R HO241.out)
     refine value_ (w1 := ?_) (v := ?_) rfl rfl ?_ ?_
     rotate_left 2
     ·go_simp
      constructor
      ·rfl
      ·rfl
     clear hcv12
     refine hK.out _ _ trivial (fun hHeld => ?_)
     clear hK K
     refine norm_ (a' := ?_) ?_ ?_
     rotate_left
     ·show Act.put _ (some 18) _ = _
      simp only [Act.put, List.setIfInBounds_toArray, List.set_cons_zero, List.set_cons_succ, i64_w, i32_w]
      rfl
     exact norm_ (by simp only [putAll, Act.put, List.setIfInBounds_toArray, List.set_cons_zero, List.set_cons_succ]) (hCont (v240) _ ⟨HO241.out, HB.out⟩)
    ·skip
     refine Kd.R_lit_step (Kd.int .u8) _ 5 ?hg (N := 17) ?hd (xs := ([(IntKind.u64.wrap (48 + (Int.tmod a0 10))) % 256] : List Int)) (inner := [.int .u8 ((IntKind.u64.wrap (48 + (Int.tmod a0 10))) % 256)]) (ok := fun _ => True) (okp := fun _ => True) ?hr ?hp (fun _ hk => hk) trivial (Below.refl _ _) (Nat.le_refl _) (by simp) ?_; (case hd => rfl); (case hg => rfl); (case hr => (go_simp; rfl)); (case hp => exact (Reps.one (show Kd.M (Kd.int .u8) _ _ _ ((IntKind.u64.wrap (48 + (Int.tmod a0 10))) % 256) [.int .u8 ((IntKind.u64.wrap (48 + (Int.tmod a0 10))) % 256)] from rfl) (Reps.none _ _)))
     intro v240 w9 ho10 hb hg_ hnew_
     clear hg_ hnew_
     (rw [← Ny239.out] at ho10)
     have n0_ := Aside0.mk (Kd.R_lower ho10 (below_size HB.out))
     have n1_ := Aside0.mk (below_step HB.out hb)
     clear HB
     have HO241 := n0_
     have HB := n1_
     clear n0_ n1_
     clear hb ho10
     refine hK.out _ _ trivial (fun hHeld => ?_)
     clear hK K
     refine norm_ (a' := ?_) ?_ ?_
     rotate_left
     ·show Act.put _ (some 17) _ = _
      simp only [Act.put, List.setIfInBounds_toArray, List.set_cons_zero, List.set_cons_succ, i64_w, i32_w]
      rfl
     refine two_ (i := 2) (j := 8) (Ni := some 12) (Nj := some 18) #[true, true, true, true, true, true, true, true, false, false, false] #[true, true, false, true, true, true, true, true, true, false, false] rfl rfl rfl rfl (two_of HT_.out (by kernel_rfl)) (by decide) (by decide) (fun K hK => ?_) (fun K hK => ?_)
     ·skip
      refine goes_ Try.func149 (by kernel_rfl) rfl #[.int .u64 (IntKind.u64.wrap (Int.tdiv a0 10))] rfl rfl rfl (by (try simp only [List.map_toArray, List.map_cons, List.map_nil]); rfl) ?_
      with_reducible refine (ih k (by omega) (IntKind.u64.wrap (Int.tdiv a0 10)) t238 _ A6.out).mono ?_
      rintro e w11 ⟨rfl, hb⟩
      refine ⟨_, rfl, ?_⟩
      have n0_ := Aside0.mk (Kd.R_below HO241.out hb)
      have n1_ := Aside0.mk (below_step HB.out hb)
      clear HO241
      clear HB
      have HO241 := n0_
      have HB := n1_
      clear n0_ n1_
      (try clear hb)
      (try clear hb2)
      (try clear hk)
      (try clear hi)
      refine hK.out _ _ trivial (fun hHeld => ?_)
      clear hK K
      refine norm_ (a' := ?_) ?_ ?_
      rotate_left
      ·show Act.put _ (some 12) _ = _
       simp only [Act.put, List.setIfInBounds_toArray, List.set_cons_zero, List.set_cons_succ, i64_w, i32_w]
       rfl
      refine one_ (i := 8) (N := some 18) #[true, true, true, true, true, true, true, true, true, false, false] rfl rfl (one_of HT_.out (by kernel_rfl)) (by decide) (fun K hK => ?_)
      have hcv12 := own_string (P := Try.prog) Try.underlying49 Try.underlying5 Try.underlying9 (Kd.own_of_R HO241.out)
      refine value_ (w1 := ?_) (v := ?_) rfl rfl ?_ ?_
      rotate_left 2
      ·go_simp
       constructor
       ·rfl
       ·rfl
      clear hcv12
      refine hK.out _ _ trivial (fun hHeld => ?_)
      clear hK K
      refine norm_ (a' := ?_) ?_ ?_
      rotate_left
      ·show Act.put _ (some 18) _ = _
       simp only [Act.put, List.setIfInBounds_toArray, List.set_cons_zero, List.set_cons_succ, i64_w, i32_w]
       rfl
      exact norm_ (by simp only [putAll, Act.put, List.setIfInBounds_toArray, List.set_cons_zero, List.set_cons_succ]) (hCont (v240) _ ⟨HO241.out, HB.out⟩)
     ·skip
      have hcv11 := own_string (P := Try.prog) Try.underlying49 Try.underlying5 Try.underlying9 (Kd.own_of_R HO241.out)
      refine value_ (w1 := ?_) (v := ?_) rfl rfl ?_ ?_
      rotate_left 2
      ·go_simp
       constructor
       ·rfl
       ·rfl
      clear hcv11
      refine hK.out _ _ trivial (fun hHeld => ?_)
      clear hK K
      refine norm_ (a' := ?_) ?_ ?_
      rotate_left
      ·show Act.put _ (some 18) _ = _
       simp only [Act.put, List.setIfInBounds_toArray, List.set_cons_zero, List.set_cons_succ, i64_w, i32_w]
       rfl
      refine one_ (i := 2) (N := some 12) #[true, true, true, true, true, true, true, true, true, false, false] rfl rfl (one_of HT_.out (by kernel_rfl)) (by decide) (fun K hK => ?_)
      refine goes_ Try.func149 (by kernel_rfl) rfl #[.int .u64 (IntKind.u64.wrap (Int.tdiv a0 10))] rfl rfl rfl (by (try simp only [List.map_toArray, List.map_cons, List.map_nil]); rfl) ?_
      with_reducible refine (ih k (by omega) (IntKind.u64.wrap (Int.tdiv a0 10)) t238 _ A6.out).mono ?_
      rintro e w12 ⟨rfl, hb⟩
      refine ⟨_, rfl, ?_⟩
      have n0_ := Aside0.mk (Kd.R_below HO241.out hb)
      have n1_ := Aside0.mk (below_step HB.out hb)
      clear HO241
      clear HB
      have HO241 := n0_
      have HB := n1_
      clear n0_ n1_
      (try clear hb)
      (try clear hb2)
      (try clear hk)
      (try clear hi)
      refine hK.out _ _ trivial (fun hHeld => ?_)
      clear hK K
      refine norm_ (a' := ?_) ?_ ?_
      rotate_left
      ·show Act.put _ (some 12) _ = _
       simp only [Act.put, List.setIfInBounds_toArray, List.set_cons_zero, List.set_cons_succ, i64_w, i32_w]
       rfl
      exact norm_ (by simp only [putAll, Act.put, List.setIfInBounds_toArray, List.set_cons_zero, List.set_cons_succ]) (hCont (v240) _ ⟨HO241.out, HB.out⟩)
   rintro v240 w13 ⟨h0_, h1_⟩
   have n0_ : Aside0 (Kd.R (Kd.int .u8) 5 w13 w.heap.size (fun _ => True) v240 y239) := ⟨h0_⟩
   have n1_ : Aside0 (Below w.heap.size w w13) := ⟨h1_⟩
   clear HB
   clear h0_ h1_
   have HO241 := n0_
   have HB := n1_
   clear n0_ n1_
   have hHeld := trivial
   refine norm_ (a' := ?_) ?_ ?_
   rotate_left
   ·simp only [putAll, Act.put, List.setIfInBounds_toArray, List.set_cons_zero, List.set_cons_succ]
    rfl
   refine pure_ (i := 9) (N := some 19) (v := ?_) (a' := ?_) #[true, true, true, true, true, true, true, true, true, true, false] rfl rfl (any_of HT_.out (by kernel_rfl)) (fun _ _ _ h => h) (Or.inl ⟨rfl, ?_⟩) ?_ ?_
   rotate_left
   ·intro w'
    go_simp
    with_reducible rfl
   rotate_left
   ·simp only [Act.put, List.setIfInBounds_toArray, List.set_cons_zero, List.set_cons_succ, i64_w, i32_w]
    rfl
   refine pure_ (i := 10) (N := some 2) (v := ?_) (a' := ?_) #[true, true, true, true, true, true, true, true, true, true, true] rfl rfl (any_of HT_.out (by kernel_rfl)) (fun _ _ _ h => h) (Or.inl ⟨rfl, ?_⟩) ?_ ?_
   rotate_left
   ·intro w'
    go_simp
    with_reducible rfl
   rotate_left
   ·simp only [Act.put, List.setIfInBounds_toArray, List.set_cons_zero, List.set_cons_succ, i64_w, i32_w]
    rfl
   refine done_ (done_of HT_.out (by kernel_rfl)) ?_
   try go_wp2
   go_ret
   exact ⟨rfl, HB.out⟩
  ·rw [if_neg c7] at H
   exact absurd H (by simp)

end Go.Proofs.Ytphkghnppcfdpaa.P
namespace Go.Proofs.Ytphkghnppcfdpaa.P
open Go.RowKit Go.Proofs.YtphkghnppcfdpaaW.PrintWords Go.Proofs.YtphkghnppcfdpaaW.PrintLast Go.Proofs.YtphkghnppcfdpaaW.PrintMore
attribute [local go_sem] max2_int min2_int max_two min_two max_three min_three max_four min_four   -- for this text's walks alone
set_option linter.unusedVariables false
set_option linter.unusedSimpArgs false

/-! ### impl_FormatInt: function 104 -/
def impl_FormatInt.f (k : Nat) (a0 : Int) : Option (ByteArray) := if a0 < 0 then ((impl_decimal.f k (IntKind.u64.wrap (-(IntKind.u64.wrap (a0))))).bind fun t242 => (if 1 + t242.size ≤ 9223372036854775807 then (some ((⟨#[45]⟩ : ByteArray) ++ t242)) else (none))) else ((impl_decimal.f k (IntKind.u64.wrap (a0))).bind fun t243 => (some t243))
theorem impl_FormatInt.mono : ∀ a0 k, LeO (impl_FormatInt.f k a0) (impl_FormatInt.f (k + 1) a0) := by
 intro a0 k
 unfold impl_FormatInt.f
 repeat' first
   | (with_reducible exact impl_decimal.mono _ _)
   | (with_reducible exact LeO.refl _)
   | (with_reducible refine LeO.ite ?_ ?_)
   | (with_reducible refine LeO.bind ?_ (fun _ => ?_))
set_option maxHeartbeats 8000000 in
set_option maxRecDepth 100000 in
theorem impl_FormatInt.calls (k : Nat) (a0 : Int) (r : ByteArray) (w : World) (h : impl_FormatInt.f k a0 = some r) :
  Calls Try.prog 104 #[.int .i64 a0] w fun e w' => e = .returned (.string r) ∧ Below w.heap.size w w' := by
 have HB := Aside0.mk (Below.refl w.heap.size w)
 have H : (if a0 < 0 then ((impl_decimal.f k (IntKind.u64.wrap (-(IntKind.u64.wrap (a0))))).bind fun t242 => (if 1 + t242.size ≤ 9223372036854775807 then (some ((⟨#[45]⟩ : ByteArray) ++ t242)) else (none))) else ((impl_decimal.f k (IntKind.u64.wrap (a0))).bind fun t243 => (some t243))) = some r := h
 clear h
 by_cases c2 : a0 < 0
 ·rw [if_pos c2] at H
  have c2b0 : decide (a0 < 0) = true := decide_eq_true c2
  clear c2
  replace H := Option.bind_eq_some_iff.mp H
  obtain ⟨t242, A30, H⟩ := H
  have A3 := Aside0.mk A30
  clear A30
  by_cases c4 : 1 + t242.size ≤ 9223372036854775807
  ·rw [if_pos c4] at H
   have c4b0 := eq_true c4
   have c4b1 : decide (1 + t242.size ≤ 9223372036854775807) = true := decide_eq_true c4
   try have c4b2 : (9223372036854775807 < 1 + t242.size) = False := eq_false (Nat.not_lt.2 c4)
   obtain rfl := Option.some.inj H
   go_enter Try.func104, Try.ntmps104
   go_wp2_with (((with_reducible refine gate_callee (f := 149) rfl ?_); refine goesL_ (some 8) rfl rfl Try.func149 (by kernel_rfl) rfl #[.int .u64 (IntKind.u64.wrap (-(IntKind.u64.wrap (a0))))] rfl (by (try simp only [List.map_toArray, List.map_cons, List.map_nil]); rfl) ?_; (with_reducible refine (impl_decimal.calls k (IntKind.u64.wrap (-(IntKind.u64.wrap (a0)))) t242 _ A3.out).mono ?_); rintro e w5 ⟨rfl, hb⟩; refine ⟨_, rfl, ?_⟩; have n0_ := Aside0.mk (below_step HB.out hb); clear HB; have HB := n0_; clear n0_; (try clear hb); (try clear hb2); (try clear hk); (try clear hi)))
   go_ret
   exact ⟨rfl, HB.out⟩
  ·rw [if_neg c4] at H
   exact absurd H (by simp)
 ·rw [if_neg c2] at H
  have c2b0 : decide (a0 < 0) = false := decide_eq_false c2
  clear c2
  replace H := Option.bind_eq_some_iff.mp H
  obtain ⟨t243, A60, H⟩ := H
  have A6 := Aside0.mk A60
  clear A60
  obtain rfl := Option.some.inj H
  go_enter Try.func104, Try.ntmps104
  go_wp2_with (((with_reducible refine gate_callee (f := 149) rfl ?_); refine goesL_ (some 12) rfl rfl Try.func149 (by kernel_rfl) rfl #[.int .u64 (IntKind.u64.wrap (a0))] rfl (by (try simp only [List.map_toArray, List.map_cons, List.map_nil]); rfl) ?_; (with_reducible refine (impl_decimal.calls k (IntKind.u64.wrap (a0)) t243 _ A6.out).mono ?_); rintro e w7 ⟨rfl, hb⟩; refine ⟨_, rfl, ?_⟩; have n0_ := Aside0.mk (below_step HB.out hb); clear HB; have HB := n0_; clear n0_; (try clear hb); (try clear hb2); (try clear hk); (try clear hi)))
  go_ret
  exact ⟨rfl, HB.out⟩

end Go.Proofs.Ytphkghnppcfdpaa.P
namespace Go.Proofs.Ytphkghnppcfdpaa.P
open Go.RowKit Go.Proofs.YtphkghnppcfdpaaW.PrintWords Go.Proofs.YtphkghnppcfdpaaW.PrintLast Go.Proofs.YtphkghnppcfdpaaW.PrintMore
attribute [local go_sem] max2_int min2_int max_two min_two max_three min_three max_four min_four   -- for this text's walks alone
set_option linter.unusedVariables false
set_option linter.unusedSimpArgs false

/-! ### impl_ParseInt: function 87 -/
mutual
def impl_ParseInt.j0 : Nat → ByteArray → ByteArray → Bool → Option (Int × Bool)
 | 0, _, _, _ => none
 | k + 1, x0, x4, x15 => if x15 = true then (if 1 ≤ (x0.size : Int) then (impl_ParseInt.j1 k x0 (x0.extract 1 x0.size)) else (none)) else (impl_ParseInt.j1 k x0 x4)
def impl_ParseInt.j1 : Nat → ByteArray → ByteArray → Option (Int × Bool)
 | 0, _, _ => none
 | k + 1, x0, x4 => if (x4.size : Int) < 1 then (impl_ParseInt.j2 k x0 x4 true) else (impl_ParseInt.j2 k x0 x4 (decide ((x4.size : Int) > 9)))
def impl_ParseInt.j2 : Nat → ByteArray → ByteArray → Bool → Option (Int × Bool)
 | 0, _, _, _ => none
 | k + 1, x0, x4, x25 => if x25 = true then (some (0, false)) else (impl_ParseInt.l0 k x0 x4 0 (x4.size : Int) 0)
def impl_ParseInt.l0 : Nat → ByteArray → ByteArray → Int → Int → Int → Option (Int × Bool)
 | 0, _, _, _, _, _ => none
 | k + 1, x0, x4, x5, x27, x28 => if x28 < x27 then (if 0 ≤ x28 then (if x28 < (x4.size : Int) then (if (bt x4 x28) < 48 then (some (0, false)) else (if (bt x4 x28) > 57 then (some (0, false)) else (impl_ParseInt.l0 k x0 x4 (wrap64 ((wrap64 (10 * x5)) + (((bt x4 x28) - 48) % 256))) x27 (wrap64 (x28 + 1))))) else (none)) else (none)) else (if (x4.size : Int) < (x0.size : Int) then ((impl_FormatInt.f k (wrap64 (-x5))).bind fun t244 => (if t244.toList = x0.toList then (some (wrap64 (-x5), true)) else (some (0, false)))) else ((impl_FormatInt.f k x5).bind fun t245 => (if t245.toList = x0.toList then (some (x5, true)) else (some (0, false)))))
end
def impl_ParseInt.f (k : Nat) (a0 : ByteArray) : Option (Int × Bool) := if (a0.size : Int) > 0 then (if 0 < (a0.size : Int) then (impl_ParseInt.j0 k a0 a0 ((bt a0 0) == 45)) else (none)) else (impl_ParseInt.j0 k a0 a0 false)
theorem impl_ParseInt.mono_l : ∀ k, (∀ y0 y1 y2, LeO (impl_ParseInt.j0 k y0 y1 y2) (impl_ParseInt.j0 (k + 1) y0 y1 y2)) ∧ (∀ y0 y1, LeO (impl_ParseInt.j1 k y0 y1) (impl_ParseInt.j1 (k + 1) y0 y1)) ∧ (∀ y0 y1 y2, LeO (impl_ParseInt.j2 k y0 y1 y2) (impl_ParseInt.j2 (k + 1) y0 y1 y2)) ∧ (∀ y0 y1 y2 y3 y4, LeO (impl_ParseInt.l0 k y0 y1 y2 y3 y4) (impl_ParseInt.l0 (k + 1) y0 y1 y2 y3 y4))
 | 0 => ⟨fun _ _ _ r h => by simp [impl_ParseInt.j0] at h, fun _ _ r h => by simp [impl_ParseInt.j1] at h, fun _ _ _ r h => by simp [impl_ParseInt.j2] at h, fun _ _ _ _ _ r h => by simp [impl_ParseInt.l0] at h⟩
 | k + 1 => by
  obtain ⟨ih0, ih1, ih2, ih3⟩ := impl_ParseInt.mono_l k
  refine ⟨?_, ?_, ?_, ?_⟩
  ·intro y0 y1 y2
   unfold impl_ParseInt.j0
   repeat' first
   | (with_reducible exact ih1 _ _)
   | (with_reducible exact LeO.refl _)
   | (with_reducible refine LeO.ite ?_ ?_)
  ·intro y0 y1
   unfold impl_ParseInt.j1
   repeat' first

   | (with_reducible exact ih2 _ _ _)
   | (with_reducible refine LeO.ite ?_ ?_)
  ·intro y0 y1 y2
   unfold impl_ParseInt.j2
   repeat' first

   | (with_reducible exact ih3 _ _ _ _ _)
   | (with_reducible exact LeO.refl _)
   | (with_reducible refine LeO.ite ?_ ?_)
  ·intro y0 y1 y2 y3 y4
   unfold impl_ParseInt.l0
   repeat' first

   | (with_reducible exact ih3 _ _ _ _ _)
   | (with_reducible exact impl_FormatInt.mono _ _)
   | (with_reducible exact LeO.refl _)
   | (with_reducible refine LeO.ite ?_ ?_)
   | (with_reducible refine LeO.bind ?_ (fun _ => ?_))
theorem impl_ParseInt.mono : ∀ a0 k, LeO (impl_ParseInt.f k a0) (impl_ParseInt.f (k + 1) a0) := by
 intro a0 k
 obtain ⟨ih0, ih1, ih2, ih3⟩ := impl_ParseInt.mono_l k
 unfold impl_ParseInt.f
 repeat' first
   | (with_reducible exact ih0 _ _ _)
   | (with_reducible exact LeO.refl _)
   | (with_reducible refine LeO.ite ?_ ?_)
set_option maxHeartbeats 8000000 in
set_option maxRecDepth 100000 in
theorem impl_ParseInt.calls (k : Nat) (a0 : ByteArray) (r1 : Int) (r2 : Bool) (w : World) (h : impl_ParseInt.f k a0 = some (r1, r2)) :
  Calls Try.prog 87 #[.string a0] w fun e w' => e = .returned (.tuple #[.int .i64 r1, .bool r2]) ∧ Below w.heap.size w w' := by
 have HB := Aside0.mk (Below.refl w.heap.size w)
 have H : (if (a0.size : Int) > 0 then (if 0 < (a0.size : Int) then (impl_ParseInt.j0 k a0 a0 ((bt a0 0) == 45)) else (none)) else (impl_ParseInt.j0 k a0 a0 false)) = some (r1, r2) := h
 clear h
 have HC2 := Aside0.mk H
 clear H
 go_enter Try.func87, Try.ntmps87
 go_upto_region 2 with (fail)
 go_cut [15] (fun v15 wc => ∃ (kq : Nat) (x15_1 : Bool), v15 = .bool x15_1 ∧ Aside0 (impl_ParseInt.j0 kq a0 a0 x15_1 = some (r1, r2)) ∧ Aside0 (kq ≤ k) ∧ Aside0 (Below w.heap.size w wc))
 case first =>
  have H := HC2.out
  clear HC2
  by_cases c3 : (a0.size : Int) > 0
  ·rw [if_pos c3] at H
   have c3b0 : decide (0 < (a0.size : Int)) = true := decide_eq_true c3
   have c3b1 : decide (0 < a0.size) = true := decide_eq_true (by omega)
   clear c3
   (skip)
   by_cases c4 : 0 < (a0.size : Int)
   ·rw [if_pos c4] at H
    have c4b0 : decide (0 < (a0.size : Int)) = true := decide_eq_true c4
    have c4b1 : decide (0 < a0.size) = true := decide_eq_true (by omega)
    clear c4
    have H' := Aside0.mk H
    clear H
    have p5 : 0 ≤ (0 : Int) := (by omega)
    have q5 : 0 < a0.size := (by have : (0 : Int) < (a0.size : Int) := of_decide_eq_true (by (with_reducible assumption)); omega)
    have hx5 : ∀ h : 0 < a0.size, ((a0[0]'h).toNat : Int) = bt a0 0 := bt_at a0 0
    clear p5
    have qi5 : (0 < (a0.size : Int)) = True := eq_true (of_decide_eq_true (by (with_reducible assumption)))
    replace q5 := eq_true q5
    go_wp2
    go_meet
    case rel => exact ⟨_, (((bt a0 0) == 45)), rfl, H', ⟨by omega⟩, ⟨HB.out⟩⟩
   ·rw [if_neg c4] at H
    exact absurd H (by simp)
  ·rw [if_neg c3] at H
   have c3b0 : decide (0 < (a0.size : Int)) = false := decide_eq_false c3
   have c3b1 : decide (0 < a0.size) = false := decide_eq_false (by omega)
   clear c3
   (skip)
   have H' := Aside0.mk H
   clear H
   go_wp2
   go_meet
   case rel => exact ⟨_, (false), rfl, H', ⟨by omega⟩, ⟨HB.out⟩⟩
 case rest =>
  clear HC2
  obtain ⟨kq, x15_1, rfl, HA, HJ1, HB⟩ := hcut
  cases kq with
  | zero => exact absurd HA.out (by simp [impl_ParseInt.j0])
  | succ kj1 =>
   have H := HA.out
   clear HA
   simp only [impl_ParseInt.j0] at H
   have HC6 := Aside0.mk H
   clear H
   go_upto_if 15 with (fail)
   go_cut [4] (fun v4 wc => ∃ (kq : Nat) (x4_5 : ByteArray), v4 = .string x4_5 ∧ Aside0 (impl_ParseInt.j1 kq a0 x4_5 = some (r1, r2)) ∧ Aside0 (kq ≤ kj1) ∧ Aside0 (Below w.heap.size w wc))
   case first =>
    have H := HC6.out
    clear HC6
    by_cases c7 : x15_1 = true
    ·subst c7
     rw [if_pos rfl] at H
     by_cases c8 : 1 ≤ (a0.size : Int)
     ·rw [if_pos c8] at H
      have c8b0 := eq_true c8
      have c8b1 : decide (1 ≤ (a0.size : Int)) = true := decide_eq_true c8
      clear c8
      have H' := Aside0.mk H
      clear H
      go_wp2
      go_meet
      case rel => exact ⟨_, (a0.extract 1 a0.size), rfl, H', ⟨by have := HJ1.out; omega⟩, ⟨HB.out⟩⟩
     ·rw [if_neg c8] at H
      exact absurd H (by simp)
    ·replace c7 := Bool.eq_false_iff.mpr c7
     subst c7
     rw [if_neg (show ¬ (false = true) by decide)] at H
     have H' := Aside0.mk H
     clear H
     go_wp2
     go_meet
     case rel => exact ⟨_, (a0), rfl, H', ⟨by have := HJ1.out; omega⟩, ⟨HB.out⟩⟩
   case rest =>
    clear HC6
    obtain ⟨kq, x4_5, rfl, HA, HJ5, HB⟩ := hcut
    cases kq with
    | zero => exact absurd HA.out (by simp [impl_ParseInt.j1])
    | succ kj5 =>
     have H := HA.out
     clear HA
     simp only [impl_ParseInt.j1] at H
     have HC9 := Aside0.mk H
     clear H
     go_upto_region 4 with (fail)
     go_cut [25] (fun v25 wc => ∃ (kq : Nat) (x25_8 : Bool), v25 = .bool x25_8 ∧ Aside0 (impl_ParseInt.j2 kq a0 x4_5 x25_8 = some (r1, r2)) ∧ Aside0 (kq ≤ kj5) ∧ Aside0 (Below w.heap.size w wc))
     case first =>
      have H := HC9.out
      clear HC9
      by_cases c10 : (x4_5.size : Int) < 1
      ·rw [if_pos c10] at H
       have c10b0 : decide ((x4_5.size : Int) < 1) = true := decide_eq_true c10
       have c10b1 : decide (x4_5.size < 1) = true := decide_eq_true (by omega)
       clear c10
       (skip)
       have H' := Aside0.mk H
       clear H
       go_wp2
       go_meet
       case rel => exact ⟨_, (true), rfl, H', ⟨by have := HJ1.out; have := HJ5.out; omega⟩, ⟨HB.out⟩⟩
      ·rw [if_neg c10] at H
       have c10b0 : decide ((x4_5.size : Int) < 1) = false := decide_eq_false c10
       have c10b1 : decide (x4_5.size < 1) = false := decide_eq_false (by omega)
       clear c10
       (skip)
       have H' := Aside0.mk H
       clear H
       go_wp2
       go_meet
       case rel => exact ⟨_, (decide ((x4_5.size : Int) > 9)), rfl, H', ⟨by have := HJ1.out; have := HJ5.out; omega⟩, ⟨HB.out⟩⟩
     case rest =>
      clear HC9
      obtain ⟨kq, x25_8, rfl, HA, HJ8, HB⟩ := hcut
      cases kq with
      | zero => exact absurd HA.out (by simp [impl_ParseInt.j2])
      | succ kj8 =>
       have H := HA.out
       clear HA
       simp only [impl_ParseInt.j2] at H
       by_cases c11 : x25_8 = true
       ·subst c11
        rw [if_pos rfl] at H
        simp only [Option.some.injEq, Prod.mk.injEq] at H
        obtain ⟨rfl, rfl⟩ := H
        go_wp2
        go_ret2
        exact ⟨rfl, HB.out⟩
       ·replace c11 := Bool.eq_false_iff.mpr c11
        subst c11
        rw [if_neg (show ¬ (false = true) by decide)] at H
        have H' := Aside0.mk H
        clear H
        go_wp2
        go_loopg [5, 28] kj8 (fun kq v5 v28 w' => ∃ (x5_4 : Int) (x28_4 : Int), v5 = .int .i64 x5_4 ∧ v28 = .int .i64 x28_4 ∧ Aside0 (impl_ParseInt.l0 kq a0 x4_5 x5_4 (x4_5.size : Int) x28_4 = some (r1, r2)) ∧ Aside0 (kq ≤ kj8) ∧ Aside0 (Below w.heap.size w w'))
        case atStart => exact ⟨(0), (0), rfl, rfl, H', ⟨Nat.le_refl _⟩, ⟨HB.out⟩⟩
        case round =>
         clear H'
         obtain ⟨x5_4, x28_4, rfl, rfl, HA, HK4, HB⟩ := hrel
         cases gk with
         | zero => exact absurd HA.out (by simp [impl_ParseInt.l0])
         | succ k4 =>
          have H := HA.out
          clear HA
          simp only [impl_ParseInt.l0] at H
          by_cases c12 : x28_4 < (x4_5.size : Int)
          ·rw [if_pos c12] at H
           have c12b0 : decide (x28_4 < (x4_5.size : Int)) = true := decide_eq_true c12
           clear c12
           by_cases c13 : 0 ≤ x28_4
           ·rw [if_pos c13] at H
            have c13b0 : decide (0 ≤ x28_4) = true := decide_eq_true c13
            clear c13
            by_cases c14 : x28_4 < (x4_5.size : Int)
            ·rw [if_pos c14] at H
             have c14b0 : decide (x28_4 < (x4_5.size : Int)) = true := decide_eq_true c14
             clear c14
             by_cases c16 : (bt x4_5 x28_4) < 48
             ·rw [if_pos c16] at H
              have c16b0 : decide ((bt x4_5 x28_4) < 48) = true := decide_eq_true c16
              clear c16
              simp only [Option.some.injEq, Prod.mk.injEq] at H
              obtain ⟨rfl, rfl⟩ := H
              have p15 : 0 ≤ (x28_4 : Int) := of_decide_eq_true (by (with_reducible assumption))
              have q15 : x28_4 < (x4_5.size : Int) := of_decide_eq_true (by (with_reducible assumption))
              have hx15 := bt_at x4_5 x28_4
              replace p15 := eq_true p15
              replace q15 := eq_true q15
              go_wp2
              go_ret2
              exact ⟨rfl, HB.out⟩
             ·rw [if_neg c16] at H
              have c16b0 : decide ((bt x4_5 x28_4) < 48) = false := decide_eq_false c16
              clear c16
              by_cases c18 : (bt x4_5 x28_4) > 57
              ·rw [if_pos c18] at H
               have c18b0 : decide (57 < (bt x4_5 x28_4)) = true := decide_eq_true c18
               clear c18
               simp only [Option.some.injEq, Prod.mk.injEq] at H
               obtain ⟨rfl, rfl⟩ := H
               have p15 : 0 ≤ (x28_4 : Int) := of_decide_eq_true (by (with_reducible assumption))
               have q15 : x28_4 < (x4_5.size : Int) := of_decide_eq_true (by (with_reducible assumption))
               have hx15 := bt_at x4_5 x28_4
               replace p15 := eq_true p15
               replace q15 := eq_true q15
               have p17 : 0 ≤ (x28_4 : Int) := of_decide_eq_true (by (with_reducible assumption))
               have q17 : x28_4 < (x4_5.size : Int) := of_decide_eq_true (by (with_reducible assumption))
               have hx17 := bt_at x4_5 x28_4
               replace p17 := eq_true p17
               replace q17 := eq_true q17
               go_wp2
               go_ret2
               exact ⟨rfl, HB.out⟩
              ·rw [if_neg c18] at H
               have c18b0 : decide (57 < (bt x4_5 x28_4)) = false := decide_eq_false c18
               clear c18
               have H' := Aside0.mk H
               clear H
               have p15 : 0 ≤ (x28_4 : Int) := of_decide_eq_true (by (with_reducible assumption))
               have q15 : x28_4 < (x4_5.size : Int) := of_decide_eq_true (by (with_reducible assumption))
               have hx15 := bt_at x4_5 x28_4
               replace p15 := eq_true p15
               replace q15 := eq_true q15
               have p17 : 0 ≤ (x28_4 : Int) := of_decide_eq_true (by (with_reducible assumption))
               have q17 : x28_4 < (x4_5.size : Int) := of_decide_eq_true (by (with_reducible assumption))
               have hx17 := bt_at x4_5 x28_4
               replace p17 := eq_true p17
               replace q17 := eq_true q17
               have p19 : 0 ≤ (x28_4 : Int) := of_decide_eq_true (by (with_reducible assumption))
               have q19 : x28_4 < (x4_5.size : Int) := of_decide_eq_true (by (with_reducible assumption))
               have hx19 := bt_at x4_5 x28_4
               replace p19 := eq_true p19
               replace q19 := eq_true q19
               go_wp2
               go_roundg k4
               case measure => have := HJ1.out; have := HJ5.out; have := HJ8.out; have := HK4.out; omega
               case rel => exact ⟨(wrap64 ((wrap64 (10 * x5_4)) + (((bt x4_5 x28_4) - 48) % 256))), (wrap64 (x28_4 + 1)), rfl, rfl, H', ⟨by have := HJ1.out; have := HJ5.out; have := HJ8.out; have := HK4.out; omega⟩, ⟨HB.out⟩⟩
            ·rw [if_neg c14] at H
             exact absurd H (by simp)
           ·rw [if_neg c13] at H
            exact absurd H (by simp)
          ·rw [if_neg c12] at H
           have c12b0 : decide (x28_4 < (x4_5.size : Int)) = false := decide_eq_false c12
           clear c12
           by_cases c20 : (x4_5.size : Int) < (a0.size : Int)
           ·rw [if_pos c20] at H
            have c20b0 : decide ((x4_5.size : Int) < (a0.size : Int)) = true := decide_eq_true c20
            have c20b1 : decide (x4_5.size < a0.size) = true := decide_eq_true (Int.ofNat_lt.mp c20)
            clear c20
            replace H := Option.bind_eq_some_iff.mp H
            obtain ⟨t244, A210, H⟩ := H
            have A21 := Aside0.mk A210
            clear A210
            by_cases c22 : t244.toList = a0.toList
            ·rw [if_pos c22] at H
             have c22b0 : (t244.toList == a0.toList) = true := beq_iff_eq.mpr c22
             have c22b1 : (t244.toList != a0.toList) = false := bne_eq_false_iff_eq.mpr c22
             clear c22
             simp only [Option.some.injEq, Prod.mk.injEq] at H
             obtain ⟨rfl, rfl⟩ := H
             go_wp2_with (((with_reducible refine gate_callee (f := 104) rfl ?_); refine goesL_ (some 58) rfl rfl Try.func104 (by kernel_rfl) rfl #[.int .i64 (wrap64 (-x5_4))] rfl (by (try simp only [List.map_toArray, List.map_cons, List.map_nil]); rfl) ?_; (with_reducible refine (impl_FormatInt.calls k4 (wrap64 (-x5_4)) t244 _ A21.out).mono ?_); rintro e w23 ⟨rfl, hb⟩; refine ⟨_, rfl, ?_⟩; have n0_ := Aside0.mk (below_step HB.out hb); clear HB; have HB := n0_; clear n0_; (try clear hb); (try clear hb2); (try clear hk); (try clear hi)))
             go_ret2
             exact ⟨rfl, HB.out⟩
            ·rw [if_neg c22] at H
             have c22b0 : (t244.toList == a0.toList) = false := beq_eq_false_iff_ne.mpr c22
             have c22b1 : (t244.toList != a0.toList) = true := bne_iff_ne.mpr c22
             simp only [Option.some.injEq, Prod.mk.injEq] at H
             obtain ⟨rfl, rfl⟩ := H
             go_wp2_with (((with_reducible refine gate_callee (f := 104) rfl ?_); refine goesL_ (some 58) rfl rfl Try.func104 (by kernel_rfl) rfl #[.int .i64 (wrap64 (-x5_4))] rfl (by (try simp only [List.map_toArray, List.map_cons, List.map_nil]); rfl) ?_; (with_reducible refine (impl_FormatInt.calls k4 (wrap64 (-x5_4)) t244 _ A21.out).mono ?_); rintro e w24 ⟨rfl, hb⟩; refine ⟨_, rfl, ?_⟩; have n0_ := Aside0.mk (below_step HB.out hb); clear HB; have HB := n0_; clear n0_; (try clear hb); (try clear hb2); (try clear hk); (try clear hi)))
             go_ret2
             exact ⟨rfl, HB.out⟩
           ·rw [if_neg c20] at H
            have c20b0 : decide ((x4_5.size : Int) < (a0.size : Int)) = false := decide_eq_false c20
            have c20b1 : decide (x4_5.size < a0.size) = false := decide_eq_false (fun h => c20 (Int.ofNat_lt.mpr h))
            clear c20
            replace H := Option.bind_eq_some_iff.mp H
            obtain ⟨t245, A250, H⟩ := H
            have A25 := Aside0.mk A250
            clear A250
            by_cases c26 : t245.toList = a0.toList
            ·rw [if_pos c26] at H
             have c26b0 : (t245.toList == a0.toList) = true := beq_iff_eq.mpr c26
             have c26b1 : (t245.toList != a0.toList) = false := bne_eq_false_iff_eq.mpr c26
             clear c26
             simp only [Option.some.injEq, Prod.mk.injEq] at H
             obtain ⟨rfl, rfl⟩ := H
             go_wp2_with (((with_reducible refine gate_callee (f := 104) rfl ?_); refine goesL_ (some 58) rfl rfl Try.func104 (by kernel_rfl) rfl #[.int .i64 x5_4] rfl (by (try simp only [List.map_toArray, List.map_cons, List.map_nil]); rfl) ?_; (with_reducible refine (impl_FormatInt.calls k4 x5_4 t245 _ A25.out).mono ?_); rintro e w27 ⟨rfl, hb⟩; refine ⟨_, rfl, ?_⟩; have n0_ := Aside0.mk (below_step HB.out hb); clear HB; have HB := n0_; clear n0_; (try clear hb); (try clear hb2); (try clear hk); (try clear hi)))
             go_ret2
             exact ⟨rfl, HB.out⟩
            ·rw [if_neg c26] at H
             have c26b0 : (t245.toList == a0.toList) = false := beq_eq_false_iff_ne.mpr c26
             have c26b1 : (t245.toList != a0.toList) = true := bne_iff_ne.mpr c26
             simp only [Option.some.injEq, Prod.mk.injEq] at H
             obtain ⟨rfl, rfl⟩ := H
             go_wp2_with (((with_reducible refine gate_callee (f := 104) rfl ?_); refine goesL_ (some 58) rfl rfl Try.func104 (by kernel_rfl) rfl #[.int .i64 x5_4] rfl (by (try simp only [List.map_toArray, List.map_cons, List.map_nil]); rfl) ?_; (with_reducible refine (impl_FormatInt.calls k4 x5_4 t245 _ A25.out).mono ?_); rintro e w28 ⟨rfl, hb⟩; refine ⟨_, rfl, ?_⟩; have n0_ := Aside0.mk (below_step HB.out hb); clear HB; have HB := n0_; clear n0_; (try clear hb); (try clear hb2); (try clear hk); (try clear hi)))
             go_ret2
             exact ⟨rfl, HB.out⟩

end Go.Proofs.Ytphkghnppcfdpaa.P
namespace Go.Proofs.Ytphkghnppcfdpaa.P
open Go.RowKit Go.Proofs.YtphkghnppcfdpaaW.PrintWords Go.Proofs.YtphkghnppcfdpaaW.PrintLast Go.Proofs.YtphkghnppcfdpaaW.PrintMore
attribute [local go_sem] max2_int min2_int max_two min_two max_three min_three max_four min_four   -- for this text's walks alone
set_option linter.unusedVariables false
set_option linter.unusedSimpArgs false

/-! ### impl_ParseRow: function 138 -/
def impl_ParseRow.f (k : Nat) (a0 : ByteArray) : Option (Int × Int × Int × Bool) := (impl_cut.f k a0 46).bind fun t247 => (if (t247.length : Int) = 3 then (if 0 < (t247.length : Int) then ((impl_ParseInt.f k (rdOf ByteArray.empty t247 0)).bind fun bt251 => (if 1 < (t247.length : Int) then ((impl_ParseInt.f k (rdOf ByteArray.empty t247 1)).bind fun bt254 => (if 2 < (t247.length : Int) then ((impl_ParseInt.f k (rdOf ByteArray.empty t247 2)).bind fun bt257 => (if bt251.2 = true then (if bt254.2 = true then (if bt257.2 = true then ((impl_IsValidRow.f bt251.1 bt254.1 bt257.1).bind fun t260 => (if t260 = true then (some (bt251.1, bt254.1, bt257.1, true)) else (some (0, 0, 0, false)))) else (some (0, 0, 0, false))) else (some (0, 0, 0, false))) else (some (0, 0, 0, false)))) else (none))) else (none))) else (none)) else (some (0, 0, 0, false)))
theorem impl_ParseRow.mono : ∀ a0 k, LeO (impl_ParseRow.f k a0) (impl_ParseRow.f (k + 1) a0) := by
 intro a0 k
 unfold impl_ParseRow.f
 repeat' first
   | (with_reducible exact impl_ParseInt.mono _ _)
   | (with_reducible exact impl_cut.mono _ _ _)
   | (with_reducible exact LeO.refl _)
   | (with_reducible refine LeO.ite ?_ ?_)
   | (with_reducible refine LeO.bind ?_ (fun _ => ?_))
set_option maxHeartbeats 8000000 in
set_option maxRecDepth 100000 in
theorem impl_ParseRow.calls (k : Nat) (a0 : ByteArray) (r1 : Int) (r2 : Int) (r3 : Int) (r4 : Bool) (w : World) (h : impl_ParseRow.f k a0 = some (r1, r2, r3, r4)) :
  Calls Try.prog 138 #[.string a0] w fun e w' => e = .returned (.tuple #[.agg #[.int .i64 r1, .int .i64 r2, .int .i64 r3], .bool r4]) ∧ Below w.heap.size w w' := by
 have hu114 := Try.underlying114
 have HB := Aside0.mk (Below.refl w.heap.size w)
 have H : ((impl_cut.f k a0 46).bind fun t247 => (if (t247.length : Int) = 3 then (if 0 < (t247.length : Int) then ((impl_ParseInt.f k (rdOf ByteArray.empty t247 0)).bind fun bt251 => (if 1 < (t247.length : Int) then ((impl_ParseInt.f k (rdOf ByteArray.empty t247 1)).bind fun bt254 => (if 2 < (t247.length : Int) then ((impl_ParseInt.f k (rdOf ByteArray.empty t247 2)).bind fun bt257 => (if bt251.2 = true then (if bt254.2 = true then (if bt257.2 = true then ((impl_IsValidRow.f bt251.1 bt254.1 bt257.1).bind fun t260 => (if t260 = true then (some (bt251.1, bt254.1, bt257.1, true)) else (some (0, 0, 0, false)))) else (some (0, 0, 0, false))) else (some (0, 0, 0, false))) else (some (0, 0, 0, false)))) else (none))) else (none))) else (none)) else (some (0, 0, 0, false)))) = some (r1, r2, r3, r4) := h
 clear h
 replace H := Option.bind_eq_some_iff.mp H
 obtain ⟨t247, A20, H⟩ := H
 have A2 := Aside0.mk A20
 clear A20
 by_cases c3 : (t247.length : Int) = 3
 ·rw [if_pos c3] at H
  have c3b0 : ((t247.length : Int) == 3) = true := beq_iff_eq.mpr c3
  have c3b1 : ((t247.length : Int) != 3) = false := bne_eq_false_iff_eq.mpr c3
  clear c3
  by_cases c4 : 0 < (t247.length : Int)
  ·rw [if_pos c4] at H
   have c4b0 : decide (0 < (t247.length : Int)) = true := decide_eq_true c4
   have c4b1 : decide (0 < t247.length) = true := decide_eq_true (by omega)
   clear c4
   replace H := Option.bind_eq_some_iff.mp H
   obtain ⟨⟨t251, t252⟩, A50, H⟩ := H
   have A5 := Aside0.mk A50
   clear A50
   by_cases c6 : 1 < (t247.length : Int)
   ·rw [if_pos c6] at H
    have c6b0 : decide (1 < (t247.length : Int)) = true := decide_eq_true c6
    have c6b1 : decide (1 < t247.length) = true := decide_eq_true (by omega)
    clear c6
    replace H := Option.bind_eq_some_iff.mp H
    obtain ⟨⟨t254, t255⟩, A70, H⟩ := H
    have A7 := Aside0.mk A70
    clear A70
    by_cases c8 : 2 < (t247.length : Int)
    ·rw [if_pos c8] at H
     have c8b0 : decide (2 < (t247.length : Int)) = true := decide_eq_true c8
     have c8b1 : decide (2 < t247.length) = true := decide_eq_true (by omega)
     clear c8
     replace H := Option.bind_eq_some_iff.mp H
     obtain ⟨⟨t257, t258⟩, A90, H⟩ := H
     have A9 := Aside0.mk A90
     clear A90
     by_cases c10 : t252 = true
     ·subst c10
      rw [if_pos rfl] at H
      by_cases c11 : t255 = true
      ·subst c11
       rw [if_pos rfl] at H
       by_cases c12 : t258 = true
       ·subst c12
        rw [if_pos rfl] at H
        replace H := Option.bind_eq_some_iff.mp H
        obtain ⟨t260, A130, H⟩ := H
        have A13 := Aside0.mk A130
        clear A130
        by_cases c14 : t260 = true
        ·subst c14
         rw [if_pos rfl] at H
         simp only [Option.some.injEq, Prod.mk.injEq] at H
         obtain ⟨rfl, rfl, rfl, rfl⟩ := H
         go_enter Try.func138, Try.ntmps138
         go_wp2_with (first | ((with_reducible refine gate_dst (N := 2) rfl ?_); refine box_event ?hg (N := 2) ?hd (cs := #[.int .i64 0, .int .i64 0, .int .i64 0]) (t := 114) ?hr ?_; (case hd => rfl); (case hg => rfl); (case hr => (go_simp; done)); intro gb246 hg w15 hbox hb; have n0_ := Aside0.mk (below_step HB.out hb); have n1_ := Aside0.mk (hbox); have n2_ := Aside0.mk ((by rw [hg]; exact (below_size HB.out) : w.heap.size ≤ gb246)); have n3_ := Aside0.mk ((by rw [hg]; exact (below_size HB.out) : w.heap.size ≤ gb246)); clear HB; have HB := n0_; have BK246 := n1_; have GW246 := n2_; have GE246 := n3_; clear n0_ n1_ n2_ n3_; clear hb hbox hg) | ((with_reducible refine gate_callee (f := 86) rfl ?_); refine goesL_ (some 13) rfl rfl Try.func86 (by kernel_rfl) rfl #[.string a0, .int .u8 46] rfl (by (try simp only [List.map_toArray, List.map_cons, List.map_nil]); rfl) ?_; (with_reducible refine (impl_cut.calls k a0 46 t247 _ A2.out).mono ?_); rintro e w16 ⟨v248, rfl, ho0, hb⟩; refine ⟨_, rfl, ?_⟩; have n0_ := Aside0.mk (Kd.R_lower ho0 (below_size HB.out)); have n1_ := Aside0.mk (blk_below (g := gb246) (o := .cells #[.int .i64 0, .int .i64 0, .int .i64 0] 114 (0, 0)) BK246.out hb); have n2_ := Aside0.mk (below_step HB.out hb); clear BK246; clear HB; have HO249 := n0_; have BK246 := n1_; have HB := n2_; clear n0_ n1_ n2_; (try clear hb); (try clear hb2); (try clear hk); (try clear hi); (try clear ho0); obtain ⟨Ao17, co17, eo17⟩ := Kd.R_slice HO249.out; subst eo17; have p250 : 0 ≤ (0 : Int) := (by omega); have q250 : 0 < (t247.length : Int) := of_decide_eq_true (by (with_reducible assumption)); obtain ⟨ad250, e250, hx250_0⟩ := Kd.at_string (Kd.R_reads' HO249.out).2.2 0 p250 q250; cases e250; have qi250 : (0 < t247.length) = True := eq_true (by omega); (try rw [show ((0 : Int)).toNat = 0 from rfl] at hx250_0); (try rw [Addr.add_zero'] at hx250_0); replace p250 := eq_true p250; replace q250 := eq_true q250) | ((with_reducible refine gate_callee (f := 87) rfl ?_); refine goesL_ (some 22) rfl rfl Try.func87 (by kernel_rfl) rfl #[.string (rdOf ByteArray.empty t247 0)] rfl (by (try simp only [List.map_toArray, List.map_cons, List.map_nil]); rfl) ?_; (with_reducible refine (impl_ParseInt.calls k (rdOf ByteArray.empty t247 0) t251 true _ A5.out).mono ?_); rintro e w18 ⟨rfl, hb⟩; refine ⟨_, rfl, ?_⟩; have n0_ := Aside0.mk (Kd.R_below HO249.out hb); have n1_ := Aside0.mk (blk_below (g := gb246) (o := .cells #[.int .i64 0, .int .i64 0, .int .i64 0] 114 (0, 0)) BK246.out hb); have n2_ := Aside0.mk (below_step HB.out hb); clear HO249; clear BK246; clear HB; have HO249 := n0_; have BK246 := n1_; have HB := n2_; clear n0_ n1_ n2_; (try clear hb); (try clear hb2); (try clear hk); (try clear hi); have p253 : 0 ≤ (1 : Int) := (by omega); have q253 : 1 < (t247.length : Int) := of_decide_eq_true (by (with_reducible assumption)); obtain ⟨ad253, e253, hx253_0⟩ := Kd.at_string (Kd.R_reads' HO249.out).2.2 1 p253 q253; obtain rfl : ad250 = ad253 := (by injection e253); (try simp only [show (1 : Int).toNat = 1 from rfl, Nat.reduceMul, Nat.reduceEqDiff, Go.Addr.add, ↓reduceIte] at hx253_0); have qi253 : (1 < t247.length) = True := eq_true (by omega); (try rw [show ((1 : Int)).toNat = 1 from rfl] at hx253_0); replace p253 := eq_true p253; replace q253 := eq_true q253) | ((with_reducible refine gate_callee (f := 87) rfl ?_); refine goesL_ (some 29) rfl rfl Try.func87 (by kernel_rfl) rfl #[.string (rdOf ByteArray.empty t247 1)] rfl (by (try simp only [List.map_toArray, List.map_cons, List.map_nil]); rfl) ?_; (with_reducible refine (impl_ParseInt.calls k (rdOf ByteArray.empty t247 1) t254 true _ A7.out).mono ?_); rintro e w19 ⟨rfl, hb⟩; refine ⟨_, rfl, ?_⟩; have n0_ := Aside0.mk (Kd.R_below HO249.out hb); have n1_ := Aside0.mk (blk_below (g := gb246) (o := .cells #[.int .i64 0, .int .i64 0, .int .i64 0] 114 (0, 0)) BK246.out hb); have n2_ := Aside0.mk (below_step HB.out hb); clear HO249; clear BK246; clear HB; have HO249 := n0_; have BK246 := n1_; have HB := n2_; clear n0_ n1_ n2_; (try clear hb); (try clear hb2); (try clear hk); (try clear hi); have p256 : 0 ≤ (2 : Int) := (by omega); have q256 : 2 < (t247.length : Int) := of_decide_eq_true (by (with_reducible assumption)); obtain ⟨ad256, e256, hx256_0⟩ := Kd.at_string (Kd.R_reads' HO249.out).2.2 2 p256 q256; obtain rfl : ad250 = ad256 := (by injection e256); (try simp only [show (2 : Int).toNat = 2 from rfl, Nat.reduceMul, Nat.reduceEqDiff, Go.Addr.add, ↓reduceIte] at hx256_0); have qi256 : (2 < t247.length) = True := eq_true (by omega); (try rw [show ((2 : Int)).toNat = 2 from rfl] at hx256_0); replace p256 := eq_true p256; replace q256 := eq_true q256) | ((with_reducible refine gate_callee (f := 87) rfl ?_); refine goesL_ (some 36) rfl rfl Try.func87 (by kernel_rfl) rfl #[.string (rdOf ByteArray.empty t247 2)] rfl (by (try simp only [List.map_toArray, List.map_cons, List.map_nil]); rfl) ?_; (with_reducible refine (impl_ParseInt.calls k (rdOf ByteArray.empty t247 2) t257 true _ A9.out).mono ?_); rintro e w20 ⟨rfl, hb⟩; refine ⟨_, rfl, ?_⟩; have n0_ := Aside0.mk (Kd.R_below HO249.out hb); have n1_ := Aside0.mk (blk_below (g := gb246) (o := .cells #[.int .i64 0, .int .i64 0, .int .i64 0] 114 (0, 0)) BK246.out hb); have n2_ := Aside0.mk (below_step HB.out hb); clear HO249; clear BK246; clear HB; have HO249 := n0_; have BK246 := n1_; have HB := n2_; clear n0_ n1_ n2_; (try clear hb); (try clear hb2); (try clear hk); (try clear hi)) | ((with_reducible refine gate_dst (N := 11) rfl ?_); refine box_event ?hg (N := 11) ?hd (cs := #[.int .i64 0, .int .i64 0, .int .i64 0]) (t := 114) ?hr ?_; (case hd => rfl); (case hg => rfl); (case hr => (go_simp; done)); intro gb259 hg w21 hbox hb; have n0_ := Aside0.mk (Kd.R_below HO249.out hb); have n1_ := Aside0.mk (blk_below (g := gb246) (o := .cells #[.int .i64 0, .int .i64 0, .int .i64 0] 114 (0, 0)) BK246.out hb); have n2_ := Aside0.mk (below_step HB.out hb); have n3_ := Aside0.mk (hbox); have n4_ := Aside0.mk ((by rw [hg]; exact (below_size HB.out) : w.heap.size ≤ gb259)); have n5_ := Aside0.mk ((by rw [hg]; exact (below_size HB.out) : w.heap.size ≤ gb259)); have n6_ := Aside0.mk ((by rw [hg]; exact Nat.ne_of_lt (blk_lt (g := gb246) (o := .cells #[.int .i64 0, .int .i64 0, .int .i64 0] 114 (0, 0)) BK246.out) : gb246 ≠ gb259)); have n7_ := Aside0.mk ((by rw [hg]; exact Nat.ne_of_gt (blk_lt (g := gb246) (o := .cells #[.int .i64 0, .int .i64 0, .int .i64 0] 114 (0, 0)) BK246.out) : gb259 ≠ gb246)); clear HO249; clear BK246; clear HB; have HO249 := n0_; have BK246 := n1_; have HB := n2_; have BK259 := n3_; have GW259 := n4_; have GE259 := n5_; have NB246_259 := n6_; have NB259_246 := n7_; clear n0_ n1_ n2_ n3_ n4_ n5_ n6_ n7_; clear hb hbox hg; have hnb22 := NB259_246.out; have hnc22 := NB246_259.out; have hcz23_0 : w21.cell? ⟨gb259, 0, none⟩ = some (.int .i64 0) := (blk_cell BK259.out 0).trans rfl; have hcz23_1 : w21.cell? ⟨gb259, 1, none⟩ = some (.int .i64 0) := (blk_cell BK259.out 1).trans rfl; have hcz23_2 : w21.cell? ⟨gb259, 2, none⟩ = some (.int .i64 0) := (blk_cell BK259.out 2).trans rfl; have hfz23_0 := blk_frozen BK259.out 0; have hfz23_1 := blk_frozen BK259.out 1; have hfz23_2 := blk_frozen BK259.out 2) | (go_at_call 161; (with_reducible refine (impl_IsValidRow.calls t251 t254 t257 true _ A13.out).mono ?_); rintro e w24 ⟨rfl, hb⟩; have n0_ := Aside0.mk (Kd.R_below (by exact (Kd.R_mono (Kd.R_far (p := ⟨gb259, 2, none⟩) (Kd.R_far (p := ⟨gb259, 1, none⟩) (Kd.R_far (p := ⟨gb259, 0, none⟩) (Kd.R_types HO249.out BK259.out (by decide)) (fun _ hk => hk.2) (.int .i64 t251)) (fun _ hk => hk.2) (.int .i64 t254)) (fun _ hk => hk.2) (.int .i64 t257)) (fun _ h_ => h_.1))) hb); have n1_ := Aside0.mk (blk_below (g := gb246) (o := .cells #[.int .i64 0, .int .i64 0, .int .i64 0] 114 (0, 0)) (by refine blk_far ?_ NB246_259.out _; refine blk_far ?_ NB246_259.out _; refine blk_far ?_ NB246_259.out _; exact BK246.out) hb); have n2_ := Aside0.mk (blk_below (g := gb259) (o := .cells #[.int .i64 t251, .int .i64 t254, .int .i64 t257] 114 (0, 0)) (by refine blk_put (cs := #[.int .i64 t251, .int .i64 t254, .int .i64 0]) ?_ 2 _ rfl; refine blk_put (cs := #[.int .i64 t251, .int .i64 0, .int .i64 0]) ?_ 1 _ rfl; refine blk_put (cs := #[.int .i64 0, .int .i64 0, .int .i64 0]) ?_ 0 _ rfl; exact BK259.out) hb); have n3_ := Aside0.mk (below_step (by repeat (with_reducible first | exact HB.out | refine below_set ?_ GE259.out)) hb); clear HO249; clear BK246; clear BK259; clear HB; have HO249 := n0_; have BK246 := n1_; have BK259 := n2_; have HB := n3_; clear n0_ n1_ n2_ n3_; (try clear hb); (try clear hb2); (try clear hk); (try clear hi); have hcz25_0 : w24.cell? ⟨gb259, 0, none⟩ = some (.int .i64 t251) := (blk_cell BK259.out 0).trans rfl; have hcz25_1 : w24.cell? ⟨gb259, 1, none⟩ = some (.int .i64 t254) := (blk_cell BK259.out 1).trans rfl; have hcz25_2 : w24.cell? ⟨gb259, 2, none⟩ = some (.int .i64 t257) := (blk_cell BK259.out 2).trans rfl; have hfz25_0 := blk_frozen BK259.out 0; have hfz25_1 := blk_frozen BK259.out 1; have hfz25_2 := blk_frozen BK259.out 2; have hcz26_0 : w24.cell? ⟨gb246, 0, none⟩ = some (.int .i64 0) := (blk_cell BK246.out 0).trans rfl; have hcz26_1 : w24.cell? ⟨gb246, 1, none⟩ = some (.int .i64 0) := (blk_cell BK246.out 1).trans rfl; have hcz26_2 : w24.cell? ⟨gb246, 2, none⟩ = some (.int .i64 0) := (blk_cell BK246.out 2).trans rfl; have hfz26_0 := blk_frozen BK246.out 0; have hfz26_1 := blk_frozen BK246.out 1; have hfz26_2 := blk_frozen BK246.out 2))
         refine bodyPost_ret (results_ct rfl _ _ gb246 114 #[.int .i64 t251, .int .i64 t254, .int .i64 t257] (0, 0) _ rfl (by refine blk_put (cs := #[.int .i64 t251, .int .i64 t254, .int .i64 0]) ?_ 2 _ rfl; refine blk_put (cs := #[.int .i64 t251, .int .i64 0, .int .i64 0]) ?_ 1 _ rfl; refine blk_put (cs := #[.int .i64 0, .int .i64 0, .int .i64 0]) ?_ 0 _ rfl; exact BK246.out) Try.underlying114 rfl (by kernel_rfl)) rfl ?_
         exact ⟨rfl, by repeat ((with_reducible first | exact HB.out | refine below_set ?_ GE246.out))⟩
        ·replace c14 := Bool.eq_false_iff.mpr c14
         subst c14
         rw [if_neg (show ¬ (false = true) by decide)] at H
         simp only [Option.some.injEq, Prod.mk.injEq] at H
         obtain ⟨rfl, rfl, rfl, rfl⟩ := H
         go_enter Try.func138, Try.ntmps138
         go_wp2_with (first | ((with_reducible refine gate_dst (N := 2) rfl ?_); refine box_event ?hg (N := 2) ?hd (cs := #[.int .i64 0, .int .i64 0, .int .i64 0]) (t := 114) ?hr ?_; (case hd => rfl); (case hg => rfl); (case hr => (go_simp; done)); intro gb246 hg w27 hbox hb; have n0_ := Aside0.mk (below_step HB.out hb); have n1_ := Aside0.mk (hbox); have n2_ := Aside0.mk ((by rw [hg]; exact (below_size HB.out) : w.heap.size ≤ gb246)); have n3_ := Aside0.mk ((by rw [hg]; exact (below_size HB.out) : w.heap.size ≤ gb246)); clear HB; have HB := n0_; have BK246 := n1_; have GW246 := n2_; have GE246 := n3_; clear n0_ n1_ n2_ n3_; clear hb hbox hg) | ((with_reducible refine gate_callee (f := 86) rfl ?_); refine goesL_ (some 13) rfl rfl Try.func86 (by kernel_rfl) rfl #[.string a0, .int .u8 46] rfl (by (try simp only [List.map_toArray, List.map_cons, List.map_nil]); rfl) ?_; (with_reducible refine (impl_cut.calls k a0 46 t247 _ A2.out).mono ?_); rintro e w28 ⟨v248, rfl, ho0, hb⟩; refine ⟨_, rfl, ?_⟩; have n0_ := Aside0.mk (Kd.R_lower ho0 (below_size HB.out)); have n1_ := Aside0.mk (blk_below (g := gb246) (o := .cells #[.int .i64 0, .int .i64 0, .int .i64 0] 114 (0, 0)) BK246.out hb); have n2_ := Aside0.mk (below_step HB.out hb); clear BK246; clear HB; have HO249 := n0_; have BK246 := n1_; have HB := n2_; clear n0_ n1_ n2_; (try clear hb); (try clear hb2); (try clear hk); (try clear hi); (try clear ho0); obtain ⟨Ao29, co29, eo29⟩ := Kd.R_slice HO249.out; subst eo29; have p250 : 0 ≤ (0 : Int) := (by omega); have q250 : 0 < (t247.length : Int) := of_decide_eq_true (by (with_reducible assumption)); obtain ⟨ad250, e250, hx250_0⟩ := Kd.at_string (Kd.R_reads' HO249.out).2.2 0 p250 q250; cases e250; have qi250 : (0 < t247.length) = True := eq_true (by omega); (try rw [show ((0 : Int)).toNat = 0 from rfl] at hx250_0); (try rw [Addr.add_zero'] at hx250_0); replace p250 := eq_true p250; replace q250 := eq_true q250) | ((with_reducible refine gate_callee (f := 87) rfl ?_); refine goesL_ (some 22) rfl rfl Try.func87 (by kernel_rfl) rfl #[.string (rdOf ByteArray.empty t247 0)] rfl (by (try simp only [List.map_toArray, List.map_cons, List.map_nil]); rfl) ?_; (with_reducible refine (impl_ParseInt.calls k (rdOf ByteArray.empty t247 0) t251 true _ A5.out).mono ?_); rintro e w30 ⟨rfl, hb⟩; refine ⟨_, rfl, ?_⟩; have n0_ := Aside0.mk (Kd.R_below HO249.out hb); have n1_ := Aside0.mk (blk_below (g := gb246) (o := .cells #[.int .i64 0, .int .i64 0, .int .i64 0] 114 (0, 0)) BK246.out hb); have n2_ := Aside0.mk (below_step HB.out hb); clear HO249; clear BK246; clear HB; have HO249 := n0_; have BK246 := n1_; have HB := n2_; clear n0_ n1_ n2_; (try clear hb); (try clear hb2); (try clear hk); (try clear hi); have p253 : 0 ≤ (1 : Int) := (by omega); have q253 : 1 < (t247.length : Int) := of_decide_eq_true (by (with_reducible assumption)); obtain ⟨ad253, e253, hx253_0⟩ := Kd.at_string (Kd.R_reads' HO249.out).2.2 1 p253 q253; obtain rfl : ad250 = ad253 := (by injection e253); (try simp only [show (1 : Int).toNat = 1 from rfl, Nat.reduceMul, Nat.reduceEqDiff, Go.Addr.add, ↓reduceIte] at hx253_0); have qi253 : (1 < t247.length) = True := eq_true (by omega); (try rw [show ((1 : Int)).toNat = 1 from rfl] at hx253_0); replace p253 := eq_true p253; replace q253 := eq_true q253) | ((with_reducible refine gate_callee (f := 87) rfl ?_); refine goesL_ (some 29) rfl rfl Try.func87 (by kernel_rfl) rfl #[.string (rdOf ByteArray.empty t247 1)] rfl (by (try simp only [List.map_toArray, List.map_cons, List.map_nil]); rfl) ?_; (with_reducible refine (impl_ParseInt.calls k (rdOf ByteArray.empty t247 1) t254 true _ A7.out).mono ?_); rintro e w31 ⟨rfl, hb⟩; refine ⟨_, rfl, ?_⟩; have n0_ := Aside0.mk (Kd.R_below HO249.out hb); have n1_ := Aside0.mk (blk_below (g := gb246) (o := .cells #[.int .i64 0, .int .i64 0, .int .i64 0] 114 (0, 0)) BK246.out hb); have n2_ := Aside0.mk (below_step HB.out hb); clear HO249; clear BK246; clear HB; have HO249 := n0_; have BK246 := n1_; have HB := n2_; clear n0_ n1_ n2_; (try clear hb); (try clear hb2); (try clear hk); (try clear hi); have p256 : 0 ≤ (2 : Int) := (by omega); have q256 : 2 < (t247.length : Int) := of_decide_eq_true (by (with_reducible assumption)); obtain ⟨ad256, e256, hx256_0⟩ := Kd.at_string (Kd.R_reads' HO249.out).2.2 2 p256 q256; obtain rfl : ad250 = ad256 := (by injection e256); (try simp only [show (2 : Int).toNat = 2 from rfl, Nat.reduceMul, Nat.reduceEqDiff, Go.Addr.add, ↓reduceIte] at hx256_0); have qi256 : (2 < t247.length) = True := eq_true (by omega); (try rw [show ((2 : Int)).toNat = 2 from rfl] at hx256_0); replace p256 := eq_true p256; replace q256 := eq_true q256) | ((with_reducible refine gate_callee (f := 87) rfl ?_); refine goesL_ (some 36) rfl rfl Try.func87 (by kernel_rfl) rfl #[.string (rdOf ByteArray.empty t247 2)] rfl (by (try simp only [List.map_toArray, List.map_cons, List.map_nil]); rfl) ?_; (with_reducible refine (impl_ParseInt.calls k (rdOf ByteArray.empty t247 2) t257 true _ A9.out).mono ?_); rintro e w32 ⟨rfl, hb⟩; refine ⟨_, rfl, ?_⟩; have n0_ := Aside0.mk (Kd.R_below HO249.out hb); have n1_ := Aside0.mk (blk_below (g := gb246) (o := .cells #[.int .i64 0, .int .i64 0, .int .i64 0] 114 (0, 0)) BK246.out hb); have n2_ := Aside0.mk (below_step HB.out hb); clear HO249; clear BK246; clear HB; have HO249 := n0_; have BK246 := n1_; have HB := n2_; clear n0_ n1_ n2_; (try clear hb); (try clear hb2); (try clear hk); (try clear hi)) | ((with_reducible refine gate_dst (N := 11) rfl ?_); refine box_event ?hg (N := 11) ?hd (cs := #[.int .i64 0, .int .i64 0, .int .i64 0]) (t := 114) ?hr ?_; (case hd => rfl); (case hg => rfl); (case hr => (go_simp; done)); intro gb259 hg w33 hbox hb; have n0_ := Aside0.mk (Kd.R_below HO249.out hb); have n1_ := Aside0.mk (blk_below (g := gb246) (o := .cells #[.int .i64 0, .int .i64 0, .int .i64 0] 114 (0, 0)) BK246.out hb); have n2_ := Aside0.mk (below_step HB.out hb); have n3_ := Aside0.mk (hbox); have n4_ := Aside0.mk ((by rw [hg]; exact (below_size HB.out) : w.heap.size ≤ gb259)); have n5_ := Aside0.mk ((by rw [hg]; exact (below_size HB.out) : w.heap.size ≤ gb259)); have n6_ := Aside0.mk ((by rw [hg]; exact Nat.ne_of_lt (blk_lt (g := gb246) (o := .cells #[.int .i64 0, .int .i64 0, .int .i64 0] 114 (0, 0)) BK246.out) : gb246 ≠ gb259)); have n7_ := Aside0.mk ((by rw [hg]; exact Nat.ne_of_gt (blk_lt (g := gb246) (o := .cells #[.int .i64 0, .int .i64 0, .int .i64 0] 114 (0, 0)) BK246.out) : gb259 ≠ gb246)); clear HO249; clear BK246; clear HB; have HO249 := n0_; have BK246 := n1_; have HB := n2_; have BK259 := n3_; have GW259 := n4_; have GE259 := n5_; have NB246_259 := n6_; have NB259_246 := n7_; clear n0_ n1_ n2_ n3_ n4_ n5_ n6_ n7_; clear hb hbox hg; have hnb34 := NB259_246.out; have hnc34 := NB246_259.out; have hcz35_0 : w33.cell? ⟨gb259, 0, none⟩ = some (.int .i64 0) := (blk_cell BK259.out 0).trans rfl; have hcz35_1 : w33.cell? ⟨gb259, 1, none⟩ = some (.int .i64 0) := (blk_cell BK259.out 1).trans rfl; have hcz35_2 : w33.cell? ⟨gb259, 2, none⟩ = some (.int .i64 0) := (blk_cell BK259.out 2).trans rfl; have hfz35_0 := blk_frozen BK259.out 0; have hfz35_1 := blk_frozen BK259.out 1; have hfz35_2 := blk_frozen BK259.out 2) | (go_at_call 161; (with_reducible refine (impl_IsValidRow.calls t251 t254 t257 false _ A13.out).mono ?_); rintro e w36 ⟨rfl, hb⟩; have n0_ := Aside0.mk (Kd.R_below (by exact (Kd.R_mono (Kd.R_far (p := ⟨gb259, 2, none⟩) (Kd.R_far (p := ⟨gb259, 1, none⟩) (Kd.R_far (p := ⟨gb259, 0, none⟩) (Kd.R_types HO249.out BK259.out (by decide)) (fun _ hk => hk.2) (.int .i64 t251)) (fun _ hk => hk.2) (.int .i64 t254)) (fun _ hk => hk.2) (.int .i64 t257)) (fun _ h_ => h_.1))) hb); have n1_ := Aside0.mk (blk_below (g := gb246) (o := .cells #[.int .i64 0, .int .i64 0, .int .i64 0] 114 (0, 0)) (by refine blk_far ?_ NB246_259.out _; refine blk_far ?_ NB246_259.out _; refine blk_far ?_ NB246_259.out _; exact BK246.out) hb); have n2_ := Aside0.mk (blk_below (g := gb259) (o := .cells #[.int .i64 t251, .int .i64 t254, .int .i64 t257] 114 (0, 0)) (by refine blk_put (cs := #[.int .i64 t251, .int .i64 t254, .int .i64 0]) ?_ 2 _ rfl; refine blk_put (cs := #[.int .i64 t251, .int .i64 0, .int .i64 0]) ?_ 1 _ rfl; refine blk_put (cs := #[.int .i64 0, .int .i64 0, .int .i64 0]) ?_ 0 _ rfl; exact BK259.out) hb); have n3_ := Aside0.mk (below_step (by repeat (with_reducible first | exact HB.out | refine below_set ?_ GE259.out)) hb); clear HO249; clear BK246; clear BK259; clear HB; have HO249 := n0_; have BK246 := n1_; have BK259 := n2_; have HB := n3_; clear n0_ n1_ n2_ n3_; (try clear hb); (try clear hb2); (try clear hk); (try clear hi); have hcz37_0 : w36.cell? ⟨gb246, 0, none⟩ = some (.int .i64 0) := (blk_cell BK246.out 0).trans rfl; have hcz37_1 : w36.cell? ⟨gb246, 1, none⟩ = some (.int .i64 0) := (blk_cell BK246.out 1).trans rfl; have hcz37_2 : w36.cell? ⟨gb246, 2, none⟩ = some (.int .i64 0) := (blk_cell BK246.out 2).trans rfl; have hfz37_0 := blk_frozen BK246.out 0; have hfz37_1 := blk_frozen BK246.out 1; have hfz37_2 := blk_frozen BK246.out 2))
         refine bodyPost_ret (results_ct rfl _ _ gb246 114 #[.int .i64 0, .int .i64 0, .int .i64 0] (0, 0) _ rfl (by refine blk_put (cs := #[.int .i64 0, .int .i64 0, .int .i64 0]) ?_ 2 _ rfl; refine blk_put (cs := #[.int .i64 0, .int .i64 0, .int .i64 0]) ?_ 1 _ rfl; refine blk_put (cs := #[.int .i64 0, .int .i64 0, .int .i64 0]) ?_ 0 _ rfl; exact BK246.out) Try.underlying114 rfl (by kernel_rfl)) rfl ?_
         exact ⟨rfl, by repeat ((with_reducible first | exact HB.out | refine below_set ?_ GE246.out))⟩
       ·replace c12 := Bool.eq_false_iff.mpr c12
        subst c12
        rw [if_neg (show ¬ (false = true) by decide)] at H
        simp only [Option.some.injEq, Prod.mk.injEq] at H
        obtain ⟨rfl, rfl, rfl, rfl⟩ := H
        go_enter Try.func138, Try.ntmps138
        go_wp2_with (first | ((with_reducible refine gate_dst (N := 2) rfl ?_); refine box_event ?hg (N := 2) ?hd (cs := #[.int .i64 0, .int .i64 0, .int .i64 0]) (t := 114) ?hr ?_; (case hd => rfl); (case hg => rfl); (case hr => (go_simp; done)); intro gb246 hg w38 hbox hb; have n0_ := Aside0.mk (below_step HB.out hb); have n1_ := Aside0.mk (hbox); have n2_ := Aside0.mk ((by rw [hg]; exact (below_size HB.out) : w.heap.size ≤ gb246)); have n3_ := Aside0.mk ((by rw [hg]; exact (below_size HB.out) : w.heap.size ≤ gb246)); clear HB; have HB := n0_; have BK246 := n1_; have GW246 := n2_; have GE246 := n3_; clear n0_ n1_ n2_ n3_; clear hb hbox hg) | ((with_reducible refine gate_callee (f := 86) rfl ?_); refine goesL_ (some 13) rfl rfl Try.func86 (by kernel_rfl) rfl #[.string a0, .int .u8 46] rfl (by (try simp only [List.map_toArray, List.map_cons, List.map_nil]); rfl) ?_; (with_reducible refine (impl_cut.calls k a0 46 t247 _ A2.out).mono ?_); rintro e w39 ⟨v248, rfl, ho0, hb⟩; refine ⟨_, rfl, ?_⟩; have n0_ := Aside0.mk (Kd.R_lower ho0 (below_size HB.out)); have n1_ := Aside0.mk (blk_below (g := gb246) (o := .cells #[.int .i64 0, .int .i64 0, .int .i64 0] 114 (0, 0)) BK246.out hb); have n2_ := Aside0.mk (below_step HB.out hb); clear BK246; clear HB; have HO249 := n0_; have BK246 := n1_; have HB := n2_; clear n0_ n1_ n2_; (try clear hb); (try clear hb2); (try clear hk); (try clear hi); (try clear ho0); obtain ⟨Ao40, co40, eo40⟩ := Kd.R_slice HO249.out; subst eo40; have p250 : 0 ≤ (0 : Int) := (by omega); have q250 : 0 < (t247.length : Int) := of_decide_eq_true (by (with_reducible assumption)); obtain ⟨ad250, e250, hx250_0⟩ := Kd.at_string (Kd.R_reads' HO249.out).2.2 0 p250 q250; cases e250; have qi250 : (0 < t247.length) = True := eq_true (by omega); (try rw [show ((0 : Int)).toNat = 0 from rfl] at hx250_0); (try rw [Addr.add_zero'] at hx250_0); replace p250 := eq_true p250; replace q250 := eq_true q250) | ((with_reducible refine gate_callee (f := 87) rfl ?_); refine goesL_ (some 22) rfl rfl Try.func87 (by kernel_rfl) rfl #[.string (rdOf ByteArray.empty t247 0)] rfl (by (try simp only [List.map_toArray, List.map_cons, List.map_nil]); rfl) ?_; (with_reducible refine (impl_ParseInt.calls k (rdOf ByteArray.empty t247 0) t251 true _ A5.out).mono ?_); rintro e w41 ⟨rfl, hb⟩; refine ⟨_, rfl, ?_⟩; have n0_ := Aside0.mk (Kd.R_below HO249.out hb); have n1_ := Aside0.mk (blk_below (g := gb246) (o := .cells #[.int .i64 0, .int .i64 0, .int .i64 0] 114 (0, 0)) BK246.out hb); have n2_ := Aside0.mk (below_step HB.out hb); clear HO249; clear BK246; clear HB; have HO249 := n0_; have BK246 := n1_; have HB := n2_; clear n0_ n1_ n2_; (try clear hb); (try clear hb2); (try clear hk); (try clear hi); have p253 : 0 ≤ (1 : Int) := (by omega); have q253 : 1 < (t247.length : Int) := of_decide_eq_true (by (with_reducible assumption)); obtain ⟨ad253, e253, hx253_0⟩ := Kd.at_string (Kd.R_reads' HO249.out).2.2 1 p253 q253; obtain rfl : ad250 = ad253 := (by injection e253); (try simp only [show (1 : Int).toNat = 1 from rfl, Nat.reduceMul, Nat.reduceEqDiff, Go.Addr.add, ↓reduceIte] at hx253_0); have qi253 : (1 < t247.length) = True := eq_true (by omega); (try rw [show ((1 : Int)).toNat = 1 from rfl] at hx253_0); replace p253 := eq_true p253; replace q253 := eq_true q253) | ((with_reducible refine gate_callee (f := 87) rfl ?_); refine goesL_ (some 29) rfl rfl Try.func87 (by kernel_rfl) rfl #[.string (rdOf ByteArray.empty t247 1)] rfl (by (try simp only [List.map_toArray, List.map_cons, List.map_nil]); rfl) ?_; (with_reducible refine (impl_ParseInt.calls k (rdOf ByteArray.empty t247 1) t254 true _ A7.out).mono ?_); rintro e w42 ⟨rfl, hb⟩; refine ⟨_, rfl, ?_⟩; have n0_ := Aside0.mk (Kd.R_below HO249.out hb); have n1_ := Aside0.mk (blk_below (g := gb246) (o := .cells #[.int .i64 0, .int .i64 0, .int .i64 0] 114 (0, 0)) BK246.out hb); have n2_ := Aside0.mk (below_step HB.out hb); clear HO249; clear BK246; clear HB; have HO249 := n0_; have BK246 := n1_; have HB := n2_; clear n0_ n1_ n2_; (try clear hb); (try clear hb2); (try clear hk); (try clear hi); have p256 : 0 ≤ (2 : Int) := (by omega); have q256 : 2 < (t247.length : Int) := of_decide_eq_true (by (with_reducible assumption)); obtain ⟨ad256, e256, hx256_0⟩ := Kd.at_string (Kd.R_reads' HO249.out).2.2 2 p256 q256; obtain rfl : ad250 = ad256 := (by injection e256); (try simp only [show (2 : Int).toNat = 2 from rfl, Nat.reduceMul, Nat.reduceEqDiff, Go.Addr.add, ↓reduceIte] at hx256_0); have qi256 : (2 < t247.length) = True := eq_true (by omega); (try rw [show ((2 : Int)).toNat = 2 from rfl] at hx256_0); replace p256 := eq_true p256; replace q256 := eq_true q256) | ((with_reducible refine gate_callee (f := 87) rfl ?_); refine goesL_ (some 36) rfl rfl Try.func87 (by kernel_rfl) rfl #[.string (rdOf ByteArray.empty t247 2)] rfl (by (try simp only [List.map_toArray, List.map_cons, List.map_nil]); rfl) ?_; (with_reducible refine (impl_ParseInt.calls k (rdOf ByteArray.empty t247 2) t257 false _ A9.out).mono ?_); rintro e w43 ⟨rfl, hb⟩; refine ⟨_, rfl, ?_⟩; have n0_ := Aside0.mk (Kd.R_below HO249.out hb); have n1_ := Aside0.mk (blk_below (g := gb246) (o := .cells #[.int .i64 0, .int .i64 0, .int .i64 0] 114 (0, 0)) BK246.out hb); have n2_ := Aside0.mk (below_step HB.out hb); clear HO249; clear BK246; clear HB; have HO249 := n0_; have BK246 := n1_; have HB := n2_; clear n0_ n1_ n2_; (try clear hb); (try clear hb2); (try clear hk); (try clear hi)) | ((with_reducible refine gate_dst (N := 11) rfl ?_); refine box_event ?hg (N := 11) ?hd (cs := #[.int .i64 0, .int .i64 0, .int .i64 0]) (t := 114) ?hr ?_; (case hd => rfl); (case hg => rfl); (case hr => (go_simp; done)); intro gb259 hg w44 hbox hb; have n0_ := Aside0.mk (Kd.R_below HO249.out hb); have n1_ := Aside0.mk (blk_below (g := gb246) (o := .cells #[.int .i64 0, .int .i64 0, .int .i64 0] 114 (0, 0)) BK246.out hb); have n2_ := Aside0.mk (below_step HB.out hb); have n3_ := Aside0.mk (hbox); have n4_ := Aside0.mk ((by rw [hg]; exact (below_size HB.out) : w.heap.size ≤ gb259)); have n5_ := Aside0.mk ((by rw [hg]; exact (below_size HB.out) : w.heap.size ≤ gb259)); have n6_ := Aside0.mk ((by rw [hg]; exact Nat.ne_of_lt (blk_lt (g := gb246) (o := .cells #[.int .i64 0, .int .i64 0, .int .i64 0] 114 (0, 0)) BK246.out) : gb246 ≠ gb259)); have n7_ := Aside0.mk ((by rw [hg]; exact Nat.ne_of_gt (blk_lt (g := gb246) (o := .cells #[.int .i64 0, .int .i64 0, .int .i64 0] 114 (0, 0)) BK246.out) : gb259 ≠ gb246)); clear HO249; clear BK246; clear HB; have HO249 := n0_; have BK246 := n1_; have HB := n2_; have BK259 := n3_; have GW259 := n4_; have GE259 := n5_; have NB246_259 := n6_; have NB259_246 := n7_; clear n0_ n1_ n2_ n3_ n4_ n5_ n6_ n7_; clear hb hbox hg; have hnb45 := NB259_246.out; have hnc45 := NB246_259.out; have hcz46_0 : w44.cell? ⟨gb259, 0, none⟩ = some (.int .i64 0) := (blk_cell BK259.out 0).trans rfl; have hcz46_1 : w44.cell? ⟨gb259, 1, none⟩ = some (.int .i64 0) := (blk_cell BK259.out 1).trans rfl; have hcz46_2 : w44.cell? ⟨gb259, 2, none⟩ = some (.int .i64 0) := (blk_cell BK259.out 2).trans rfl; have hfz46_0 := blk_frozen BK259.out 0; have hfz46_1 := blk_frozen BK259.out 1; have hfz46_2 := blk_frozen BK259.out 2; have hcz47_0 : w44.cell? ⟨gb246, 0, none⟩ = some (.int .i64 0) := (blk_cell BK246.out 0).trans rfl; have hcz47_1 : w44.cell? ⟨gb246, 1, none⟩ = some (.int .i64 0) := (blk_cell BK246.out 1).trans rfl; have hcz47_2 : w44.cell? ⟨gb246, 2, none⟩ = some (.int .i64 0) := (blk_cell BK246.out 2).trans rfl; have hfz47_0 := blk_frozen BK246.out 0; have hfz47_1 := blk_frozen BK246.out 1; have hfz47_2 := blk_frozen BK246.out 2))
        refine bodyPost_ret (results_ct rfl _ _ gb246 114 #[.int .i64 0, .int .i64 0, .int .i64 0] (0, 0) _ rfl (by refine blk_put (cs := #[.int .i64 0, .int .i64 0, .int .i64 0]) ?_ 2 _ rfl; refine blk_put (cs := #[.int .i64 0, .int .i64 0, .int .i64 0]) ?_ 1 _ rfl; refine blk_put (cs := #[.int .i64 0, .int .i64 0, .int .i64 0]) ?_ 0 _ rfl; refine blk_far ?_ NB246_259.out _; refine blk_far ?_ NB246_259.out _; refine blk_far ?_ NB246_259.out _; exact BK246.out) Try.underlying114 rfl (by kernel_rfl)) rfl ?_
        exact ⟨rfl, by repeat ((with_reducible first | exact HB.out | refine below_set ?_ GE246.out | refine below_set ?_ GE259.out))⟩
      ·replace c11 := Bool.eq_false_iff.mpr c11
       subst c11
       rw [if_neg (show ¬ (false = true) by decide)] at H
       simp only [Option.some.injEq, Prod.mk.injEq] at H
       obtain ⟨rfl, rfl, rfl, rfl⟩ := H
       go_enter Try.func138, Try.ntmps138
       go_wp2_with (first | ((with_reducible refine gate_dst (N := 2) rfl ?_); refine box_event ?hg (N := 2) ?hd (cs := #[.int .i64 0, .int .i64 0, .int .i64 0]) (t := 114) ?hr ?_; (case hd => rfl); (case hg => rfl); (case hr => (go_simp; done)); intro gb246 hg w48 hbox hb; have n0_ := Aside0.mk (below_step HB.out hb); have n1_ := Aside0.mk (hbox); have n2_ := Aside0.mk ((by rw [hg]; exact (below_size HB.out) : w.heap.size ≤ gb246)); have n3_ := Aside0.mk ((by rw [hg]; exact (below_size HB.out) : w.heap.size ≤ gb246)); clear HB; have HB := n0_; have BK246 := n1_; have GW246 := n2_; have GE246 := n3_; clear n0_ n1_ n2_ n3_; clear hb hbox hg) | ((with_reducible refine gate_callee (f := 86) rfl ?_); refine goesL_ (some 13) rfl rfl Try.func86 (by kernel_rfl) rfl #[.string a0, .int .u8 46] rfl (by (try simp only [List.map_toArray, List.map_cons, List.map_nil]); rfl) ?_; (with_reducible refine (impl_cut.calls k a0 46 t247 _ A2.out).mono ?_); rintro e w49 ⟨v248, rfl, ho0, hb⟩; refine ⟨_, rfl, ?_⟩; have n0_ := Aside0.mk (Kd.R_lower ho0 (below_size HB.out)); have n1_ := Aside0.mk (blk_below (g := gb246) (o := .cells #[.int .i64 0, .int .i64 0, .int .i64 0] 114 (0, 0)) BK246.out hb); have n2_ := Aside0.mk (below_step HB.out hb); clear BK246; clear HB; have HO249 := n0_; have BK246 := n1_; have HB := n2_; clear n0_ n1_ n2_; (try clear hb); (try clear hb2); (try clear hk); (try clear hi); (try clear ho0); obtain ⟨Ao50, co50, eo50⟩ := Kd.R_slice HO249.out; subst eo50; have p250 : 0 ≤ (0 : Int) := (by omega); have q250 : 0 < (t247.length : Int) := of_decide_eq_true (by (with_reducible assumption)); obtain ⟨ad250, e250, hx250_0⟩ := Kd.at_string (Kd.R_reads' HO249.out).2.2 0 p250 q250; cases e250; have qi250 : (0 < t247.length) = True := eq_true (by omega); (try rw [show ((0 : Int)).toNat = 0 from rfl] at hx250_0); (try rw [Addr.add_zero'] at hx250_0); replace p250 := eq_true p250; replace q250 := eq_true q250) | ((with_reducible refine gate_callee (f := 87) rfl ?_); refine goesL_ (some 22) rfl rfl Try.func87 (by kernel_rfl) rfl #[.string (rdOf ByteArray.empty t247 0)] rfl (by (try simp only [List.map_toArray, List.map_cons, List.map_nil]); rfl) ?_; (with_reducible refine (impl_ParseInt.calls k (rdOf ByteArray.empty t247 0) t251 true _ A5.out).mono ?_); rintro e w51 ⟨rfl, hb⟩; refine ⟨_, rfl, ?_⟩; have n0_ := Aside0.mk (Kd.R_below HO249.out hb); have n1_ := Aside0.mk (blk_below (g := gb246) (o := .cells #[.int .i64 0, .int .i64 0, .int .i64 0] 114 (0, 0)) BK246.out hb); have n2_ := Aside0.mk (below_step HB.out hb); clear HO249; clear BK246; clear HB; have HO249 := n0_; have BK246 := n1_; have HB := n2_; clear n0_ n1_ n2_; (try clear hb); (try clear hb2); (try clear hk); (try clear hi); have p253 : 0 ≤ (1 : Int) := (by omega); have q253 : 1 < (t247.length : Int) := of_decide_eq_true (by (with_reducible assumption)); obtain ⟨ad253, e253, hx253_0⟩ := Kd.at_string (Kd.R_reads' HO249.out).2.2 1 p253 q253; obtain rfl : ad250 = ad253 := (by injection e253); (try simp only [show (1 : Int).toNat = 1 from rfl, Nat.reduceMul, Nat.reduceEqDiff, Go.Addr.add, ↓reduceIte] at hx253_0); have qi253 : (1 < t247.length) = True := eq_true (by omega); (try rw [show ((1 : Int)).toNat = 1 from rfl] at hx253_0); replace p253 := eq_true p253; replace q253 := eq_true q253) | ((with_reducible refine gate_callee (f := 87) rfl ?_); refine goesL_ (some 29) rfl rfl Try.func87 (by kernel_rfl) rfl #[.string (rdOf ByteArray.empty t247 1)] rfl (by (try simp only [List.map_toArray, List.map_cons, List.map_nil]); rfl) ?_; (with_reducible refine (impl_ParseInt.calls k (rdOf ByteArray.empty t247 1) t254 false _ A7.out).mono ?_); rintro e w52 ⟨rfl, hb⟩; refine ⟨_, rfl, ?_⟩; have n0_ := Aside0.mk (Kd.R_below HO249.out hb); have n1_ := Aside0.mk (blk_below (g := gb246) (o := .cells #[.int .i64 0, .int .i64 0, .int .i64 0] 114 (0, 0)) BK246.out hb); have n2_ := Aside0.mk (below_step HB.out hb); clear HO249; clear BK246; clear HB; have HO249 := n0_; have BK246 := n1_; have HB := n2_; clear n0_ n1_ n2_; (try clear hb); (try clear hb2); (try clear hk); (try clear hi); have p256 : 0 ≤ (2 : Int) := (by omega); have q256 : 2 < (t247.length : Int) := of_decide_eq_true (by (with_reducible assumption)); obtain ⟨ad256, e256, hx256_0⟩ := Kd.at_string (Kd.R_reads' HO249.out).2.2 2 p256 q256; obtain rfl : ad250 = ad256 := (by injection e256); (try simp only [show (2 : Int).toNat = 2 from rfl, Nat.reduceMul, Nat.reduceEqDiff, Go.Addr.add, ↓reduceIte] at hx256_0); have qi256 : (2 < t247.length) = True := eq_true (by omega); (try rw [show ((2 : Int)).toNat = 2 from rfl] at hx256_0); replace p256 := eq_true p256; replace q256 := eq_true q256) | ((with_reducible refine gate_callee (f := 87) rfl ?_); refine goesL_ (some 36) rfl rfl Try.func87 (by kernel_rfl) rfl #[.string (rdOf ByteArray.empty t247 2)] rfl (by (try simp only [List.map_toArray, List.map_cons, List.map_nil]); rfl) ?_; (with_reducible refine (impl_ParseInt.calls k (rdOf ByteArray.empty t247 2) t257 t258 _ A9.out).mono ?_); rintro e w53 ⟨rfl, hb⟩; refine ⟨_, rfl, ?_⟩; have n0_ := Aside0.mk (Kd.R_below HO249.out hb); have n1_ := Aside0.mk (blk_below (g := gb246) (o := .cells #[.int .i64 0, .int .i64 0, .int .i64 0] 114 (0, 0)) BK246.out hb); have n2_ := Aside0.mk (below_step HB.out hb); clear HO249; clear BK246; clear HB; have HO249 := n0_; have BK246 := n1_; have HB := n2_; clear n0_ n1_ n2_; (try clear hb); (try clear hb2); (try clear hk); (try clear hi)) | ((with_reducible refine gate_dst (N := 11) rfl ?_); refine box_event ?hg (N := 11) ?hd (cs := #[.int .i64 0, .int .i64 0, .int .i64 0]) (t := 114) ?hr ?_; (case hd => rfl); (case hg => rfl); (case hr => (go_simp; done)); intro gb259 hg w54 hbox hb; have n0_ := Aside0.mk (Kd.R_below HO249.out hb); have n1_ := Aside0.mk (blk_below (g := gb246) (o := .cells #[.int .i64 0, .int .i64 0, .int .i64 0] 114 (0, 0)) BK246.out hb); have n2_ := Aside0.mk (below_step HB.out hb); have n3_ := Aside0.mk (hbox); have n4_ := Aside0.mk ((by rw [hg]; exact (below_size HB.out) : w.heap.size ≤ gb259)); have n5_ := Aside0.mk ((by rw [hg]; exact (below_size HB.out) : w.heap.size ≤ gb259)); have n6_ := Aside0.mk ((by rw [hg]; exact Nat.ne_of_lt (blk_lt (g := gb246) (o := .cells #[.int .i64 0, .int .i64 0, .int .i64 0] 114 (0, 0)) BK246.out) : gb246 ≠ gb259)); have n7_ := Aside0.mk ((by rw [hg]; exact Nat.ne_of_gt (blk_lt (g := gb246) (o := .cells #[.int .i64 0, .int .i64 0, .int .i64 0] 114 (0, 0)) BK246.out) : gb259 ≠ gb246)); clear HO249; clear BK246; clear HB; have HO249 := n0_; have BK246 := n1_; have HB := n2_; have BK259 := n3_; have GW259 := n4_; have GE259 := n5_; have NB246_259 := n6_; have NB259_246 := n7_; clear n0_ n1_ n2_ n3_ n4_ n5_ n6_ n7_; clear hb hbox hg; have hnb55 := NB259_246.out; have hnc55 := NB246_259.out; have hcz56_0 : w54.cell? ⟨gb259, 0, none⟩ = some (.int .i64 0) := (blk_cell BK259.out 0).trans rfl; have hcz56_1 : w54.cell? ⟨gb259, 1, none⟩ = some (.int .i64 0) := (blk_cell BK259.out 1).trans rfl; have hcz56_2 : w54.cell? ⟨gb259, 2, none⟩ = some (.int .i64 0) := (blk_cell BK259.out 2).trans rfl; have hfz56_0 := blk_frozen BK259.out 0; have hfz56_1 := blk_frozen BK259.out 1; have hfz56_2 := blk_frozen BK259.out 2; have hcz57_0 : w54.cell? ⟨gb246, 0, none⟩ = some (.int .i64 0) := (blk_cell BK246.out 0).trans rfl; have hcz57_1 : w54.cell? ⟨gb246, 1, none⟩ = some (.int .i64 0) := (blk_cell BK246.out 1).trans rfl; have hcz57_2 : w54.cell? ⟨gb246, 2, none⟩ = some (.int .i64 0) := (blk_cell BK246.out 2).trans rfl; have hfz57_0 := blk_frozen BK246.out 0; have hfz57_1 := blk_frozen BK246.out 1; have hfz57_2 := blk_frozen BK246.out 2))
       refine bodyPost_ret (results_ct rfl _ _ gb246 114 #[.int .i64 0, .int .i64 0, .int .i64 0] (0, 0) _ rfl (by refine blk_put (cs := #[.int .i64 0, .int .i64 0, .int .i64 0]) ?_ 2 _ rfl; refine blk_put (cs := #[.int .i64 0, .int .i64 0, .int .i64 0]) ?_ 1 _ rfl; refine blk_put (cs := #[.int .i64 0, .int .i64 0, .int .i64 0]) ?_ 0 _ rfl; refine blk_far ?_ NB246_259.out _; refine blk_far ?_ NB246_259.out _; refine blk_far ?_ NB246_259.out _; exact BK246.out) Try.underlying114 rfl (by kernel_rfl)) rfl ?_
       exact ⟨rfl, by repeat ((with_reducible first | exact HB.out | refine below_set ?_ GE246.out | refine below_set ?_ GE259.out))⟩
     ·replace c10 := Bool.eq_false_iff.mpr c10
      subst c10
      rw [if_neg (show ¬ (false = true) by decide)] at H
      simp only [Option.some.injEq, Prod.mk.injEq] at H
      obtain ⟨rfl, rfl, rfl, rfl⟩ := H
      go_enter Try.func138, Try.ntmps138
      go_wp2_with (first | ((with_reducible refine gate_dst (N := 2) rfl ?_); refine box_event ?hg (N := 2) ?hd (cs := #[.int .i64 0, .int .i64 0, .int .i64 0]) (t := 114) ?hr ?_; (case hd => rfl); (case hg => rfl); (case hr => (go_simp; done)); intro gb246 hg w58 hbox hb; have n0_ := Aside0.mk (below_step HB.out hb); have n1_ := Aside0.mk (hbox); have n2_ := Aside0.mk ((by rw [hg]; exact (below_size HB.out) : w.heap.size ≤ gb246)); have n3_ := Aside0.mk ((by rw [hg]; exact (below_size HB.out) : w.heap.size ≤ gb246)); clear HB; have HB := n0_; have BK246 := n1_; have GW246 := n2_; have GE246 := n3_; clear n0_ n1_ n2_ n3_; clear hb hbox hg) | ((with_reducible refine gate_callee (f := 86) rfl ?_); refine goesL_ (some 13) rfl rfl Try.func86 (by kernel_rfl) rfl #[.string a0, .int .u8 46] rfl (by (try simp only [List.map_toArray, List.map_cons, List.map_nil]); rfl) ?_; (with_reducible refine (impl_cut.calls k a0 46 t247 _ A2.out).mono ?_); rintro e w59 ⟨v248, rfl, ho0, hb⟩; refine ⟨_, rfl, ?_⟩; have n0_ := Aside0.mk (Kd.R_lower ho0 (below_size HB.out)); have n1_ := Aside0.mk (blk_below (g := gb246) (o := .cells #[.int .i64 0, .int .i64 0, .int .i64 0] 114 (0, 0)) BK246.out hb); have n2_ := Aside0.mk (below_step HB.out hb); clear BK246; clear HB; have HO249 := n0_; have BK246 := n1_; have HB := n2_; clear n0_ n1_ n2_; (try clear hb); (try clear hb2); (try clear hk); (try clear hi); (try clear ho0); obtain ⟨Ao60, co60, eo60⟩ := Kd.R_slice HO249.out; subst eo60; have p250 : 0 ≤ (0 : Int) := (by omega); have q250 : 0 < (t247.length : Int) := of_decide_eq_true (by (with_reducible assumption)); obtain ⟨ad250, e250, hx250_0⟩ := Kd.at_string (Kd.R_reads' HO249.out).2.2 0 p250 q250; cases e250; have qi250 : (0 < t247.length) = True := eq_true (by omega); (try rw [show ((0 : Int)).toNat = 0 from rfl] at hx250_0); (try rw [Addr.add_zero'] at hx250_0); replace p250 := eq_true p250; replace q250 := eq_true q250) | ((with_reducible refine gate_callee (f := 87) rfl ?_); refine goesL_ (some 22) rfl rfl Try.func87 (by kernel_rfl) rfl #[.string (rdOf ByteArray.empty t247 0)] rfl (by (try simp only [List.map_toArray, List.map_cons, List.map_nil]); rfl) ?_; (with_reducible refine (impl_ParseInt.calls k (rdOf ByteArray.empty t247 0) t251 false _ A5.out).mono ?_); rintro e w61 ⟨rfl, hb⟩; refine ⟨_, rfl, ?_⟩; have n0_ := Aside0.mk (Kd.R_below HO249.out hb); have n1_ := Aside0.mk (blk_below (g := gb246) (o := .cells #[.int .i64 0, .int .i64 0, .int .i64 0] 114 (0, 0)) BK246.out hb); have n2_ := Aside0.mk (below_step HB.out hb); clear HO249; clear BK246; clear HB; have HO249 := n0_; have BK246 := n1_; have HB := n2_; clear n0_ n1_ n2_; (try clear hb); (try clear hb2); (try clear hk); (try clear hi); have p253 : 0 ≤ (1 : Int) := (by omega); have q253 : 1 < (t247.length : Int) := of_decide_eq_true (by (with_reducible assumption)); obtain ⟨ad253, e253, hx253_0⟩ := Kd.at_string (Kd.R_reads' HO249.out).2.2 1 p253 q253; obtain rfl : ad250 = ad253 := (by injection e253); (try simp only [show (1 : Int).toNat = 1 from rfl, Nat.reduceMul, Nat.reduceEqDiff, Go.Addr.add, ↓reduceIte] at hx253_0); have qi253 : (1 < t247.length) = True := eq_true (by omega); (try rw [show ((1 : Int)).toNat = 1 from rfl] at hx253_0); replace p253 := eq_true p253; replace q253 := eq_true q253) | ((with_reducible refine gate_callee (f := 87) rfl ?_); refine goesL_ (some 29) rfl rfl Try.func87 (by kernel_rfl) rfl #[.string (rdOf ByteArray.empty t247 1)] rfl (by (try simp only [List.map_toArray, List.map_cons, List.map_nil]); rfl) ?_; (with_reducible refine (impl_ParseInt.calls k (rdOf ByteArray.empty t247 1) t254 t255 _ A7.out).mono ?_); rintro e w62 ⟨rfl, hb⟩; refine ⟨_, rfl, ?_⟩; have n0_ := Aside0.mk (Kd.R_below HO249.out hb); have n1_ := Aside0.mk (blk_below (g := gb246) (o := .cells #[.int .i64 0, .int .i64 0, .int .i64 0] 114 (0, 0)) BK246.out hb); have n2_ := Aside0.mk (below_step HB.out hb); clear HO249; clear BK246; clear HB; have HO249 := n0_; have BK246 := n1_; have HB := n2_; clear n0_ n1_ n2_; (try clear hb); (try clear hb2); (try clear hk); (try clear hi); have p256 : 0 ≤ (2 : Int) := (by omega); have q256 : 2 < (t247.length : Int) := of_decide_eq_true (by (with_reducible assumption)); obtain ⟨ad256, e256, hx256_0⟩ := Kd.at_string (Kd.R_reads' HO249.out).2.2 2 p256 q256; obtain rfl : ad250 = ad256 := (by injection e256); (try simp only [show (2 : Int).toNat = 2 from rfl, Nat.reduceMul, Nat.reduceEqDiff, Go.Addr.add, ↓reduceIte] at hx256_0); have qi256 : (2 < t247.length) = True := eq_true (by omega); (try rw [show ((2 : Int)).toNat = 2 from rfl] at hx256_0); replace p256 := eq_true p256; replace q256 := eq_true q256) | ((with_reducible refine gate_callee (f := 87) rfl ?_); refine goesL_ (some 36) rfl rfl Try.func87 (by kernel_rfl) rfl #[.string (rdOf ByteArray.empty t247 2)] rfl (by (try simp only [List.map_toArray, List.map_cons, List.map_nil]); rfl) ?_; (with_reducible refine (impl_ParseInt.calls k (rdOf ByteArray.empty t247 2) t257 t258 _ A9.out).mono ?_); rintro e w63 ⟨rfl, hb⟩; refine ⟨_, rfl, ?_⟩; have n0_ := Aside0.mk (Kd.R_below HO249.out hb); have n1_ := Aside0.mk (blk_below (g := gb246) (o := .cells #[.int .i64 0, .int .i64 0, .int .i64 0] 114 (0, 0)) BK246.out hb); have n2_ := Aside0.mk (below_step HB.out hb); clear HO249; clear BK246; clear HB; have HO249 := n0_; have BK246 := n1_; have HB := n2_; clear n0_ n1_ n2_; (try clear hb); (try clear hb2); (try clear hk); (try clear hi)) | ((with_reducible refine gate_dst (N := 11) rfl ?_); refine box_event ?hg (N := 11) ?hd (cs := #[.int .i64 0, .int .i64 0, .int .i64 0]) (t := 114) ?hr ?_; (case hd => rfl); (case hg => rfl); (case hr => (go_simp; done)); intro gb259 hg w64 hbox hb; have n0_ := Aside0.mk (Kd.R_below HO249.out hb); have n1_ := Aside0.mk (blk_below (g := gb246) (o := .cells #[.int .i64 0, .int .i64 0, .int .i64 0] 114 (0, 0)) BK246.out hb); have n2_ := Aside0.mk (below_step HB.out hb); have n3_ := Aside0.mk (hbox); have n4_ := Aside0.mk ((by rw [hg]; exact (below_size HB.out) : w.heap.size ≤ gb259)); have n5_ := Aside0.mk ((by rw [hg]; exact (below_size HB.out) : w.heap.size ≤ gb259)); have n6_ := Aside0.mk ((by rw [hg]; exact Nat.ne_of_lt (blk_lt (g := gb246) (o := .cells #[.int .i64 0, .int .i64 0, .int .i64 0] 114 (0, 0)) BK246.out) : gb246 ≠ gb259)); have n7_ := Aside0.mk ((by rw [hg]; exact Nat.ne_of_gt (blk_lt (g := gb246) (o := .cells #[.int .i64 0, .int .i64 0, .int .i64 0] 114 (0, 0)) BK246.out) : gb259 ≠ gb246)); clear HO249; clear BK246; clear HB; have HO249 := n0_; have BK246 := n1_; have HB := n2_; have BK259 := n3_; have GW259 := n4_; have GE259 := n5_; have NB246_259 := n6_; have NB259_246 := n7_; clear n0_ n1_ n2_ n3_ n4_ n5_ n6_ n7_; clear hb hbox hg; have hnb65 := NB259_246.out; have hnc65 := NB246_259.out; have hcz66_0 : w64.cell? ⟨gb259, 0, none⟩ = some (.int .i64 0) := (blk_cell BK259.out 0).trans rfl; have hcz66_1 : w64.cell? ⟨gb259, 1, none⟩ = some (.int .i64 0) := (blk_cell BK259.out 1).trans rfl; have hcz66_2 : w64.cell? ⟨gb259, 2, none⟩ = some (.int .i64 0) := (blk_cell BK259.out 2).trans rfl; have hfz66_0 := blk_frozen BK259.out 0; have hfz66_1 := blk_frozen BK259.out 1; have hfz66_2 := blk_frozen BK259.out 2; have hcz67_0 : w64.cell? ⟨gb246, 0, none⟩ = some (.int .i64 0) := (blk_cell BK246.out 0).trans rfl; have hcz67_1 : w64.cell? ⟨gb246, 1, none⟩ = some (.int .i64 0) := (blk_cell BK246.out 1).trans rfl; have hcz67_2 : w64.cell? ⟨gb246, 2, none⟩ = some (.int .i64 0) := (blk_cell BK246.out 2).trans rfl; have hfz67_0 := blk_frozen BK246.out 0; have hfz67_1 := blk_frozen BK246.out 1; have hfz67_2 := blk_frozen BK246.out 2))
      refine bodyPost_ret (results_ct rfl _ _ gb246 114 #[.int .i64 0, .int .i64 0, .int .i64 0] (0, 0) _ rfl (by refine blk_put (cs := #[.int .i64 0, .int .i64 0, .int .i64 0]) ?_ 2 _ rfl; refine blk_put (cs := #[.int .i64 0, .int .i64 0, .int .i64 0]) ?_ 1 _ rfl; refine blk_put (cs := #[.int .i64 0, .int .i64 0, .int .i64 0]) ?_ 0 _ rfl; refine blk_far ?_ NB246_259.out _; refine blk_far ?_ NB246_259.out _; refine blk_far ?_ NB246_259.out _; exact BK246.out) Try.underlying114 rfl (by kernel_rfl)) rfl ?_
      exact ⟨rfl, by repeat ((with_reducible first | exact HB.out | refine below_set ?_ GE246.out | refine below_set ?_ GE259.out))⟩
    ·rw [if_neg c8] at H
     exact absurd H (by simp)
   ·rw [if_neg c6] at H
    exact absurd H (by simp)
  ·rw [if_neg c4] at H
   exact absurd H (by simp)
 ·rw [if_neg c3] at H
  have c3b0 : ((t247.length : Int) == 3) = false := beq_eq_false_iff_ne.mpr c3
  have c3b1 : ((t247.length : Int) != 3) = true := bne_iff_ne.mpr c3
  simp only [Option.some.injEq, Prod.mk.injEq] at H
  obtain ⟨rfl, rfl, rfl, rfl⟩ := H
  go_enter Try.func138, Try.ntmps138
  go_wp2_with (first | ((with_reducible refine gate_dst (N := 2) rfl ?_); refine box_event ?hg (N := 2) ?hd (cs := #[.int .i64 0, .int .i64 0, .int .i64 0]) (t := 114) ?hr ?_; (case hd => rfl); (case hg => rfl); (case hr => (go_simp; done)); intro gb246 hg w68 hbox hb; have n0_ := Aside0.mk (below_step HB.out hb); have n1_ := Aside0.mk (hbox); have n2_ := Aside0.mk ((by rw [hg]; exact (below_size HB.out) : w.heap.size ≤ gb246)); have n3_ := Aside0.mk ((by rw [hg]; exact (below_size HB.out) : w.heap.size ≤ gb246)); clear HB; have HB := n0_; have BK246 := n1_; have GW246 := n2_; have GE246 := n3_; clear n0_ n1_ n2_ n3_; clear hb hbox hg) | ((with_reducible refine gate_callee (f := 86) rfl ?_); refine goesL_ (some 13) rfl rfl Try.func86 (by kernel_rfl) rfl #[.string a0, .int .u8 46] rfl (by (try simp only [List.map_toArray, List.map_cons, List.map_nil]); rfl) ?_; (with_reducible refine (impl_cut.calls k a0 46 t247 _ A2.out).mono ?_); rintro e w69 ⟨v248, rfl, ho0, hb⟩; refine ⟨_, rfl, ?_⟩; have n0_ := Aside0.mk (Kd.R_lower ho0 (below_size HB.out)); have n1_ := Aside0.mk (blk_below (g := gb246) (o := .cells #[.int .i64 0, .int .i64 0, .int .i64 0] 114 (0, 0)) BK246.out hb); have n2_ := Aside0.mk (below_step HB.out hb); clear BK246; clear HB; have HO249 := n0_; have BK246 := n1_; have HB := n2_; clear n0_ n1_ n2_; (try clear hb); (try clear hb2); (try clear hk); (try clear hi); (try clear ho0); obtain ⟨Ao70, co70, eo70⟩ := Kd.R_slice HO249.out; subst eo70; have hcz71_0 : w69.cell? ⟨gb246, 0, none⟩ = some (.int .i64 0) := (blk_cell BK246.out 0).trans rfl; have hcz71_1 : w69.cell? ⟨gb246, 1, none⟩ = some (.int .i64 0) := (blk_cell BK246.out 1).trans rfl; have hcz71_2 : w69.cell? ⟨gb246, 2, none⟩ = some (.int .i64 0) := (blk_cell BK246.out 2).trans rfl; have hfz71_0 := blk_frozen BK246.out 0; have hfz71_1 := blk_frozen BK246.out 1; have hfz71_2 := blk_frozen BK246.out 2))
  refine bodyPost_ret (results_ct rfl _ _ gb246 114 #[.int .i64 0, .int .i64 0, .int .i64 0] (0, 0) _ rfl (by refine blk_put (cs := #[.int .i64 0, .int .i64 0, .int .i64 0]) ?_ 2 _ rfl; refine blk_put (cs := #[.int .i64 0, .int .i64 0, .int .i64 0]) ?_ 1 _ rfl; refine blk_put (cs := #[.int .i64 0, .int .i64 0, .int .i64 0]) ?_ 0 _ rfl; exact BK246.out) Try.underlying114 rfl (by kernel_rfl)) rfl ?_
  exact ⟨rfl, by repeat ((with_reducible first | exact HB.out | refine below_set ?_ GE246.out))⟩

end Go.Proofs.Ytphkghnppcfdpaa.P
namespace Go.Proofs.Ytphkghnppcfdpaa.P
open Go.RowKit Go.Proofs.YtphkghnppcfdpaaW.PrintWords Go.Proofs.YtphkghnppcfdpaaW.PrintLast Go.Proofs.YtphkghnppcfdpaaW.PrintMore
attribute [local go_sem] max2_int min2_int max_two min_two max_three min_three max_four min_four   -- for this text's walks alone
set_option linter.unusedVariables false
set_option linter.unusedSimpArgs false

/-! ### impl_ParseRows: function 88 -/
def impl_ParseRows.l0 : Nat → List (S114) → List ByteArray → Int → Int → Option ((List (S114)) × Bool)
 | 0, _, _, _, _ => none
 | k + 1, x4, x13, x14, x15 => if x15 < x14 then (if 0 ≤ x15 then (if x15 < (x13.length : Int) then ((impl_ParseRow.f k (rdOf ByteArray.empty x13 x15)).bind fun bt268 => (if bt268.2.2.2 = true then (if x4.length < 5864062014805 then (impl_ParseRows.l0 k (x4 ++ [(⟨bt268.1, bt268.2.1, bt268.2.2.1⟩ : S114)]) x13 x14 (wrap64 (x15 + 1))) else (none)) else (some (([] : List (S114)), false)))) else (none)) else (none)) else ((impl_AreValidRows.f k x4).bind fun t276 => (if t276 = true then (some (x4, true)) else (some (([] : List (S114)), false))))
def impl_ParseRows.f (k : Nat) (a0 : ByteArray) : Option ((List (S114)) × Bool) := if a0.toList = ([] : List UInt8) then (some (([] : List (S114)), true)) else ((impl_cut.f k a0 32).bind fun t264 => (impl_ParseRows.l0 k (([] : List (S114))) t264 (t264.length : Int) 0))
theorem impl_ParseRows.mono_l : ∀ k, (∀ y0 y1 y2 y3, LeO (impl_ParseRows.l0 k y0 y1 y2 y3) (impl_ParseRows.l0 (k + 1) y0 y1 y2 y3))
 | 0 => fun _ _ _ _ r h => by simp [impl_ParseRows.l0] at h
 | k + 1 => by
  have ih0 := impl_ParseRows.mono_l k
  ·intro y0 y1 y2 y3
   unfold impl_ParseRows.l0
   repeat' first
   | (with_reducible exact ih0 _ _ _ _)
   | (with_reducible exact impl_AreValidRows.mono _ _)
   | (with_reducible exact impl_ParseRow.mono _ _)
   | (with_reducible exact LeO.refl _)
   | (with_reducible refine LeO.ite ?_ ?_)
   | (with_reducible refine LeO.bind ?_ (fun _ => ?_))
theorem impl_ParseRows.mono : ∀ a0 k, LeO (impl_ParseRows.f k a0) (impl_ParseRows.f (k + 1) a0) := by
 intro a0 k
 have ih0 := impl_ParseRows.mono_l k
 unfold impl_ParseRows.f
 repeat' first
   | (with_reducible exact ih0 _ _ _ _)
   | (with_reducible exact impl_cut.mono _ _ _)
   | (with_reducible exact LeO.refl _)
   | (with_reducible refine LeO.ite ?_ ?_)
   | (with_reducible refine LeO.bind ?_ (fun _ => ?_))
set_option maxHeartbeats 8000000 in
set_option maxRecDepth 100000 in
theorem impl_ParseRows.calls (k : Nat) (a0 : ByteArray) (r1 : List (S114)) (r2 : Bool) (w : World) (h : impl_ParseRows.f k a0 = some (r1, r2)) :
  Calls Try.prog 88 #[.string a0] w fun e w' => ∃ v0_ : Value, e = .returned (.tuple #[v0_, .bool r2]) ∧ Kd.R k114 114 w' w.heap.size (fun _ => True) v0_ r1 ∧ Below w.heap.size w w' := by
 have hu114 := Try.underlying114
 have HB := Aside0.mk (Below.refl w.heap.size w)
 have H : (if a0.toList = ([] : List UInt8) then (some (([] : List (S114)), true)) else ((impl_cut.f k a0 32).bind fun t264 => (impl_ParseRows.l0 k (([] : List (S114))) t264 (t264.length : Int) 0))) = some (r1, r2) := h
 clear h
 by_cases c2 : a0.toList = ([] : List UInt8)
 ·rw [if_pos c2] at H
  have c2b0 : (a0.toList == ([] : List UInt8)) = true := beq_iff_eq.mpr c2
  have c2b1 : (a0.toList != ([] : List UInt8)) = false := bne_eq_false_iff_eq.mpr c2
  clear c2
  simp only [Option.some.injEq, Prod.mk.injEq] at H
  obtain ⟨rfl, rfl⟩ := H
  go_enter Try.func88, Try.ntmps88
  go_wp2
  go_ret2
  exact ⟨_, rfl, by exact Kd.R_nil _ _ _ _ _, HB.out⟩
 ·rw [if_neg c2] at H
  have c2b0 : (a0.toList == ([] : List UInt8)) = false := beq_eq_false_iff_ne.mpr c2
  have c2b1 : (a0.toList != ([] : List UInt8)) = true := bne_iff_ne.mpr c2
  obtain ⟨y261, hy261⟩ : ∃ y_ : List (S114), y_ = (([] : List (S114))) := ⟨_, rfl⟩
  replace H : ((impl_cut.f k a0 32).bind fun t264 => (impl_ParseRows.l0 k y261 t264 (t264.length : Int) 0)) = some (r1, r2) := by (rw [hy261]; with_reducible exact H)
  have Ny261 := Aside0.mk hy261
  clear hy261
  replace H := Option.bind_eq_some_iff.mp H
  obtain ⟨t264, A30, H⟩ := H
  have A3 := Aside0.mk A30
  clear A30
  have H' := Aside0.mk H
  clear H
  go_enter Try.func88, Try.ntmps88
  go_wp2_with (first | ((with_reducible refine gate_dst (N := 11) rfl ?_); refine Kd.R_lit k114 _ 114 ?hg (N := 11) ?hd (xs := ([] : List (S114))) (inner := []) (ok := fun _ => True) (okp := fun _ => True) ?hr ?hp (fun _ hk => hk) trivial (Below.refl _ _) (Nat.le_refl _) (by simp) ?_; (case hd => rfl); (case hg => rfl); (case hr => (go_simp; done)); (case hp => exact (Reps.none _ _)); intro v262 w4 ho5 hb hg_ hnew_; clear hg_ hnew_; (rw [← Ny261.out] at ho5); have n0_ := Aside0.mk (Kd.R_lower ho5 (below_size HB.out)); have n1_ := Aside0.mk (below_step HB.out hb); clear HB; have HO263 := n0_; have HB := n1_; clear n0_ n1_; clear hb ho5) | ((with_reducible refine gate_callee (f := 86) rfl ?_); refine goesL_ (some 13) rfl rfl Try.func86 (by kernel_rfl) rfl #[.string a0, .int .u8 32] rfl (by (try simp only [List.map_toArray, List.map_cons, List.map_nil]); rfl) ?_; (with_reducible refine (impl_cut.calls k a0 32 t264 _ A3.out).mono ?_); rintro e w6 ⟨v265, rfl, ho0, hb⟩; refine ⟨_, rfl, ?_⟩; have n0_ := Aside0.mk (Kd.R_below HO263.out hb); have n1_ := Aside0.mk (Kd.R_lower ho0 (below_size HB.out)); have n2_ := Aside0.mk (below_step HB.out hb); clear HO263; clear HB; have HO263 := n0_; have HO266 := n1_; have HB := n2_; clear n0_ n1_ n2_; (try clear hb); (try clear hb2); (try clear hk); (try clear hi); (try clear ho0); obtain ⟨Ao7, co7, eo7⟩ := Kd.R_slice HO266.out; subst eo7))
  go_loopg [4, 15] k (fun kq v4 v15 w' => ∃ (x4_1 : List (S114)) (x15_1 : Int), v15 = .int .i64 x15_1 ∧ Aside0 (impl_ParseRows.l0 kq x4_1 t264 (t264.length : Int) x15_1 = some (r1, r2)) ∧ Aside0 (kq ≤ k) ∧ Aside0 (Kd.R k114 114 w' w.heap.size (fun _ => True) v4 x4_1) ∧ Aside0 (Kd.R Kd.string 9 w' w.heap.size (fun _ => True) (.slice Ao7 t264.length co7) t264) ∧ Aside0 (Below w.heap.size w w'))
  case atStart => exact ⟨(y261), (0), rfl, H', ⟨Nat.le_refl _⟩, ⟨HO263.out⟩, ⟨HO266.out⟩, ⟨HB.out⟩⟩
  case round =>
   clear H'
   try clear c2
   try clear c2b0
   try clear c2b1
   obtain ⟨x4_1, x15_1, rfl, HA, HK1, HO_4, HO_13, HB⟩ := hrel
   cases gk with
   | zero => exact absurd HA.out (by simp [impl_ParseRows.l0])
   | succ k1 =>
    have H := HA.out
    clear HA
    simp only [impl_ParseRows.l0] at H
    by_cases c8 : x15_1 < (t264.length : Int)
    ·rw [if_pos c8] at H
     have c8b0 : decide (x15_1 < (t264.length : Int)) = true := decide_eq_true c8
     clear c8
     by_cases c9 : 0 ≤ x15_1
     ·rw [if_pos c9] at H
      have c9b0 : decide (0 ≤ x15_1) = true := decide_eq_true c9
      clear c9
      by_cases c10 : x15_1 < (t264.length : Int)
      ·rw [if_pos c10] at H
       have c10b0 : decide (x15_1 < (t264.length : Int)) = true := decide_eq_true c10
       clear c10
       replace H := Option.bind_eq_some_iff.mp H
       obtain ⟨⟨t268, t269, t270, t271⟩, A110, H⟩ := H
       have A11 := Aside0.mk A110
       clear A110
       by_cases c12 : t271 = true
       ·subst c12
        rw [if_pos rfl] at H
        by_cases c13 : x4_1.length < 5864062014805
        ·rw [if_pos c13] at H
         have LMc13 := Aside0.mk c13
         clear c13
         obtain ⟨y273, hy273⟩ : ∃ y_ : List (S114), y_ = (x4_1 ++ [(⟨t268, t269, t270⟩ : S114)]) := ⟨_, rfl⟩
         replace H : (impl_ParseRows.l0 k1 y273 t264 (t264.length : Int) (wrap64 (x15_1 + 1))) = some (r1, r2) := by (rw [hy273]; with_reducible exact H)
         have Ny273 := Aside0.mk hy273
         clear hy273
         have H' := Aside0.mk H
         clear H
         have p267 : 0 ≤ (x15_1 : Int) := of_decide_eq_true (by (with_reducible assumption))
         have q267 : x15_1 < (t264.length : Int) := of_decide_eq_true (by (with_reducible assumption))
         obtain ⟨ad267, e267, hx267_0⟩ := Kd.at_string (Kd.R_reads' HO_13.out).2.2 x15_1 p267 q267
         cases e267
         replace p267 := eq_true p267
         replace q267 := eq_true q267
         go_wp2_with (first | ((with_reducible refine gate_callee (f := 138) rfl ?_); refine goesL_ (some 21) rfl rfl Try.func138 (by kernel_rfl) rfl #[.string (rdOf ByteArray.empty t264 x15_1)] rfl (by (try simp only [List.map_toArray, List.map_cons, List.map_nil]); rfl) ?_; (with_reducible refine (impl_ParseRow.calls k1 (rdOf ByteArray.empty t264 x15_1) t268 t269 t270 true _ A11.out).mono ?_); rintro e w14 ⟨rfl, hb⟩; refine ⟨_, rfl, ?_⟩; have n0_ := Aside0.mk (Kd.R_below HO_4.out hb); have n1_ := Aside0.mk (Kd.R_below HO_13.out hb); have n2_ := Aside0.mk (below_step HB.out hb); clear HO_4; clear HO_13; clear HB; have HO_4 := n0_; have HO_13 := n1_; have HB := n2_; clear n0_ n1_ n2_; (try clear hb); (try clear hb2); (try clear hk); (try clear hi)) | ((with_reducible refine gate_dst (N := 7) rfl ?_); refine box_event ?hg (N := 7) ?hd (cs := #[.int .i64 0, .int .i64 0, .int .i64 0]) (t := 114) ?hr ?_; (case hd => rfl); (case hg => rfl); (case hr => (go_simp; done)); intro gb272 hg w15 hbox hb; have n0_ := Aside0.mk (Kd.R_below (Kd.R_elderB HO_4.out gb272 (Nat.le_of_eq hg.symm)) hb); have n1_ := Aside0.mk (Kd.R_below HO_13.out hb); have n2_ := Aside0.mk (below_step HB.out hb); have n3_ := Aside0.mk (hbox); have n4_ := Aside0.mk ((by rw [hg]; exact (below_size HB.out) : w.heap.size ≤ gb272)); have n5_ := Aside0.mk ((by rw [hg]; exact (below_size HB.out) : w.heap.size ≤ gb272)); clear HO_4; clear HO_13; clear HB; have HO_4 := n0_; have HO_13 := n1_; have HB := n2_; have BK272 := n3_; have GW272 := n4_; have GE272 := n5_; clear n0_ n1_ n2_ n3_ n4_ n5_; clear hb hbox hg; have hcz16_0 : w15.cell? ⟨gb272, 0, none⟩ = some (.int .i64 0) := (blk_cell BK272.out 0).trans rfl; have hcz16_1 : w15.cell? ⟨gb272, 1, none⟩ = some (.int .i64 0) := (blk_cell BK272.out 1).trans rfl; have hcz16_2 : w15.cell? ⟨gb272, 2, none⟩ = some (.int .i64 0) := (blk_cell BK272.out 2).trans rfl; have hfz16_0 := blk_frozen BK272.out 0; have hfz16_1 := blk_frozen BK272.out 1; have hfz16_2 := blk_frozen BK272.out 2) | ((with_reducible refine gate_builtin (b := .append) (xs := #[.tmp 26, .tmp 28]) rfl ?_); at_builtin; refine Kd.R_append k114 (w0 := w) w.heap.size rfl (.tmp 26) (.tmp 28) 44 114 (.agg #[(.int .i64 0), (.int .i64 0), (.int .i64 0)]) 24 rfl Try.underlying44 info114 rfl (by decide) (by omega) u4 x4_1 (⟨t268, t269, t270⟩ : S114) [.int .i64 t268, .int .i64 t269, .int .i64 t270] (fun k_ => k_ ≠ gb272) (fun _ => False) rfl (by (go_simp; done)) ?aP (fun _ hk => hk.elim) ?aF ?aO ?aB ?aS ?aL ?_; (case aP => exact k114_mkM _ _ _ (⟨t268, t269, t270⟩ : S114)); (case aB => exact (by repeat (with_reducible first | exact HB.out | refine below_set ?_ GE272.out))); (case aF => exact (fun k_ hk => Kd.freshB (g := gb272) (o := .cells #[.int .i64 t268, .int .i64 t269, .int .i64 t270] 114 (0, 0)) (by refine blk_put (cs := #[.int .i64 t268, .int .i64 t269, .int .i64 0]) ?_ 2 _ rfl; refine blk_put (cs := #[.int .i64 t268, .int .i64 0, .int .i64 0]) ?_ 1 _ rfl; refine blk_put (cs := #[.int .i64 0, .int .i64 0, .int .i64 0]) ?_ 0 _ rfl; exact BK272.out) k_ hk)); (case aO => exact (by exact Kd.R_mono (Kd.R_far (p := ⟨gb272, 2, none⟩) (Kd.R_far (p := ⟨gb272, 1, none⟩) (Kd.R_far (p := ⟨gb272, 0, none⟩) (Kd.R_mono HO_4.out (fun k_ hk => (⟨hk, hk.2⟩ : _ ∧ k_ ≠ gb272))) (fun _ hk => hk.2) (.int .i64 t268)) (fun _ hk => hk.2) (.int .i64 t269)) (fun _ hk => hk.2) (.int .i64 t270)) (fun _ hk => hk.1.2))); (case aS => exact (below_size (by repeat (with_reducible first | exact HB.out | refine below_set ?_ GE272.out)))); (case aL => have := LMc13.out; omega); intro v274 w17 ho hb hg hat; rw [← Ny273.out] at ho; have n0_ := Aside0.mk (Kd.R_over' (by exact (Kd.R_mono (Kd.R_far (p := ⟨gb272, 2, none⟩) (Kd.R_far (p := ⟨gb272, 1, none⟩) (Kd.R_far (p := ⟨gb272, 0, none⟩) (Kd.R_types HO_13.out BK272.out (by decide)) (fun _ hk => hk.2) (.int .i64 t268)) (fun _ hk => hk.2) (.int .i64 t269)) (fun _ hk => hk.2) (.int .i64 t270)) (fun _ h_ => h_.1))) (Kd.R_typed (by exact (Kd.R_mono (Kd.R_far (p := ⟨gb272, 2, none⟩) (Kd.R_far (p := ⟨gb272, 1, none⟩) (Kd.R_far (p := ⟨gb272, 0, none⟩) (Kd.R_mono HO_4.out (fun k_ hk => (⟨hk, hk.2⟩ : _ ∧ k_ ≠ gb272))) (fun _ hk => hk.2) (.int .i64 t268)) (fun _ hk => hk.2) (.int .i64 t269)) (fun _ hk => hk.2) (.int .i64 t270)) (fun _ h_ => h_.1)))) (by decide) hg); have n1_ := Aside0.mk (blk_grown (g := gb272) (o := .cells #[.int .i64 t268, .int .i64 t269, .int .i64 t270] 114 (0, 0)) (by refine blk_put (cs := #[.int .i64 t268, .int .i64 t269, .int .i64 0]) ?_ 2 _ rfl; refine blk_put (cs := #[.int .i64 t268, .int .i64 0, .int .i64 0]) ?_ 1 _ rfl; refine blk_put (cs := #[.int .i64 0, .int .i64 0, .int .i64 0]) ?_ 0 _ rfl; exact BK272.out) hg (Kd.R_away HO_4.out (fun _ hk => hk.2))); have n2_ := Aside0.mk (hb); have n3_ := Aside0.mk (ho); clear HO_13; clear BK272; clear HB; clear HO_4; have HO_13 := n0_; have BK272 := n1_; have HB := n2_; have HO275 := n3_; clear n0_ n1_ n2_ n3_; clear ho hb hg hat))
         go_roundg k1
         case measure => have := HK1.out; omega
         case rel => exact ⟨(y273), (wrap64 (x15_1 + 1)), rfl, H', ⟨by have := HK1.out; omega⟩, ⟨by exact Kd.R_mono HO275.out (fun _ hk => trivial)⟩, ⟨HO_13.out⟩, ⟨HB.out⟩⟩
        ·rw [if_neg c13] at H
         exact absurd H (by simp)
       ·replace c12 := Bool.eq_false_iff.mpr c12
        subst c12
        rw [if_neg (show ¬ (false = true) by decide)] at H
        simp only [Option.some.injEq, Prod.mk.injEq] at H
        obtain ⟨rfl, rfl⟩ := H
        have p267 : 0 ≤ (x15_1 : Int) := of_decide_eq_true (by (with_reducible assumption))
        have q267 : x15_1 < (t264.length : Int) := of_decide_eq_true (by (with_reducible assumption))
        obtain ⟨ad267, e267, hx267_0⟩ := Kd.at_string (Kd.R_reads' HO_13.out).2.2 x15_1 p267 q267
        cases e267
        replace p267 := eq_true p267
        replace q267 := eq_true q267
        go_wp2_with (first | ((with_reducible refine gate_callee (f := 138) rfl ?_); refine goesL_ (some 21) rfl rfl Try.func138 (by kernel_rfl) rfl #[.string (rdOf ByteArray.empty t264 x15_1)] rfl (by (try simp only [List.map_toArray, List.map_cons, List.map_nil]); rfl) ?_; (with_reducible refine (impl_ParseRow.calls k1 (rdOf ByteArray.empty t264 x15_1) t268 t269 t270 false _ A11.out).mono ?_); rintro e w18 ⟨rfl, hb⟩; refine ⟨_, rfl, ?_⟩; have n0_ := Aside0.mk (Kd.R_below HO_4.out hb); have n1_ := Aside0.mk (Kd.R_below HO_13.out hb); have n2_ := Aside0.mk (below_step HB.out hb); clear HO_4; clear HO_13; clear HB; have HO_4 := n0_; have HO_13 := n1_; have HB := n2_; clear n0_ n1_ n2_; (try clear hb); (try clear hb2); (try clear hk); (try clear hi)) | ((with_reducible refine gate_dst (N := 7) rfl ?_); refine box_event ?hg (N := 7) ?hd (cs := #[.int .i64 0, .int .i64 0, .int .i64 0]) (t := 114) ?hr ?_; (case hd => rfl); (case hg => rfl); (case hr => (go_simp; done)); intro gb272 hg w19 hbox hb; have n0_ := Aside0.mk (Kd.R_below (Kd.R_elderB HO_4.out gb272 (Nat.le_of_eq hg.symm)) hb); have n1_ := Aside0.mk (Kd.R_below HO_13.out hb); have n2_ := Aside0.mk (below_step HB.out hb); have n3_ := Aside0.mk (hbox); have n4_ := Aside0.mk ((by rw [hg]; exact (below_size HB.out) : w.heap.size ≤ gb272)); have n5_ := Aside0.mk ((by rw [hg]; exact (below_size HB.out) : w.heap.size ≤ gb272)); clear HO_4; clear HO_13; clear HB; have HO_4 := n0_; have HO_13 := n1_; have HB := n2_; have BK272 := n3_; have GW272 := n4_; have GE272 := n5_; clear n0_ n1_ n2_ n3_ n4_ n5_; clear hb hbox hg; have hcz20_0 : w19.cell? ⟨gb272, 0, none⟩ = some (.int .i64 0) := (blk_cell BK272.out 0).trans rfl; have hcz20_1 : w19.cell? ⟨gb272, 1, none⟩ = some (.int .i64 0) := (blk_cell BK272.out 1).trans rfl; have hcz20_2 : w19.cell? ⟨gb272, 2, none⟩ = some (.int .i64 0) := (blk_cell BK272.out 2).trans rfl; have hfz20_0 := blk_frozen BK272.out 0; have hfz20_1 := blk_frozen BK272.out 1; have hfz20_2 := blk_frozen BK272.out 2))
        go_ret2
        exact ⟨_, rfl, by exact Kd.R_nil _ _ _ _ _, by repeat ((with_reducible first | exact HB.out | refine below_set ?_ GE272.out))⟩
      ·rw [if_neg c10] at H
       exact absurd H (by simp)
     ·rw [if_neg c9] at H
      exact absurd H (by simp)
    ·rw [if_neg c8] at H
     have c8b0 : decide (x15_1 < (t264.length : Int)) = false := decide_eq_false c8
     clear c8
     replace H := Option.bind_eq_some_iff.mp H
     obtain ⟨t276, A210, H⟩ := H
     have A21 := Aside0.mk A210
     clear A210
     by_cases c22 : t276 = true
     ·subst c22
      rw [if_pos rfl] at H
      simp only [Option.some.injEq, Prod.mk.injEq] at H
      obtain ⟨rfl, rfl⟩ := H
      obtain ⟨Ao23, co23, eo23⟩ := Kd.R_slice HO_4.out
      subst eo23
      go_wp2_with (((with_reducible refine gate_callee (f := 115) rfl ?_); refine goesL_ (some 32) rfl rfl Try.func115 (by kernel_rfl) rfl #[.slice Ao23 x4_1.length co23] rfl (by (try simp only [List.map_toArray, List.map_cons, List.map_nil]); rfl) ?_; (with_reducible refine (impl_AreValidRows.calls k1 _ _ x4_1 true _ ?side1 ?side2 A21.out).mono ?_); (case side1 => repeat (exact (Kd.R_reads' HO_4.out).2.2)); (case side2 => exact (Kd.R_reads' HO_4.out).2.1); rintro e w24 ⟨rfl, hb⟩; refine ⟨_, rfl, ?_⟩; have n0_ := Aside0.mk (Kd.R_below HO_4.out hb); have n1_ := Aside0.mk (Kd.R_below HO_13.out hb); have n2_ := Aside0.mk (below_step HB.out hb); clear HO_4; clear HO_13; clear HB; have HO_4 := n0_; have HO_13 := n1_; have HB := n2_; clear n0_ n1_ n2_; (try clear hb); (try clear hb2); (try clear hk); (try clear hi)))
      go_ret2
      exact ⟨_, rfl, HO_4.out, HB.out⟩
     ·replace c22 := Bool.eq_false_iff.mpr c22
      subst c22
      rw [if_neg (show ¬ (false = true) by decide)] at H
      simp only [Option.some.injEq, Prod.mk.injEq] at H
      obtain ⟨rfl, rfl⟩ := H
      obtain ⟨Ao25, co25, eo25⟩ := Kd.R_slice HO_4.out
      subst eo25
      go_wp2_with (((with_reducible refine gate_callee (f := 115) rfl ?_); refine goesL_ (some 32) rfl rfl Try.func115 (by kernel_rfl) rfl #[.slice Ao25 x4_1.length co25] rfl (by (try simp only [List.map_toArray, List.map_cons, List.map_nil]); rfl) ?_; (with_reducible refine (impl_AreValidRows.calls k1 _ _ x4_1 false _ ?side1 ?side2 A21.out).mono ?_); (case side1 => repeat (exact (Kd.R_reads' HO_4.out).2.2)); (case side2 => exact (Kd.R_reads' HO_4.out).2.1); rintro e w26 ⟨rfl, hb⟩; refine ⟨_, rfl, ?_⟩; have n0_ := Aside0.mk (Kd.R_below HO_4.out hb); have n1_ := Aside0.mk (Kd.R_below HO_13.out hb); have n2_ := Aside0.mk (below_step HB.out hb); clear HO_4; clear HO_13; clear HB; have HO_4 := n0_; have HO_13 := n1_; have HB := n2_; clear n0_ n1_ n2_; (try clear hb); (try clear hb2); (try clear hk); (try clear hi)))
      go_ret2
      exact ⟨_, rfl, by exact Kd.R_nil _ _ _ _ _, HB.out⟩

end Go.Proofs.Ytphkghnppcfdpaa.P
namespace Go.Proofs.Ytphkghnppcfdpaa.P
open Go.RowKit Go.Proofs.YtphkghnppcfdpaaW.PrintWords Go.Proofs.YtphkghnppcfdpaaW.PrintLast Go.Proofs.YtphkghnppcfdpaaW.PrintMore
attribute [local go_sem] max2_int min2_int max_two min_two max_three min_three max_four min_four   -- for this text's walks alone
set_option linter.unusedVariables false
set_option linter.unusedSimpArgs false

/-! ### impl_ParseAggregator: function 13 -/
mutual
def impl_ParseAggregator.j0 : Nat → List ByteArray → Bool → Option ((List (S79)) × Int × Bool × Bool)
 | 0, _, _ => none
 | k + 1, x4, x31 => if x31 = true then (some (([] : List (S79)), 0, false, false)) else (if 0 < (x4.length : Int) then ((impl_ParseInt.f k (rdOf ByteArray.empty x4 0)).bind fun bt284 => (if 1 < (x4.length : Int) then (if 2 ≤ (x4.length : Int) then ((some (x4.drop 2 : List ByteArray)).bind fun y288 => (impl_ParseAggregator.l0 k bt284.2 y288 (y288.length : Int) 0 ([] : List (S79)) bt284.1 ((rdOf ByteArray.empty x4 1).toList == ([49] : List UInt8)))) else (none)) else (none))) else (none))
def impl_ParseAggregator.l0 : Nat → Bool → List ByteArray → Int → Int → List (S79) → Int → Bool → Option ((List (S79)) × Int × Bool × Bool)
 | 0, _, _, _, _, _, _, _ => none
 | k + 1, x6, x47, x48, x49, x288000, x288001, x288002 => if x49 < x48 then (if 0 ≤ x49 then (if x49 < (x47.length : Int) then ((impl_cut.f k (rdOf ByteArray.empty x47 x49) 59).bind fun t294 => (if (t294.length : Int) = 2 then (if 0 < (t294.length : Int) then ((impl_ParseInt.f k (rdOf ByteArray.empty t294 0)).bind fun bt298 => (if 1 < (t294.length : Int) then ((impl_ParseRows.f k (rdOf ByteArray.empty t294 1)).bind fun bt301 => (if bt298.2 = true then (if bt301.2 = true then (if x288000.length < 4398046511104 then (impl_ParseAggregator.l0 k x6 x47 x48 (wrap64 (x49 + 1)) (x288000 ++ [(⟨bt301.1, bt298.1⟩ : S79)]) x288001 x288002) else (none)) else (some (([] : List (S79)), 0, false, false))) else (some (([] : List (S79)), 0, false, false)))) else (none))) else (none)) else (some (([] : List (S79)), 0, false, false)))) else (none)) else (none)) else (if x6 = true then ((impl_IsValidAggregator.f k x288000 x288001 x288002).bind fun t292 => (if t292 = true then (some (x288000, x288001, x288002, true)) else (some (([] : List (S79)), 0, false, false)))) else (some (([] : List (S79)), 0, false, false)))
end
def impl_ParseAggregator.f (k : Nat) (a0 : ByteArray) : Option ((List (S79)) × Int × Bool × Bool) := (impl_cut.f k a0 47).bind fun t278 => (if (t278.length : Int) < 2 then (impl_ParseAggregator.j0 k t278 true) else (if 1 < (t278.length : Int) then (if (rdOf ByteArray.empty t278 1).toList = ([48] : List UInt8) then (impl_ParseAggregator.j0 k t278 false) else (impl_ParseAggregator.j0 k t278 ((rdOf ByteArray.empty t278 1).toList != ([49] : List UInt8)))) else (none)))
theorem impl_ParseAggregator.mono_l : ∀ k, (∀ y0 y1, LeO (impl_ParseAggregator.j0 k y0 y1) (impl_ParseAggregator.j0 (k + 1) y0 y1)) ∧ (∀ y0 y1 y2 y3 y4 y5 y6, LeO (impl_ParseAggregator.l0 k y0 y1 y2 y3 y4 y5 y6) (impl_ParseAggregator.l0 (k + 1) y0 y1 y2 y3 y4 y5 y6))
 | 0 => ⟨fun _ _ r h => by simp [impl_ParseAggregator.j0] at h, fun _ _ _ _ _ _ _ r h => by simp [impl_ParseAggregator.l0] at h⟩
 | k + 1 => by
  obtain ⟨ih0, ih1⟩ := impl_ParseAggregator.mono_l k
  refine ⟨?_, ?_⟩
  ·intro y0 y1
   unfold impl_ParseAggregator.j0
   repeat' first
   | (with_reducible exact ih1 _ _ _ _ _ _ _)
   | (with_reducible exact impl_ParseInt.mono _ _)
   | (with_reducible exact LeO.refl _)
   | (with_reducible refine LeO.ite ?_ ?_)
   | (with_reducible refine LeO.bind ?_ (fun _ => ?_))
  ·intro y0 y1 y2 y3 y4 y5 y6
   unfold impl_ParseAggregator.l0
   repeat' first
   | (with_reducible exact ih1 _ _ _ _ _ _ _)
   | (with_reducible exact impl_IsValidAggregator.mono _ _ _ _)
   | (with_reducible exact impl_ParseInt.mono _ _)
   | (with_reducible exact impl_ParseRows.mono _ _)
   | (with_reducible exact impl_cut.mono _ _ _)
   | (with_reducible exact LeO.refl _)
   | (with_reducible refine LeO.ite ?_ ?_)
   | (with_reducible refine LeO.bind ?_ (fun _ => ?_))
theorem impl_ParseAggregator.mono : ∀ a0 k, LeO (impl_ParseAggregator.f k a0) (impl_ParseAggregator.f (k + 1) a0) := by
 intro a0 k
 obtain ⟨ih0, ih1⟩ := impl_ParseAggregator.mono_l k
 unfold impl_ParseAggregator.f
 repeat' first
   | (with_reducible exact ih0 _ _)
   | (with_reducible exact impl_cut.mono _ _ _)
   | (with_reducible exact LeO.refl _)
   | (with_reducible refine LeO.ite ?_ ?_)
   | (with_reducible refine LeO.bind ?_ (fun _ => ?_))
set_option maxHeartbeats 8000000 in
set_option maxRecDepth 100000 in
theorem impl_ParseAggregator.calls (k : Nat) (a0 : ByteArray) (r1 : List (S79)) (r2 : Int) (r3 : Bool) (r4 : Bool) (w : World) (h : impl_ParseAggregator.f k a0 = some (r1, r2, r3, r4)) :
  Calls Try.prog 13 #[.string a0] w fun e w' => ∃ v0_ : Value, e = .returned (.tuple #[.agg #[v0_, .int .i64 r2, .bool r3], .bool r4]) ∧ Kd.S k79 79 w' w.heap.size (fun _ => True) v0_ r1 ∧ Below w.heap.size w w' := by
 have hu24 := Try.underlying24
 have hu79 := Try.underlying79
 have HB := Aside0.mk (Below.refl w.heap.size w)
 have H : ((impl_cut.f k a0 47).bind fun t278 => (if (t278.length : Int) < 2 then (impl_ParseAggregator.j0 k t278 true) else (if 1 < (t278.length : Int) then (if (rdOf ByteArray.empty t278 1).toList = ([48] : List UInt8) then (impl_ParseAggregator.j0 k t278 false) else (impl_ParseAggregator.j0 k t278 ((rdOf ByteArray.empty t278 1).toList != ([49] : List UInt8)))) else (none)))) = some (r1, r2, r3, r4) := h
 clear h
 replace H := Option.bind_eq_some_iff.mp H
 obtain ⟨t278, A20, H⟩ := H
 have A2 := Aside0.mk A20
 clear A20
 have HC3 := Aside0.mk H
 clear H
 go_enter Try.func13, Try.ntmps13
 go_upto_region 2 with (first | ((with_reducible refine gate_dst (N := 2) rfl ?_); refine box_event ?hg (N := 2) ?hd (cs := #[.slice none 0 0, .int .i64 0, .bool false]) (t := 24) ?hr ?_; (case hd => rfl); (case hg => rfl); (case hr => (go_simp; done)); intro gb277 hg w4 hbox hb; have n0_ := Aside0.mk (below_step HB.out hb); have n1_ := Aside0.mk (hbox); have n2_ := Aside0.mk ((by rw [hg]; exact (below_size HB.out) : w.heap.size ≤ gb277)); have n3_ := Aside0.mk ((by rw [hg]; exact (below_size HB.out) : w.heap.size ≤ gb277)); clear HB; have HB := n0_; have BK277 := n1_; have GW277 := n2_; have GE277 := n3_; clear n0_ n1_ n2_ n3_; clear hb hbox hg) | ((with_reducible refine gate_callee (f := 86) rfl ?_); refine goesL_ (some 16) rfl rfl Try.func86 (by kernel_rfl) rfl #[.string a0, .int .u8 47] rfl (by (try simp only [List.map_toArray, List.map_cons, List.map_nil]); rfl) ?_; (with_reducible refine (impl_cut.calls k a0 47 t278 _ A2.out).mono ?_); rintro e w5 ⟨v279, rfl, ho0, hb⟩; refine ⟨_, rfl, ?_⟩; have n0_ := Aside0.mk (Kd.R_lower ho0 (below_size HB.out)); have n1_ := Aside0.mk (blk_below (g := gb277) (o := .cells #[.slice none 0 0, .int .i64 0, .bool false] 24 (0, 0)) BK277.out hb); have n2_ := Aside0.mk (below_step HB.out hb); clear BK277; clear HB; have HO280 := n0_; have BK277 := n1_; have HB := n2_; clear n0_ n1_ n2_; (try clear hb); (try clear hb2); (try clear hk); (try clear hi); (try clear ho0)))
 (try simp only [Act.put, List.setIfInBounds_toArray, List.set_cons_zero, List.set_cons_succ])
 go_cut [31] (fun v31 wc => ∃ (kq : Nat) (x31_2 : Bool), v31 = .bool x31_2 ∧ Aside0 (impl_ParseAggregator.j0 kq t278 x31_2 = some (r1, r2, r3, r4)) ∧ Aside0 (kq ≤ k) ∧ Aside0 (Kd.R Kd.string 9 wc w.heap.size (fun _ => True) v279 t278) ∧ Aside0 (wc.heap[gb277]? = some (.cells #[(.slice none 0 0), .int .i64 0, .bool false] 24 (0, 0))) ∧ Aside0 (Below w.heap.size w wc))
 case first =>
  have H := HC3.out
  clear HC3
  by_cases c6 : (t278.length : Int) < 2
  ·rw [if_pos c6] at H
   have c6b0 : decide ((t278.length : Int) < 2) = true := decide_eq_true c6
   have c6b1 : decide (t278.length < 2) = true := decide_eq_true (by omega)
   clear c6
   (skip)
   have H' := Aside0.mk H
   clear H
   obtain ⟨Ao7, co7, eo7⟩ := Kd.R_slice HO280.out
   subst eo7
   go_wp2
   go_meet
   case rel => exact ⟨_, (true), rfl, H', ⟨by omega⟩, ⟨HO280.out⟩, ⟨BK277.out⟩, ⟨HB.out⟩⟩
  ·rw [if_neg c6] at H
   have c6b0 : decide ((t278.length : Int) < 2) = false := decide_eq_false c6
   have c6b1 : decide (t278.length < 2) = false := decide_eq_false (by omega)
   clear c6
   (skip)
   by_cases c8 : 1 < (t278.length : Int)
   ·rw [if_pos c8] at H
    have c8b0 : decide (1 < (t278.length : Int)) = true := decide_eq_true c8
    have c8b1 : decide (1 < t278.length) = true := decide_eq_true (by omega)
    clear c8
    by_cases c9 : (rdOf ByteArray.empty t278 1).toList = ([48] : List UInt8)
    ·rw [if_pos c9] at H
     have c9b0 : ((rdOf ByteArray.empty t278 1).toList == ([48] : List UInt8)) = true := beq_iff_eq.mpr c9
     have c9b1 : ((rdOf ByteArray.empty t278 1).toList != ([48] : List UInt8)) = false := bne_eq_false_iff_eq.mpr c9
     clear c9
     have H' := Aside0.mk H
     clear H
     obtain ⟨Ao10, co10, eo10⟩ := Kd.R_slice HO280.out
     subst eo10
     have p281 : 0 ≤ (1 : Int) := (by omega)
     have q281 : 1 < (t278.length : Int) := of_decide_eq_true (by (with_reducible assumption))
     obtain ⟨ad281, e281, hx281_0⟩ := Kd.at_string (Kd.R_reads' HO280.out).2.2 1 p281 q281
     cases e281
     (try simp only [show (1 : Int).toNat = 1 from rfl, Nat.reduceMul, Nat.reduceEqDiff, Go.Addr.add, ↓reduceIte] at hx281_0)
     have qi281 : (1 < t278.length) = True := eq_true (by omega)
     (try rw [show ((1 : Int)).toNat = 1 from rfl] at hx281_0)
     replace p281 := eq_true p281
     replace q281 := eq_true q281
     go_wp2
     go_meet
     case rel => exact ⟨_, (false), rfl, H', ⟨by omega⟩, ⟨HO280.out⟩, ⟨BK277.out⟩, ⟨HB.out⟩⟩
    ·rw [if_neg c9] at H
     have c9b0 : ((rdOf ByteArray.empty t278 1).toList == ([48] : List UInt8)) = false := beq_eq_false_iff_ne.mpr c9
     have c9b1 : ((rdOf ByteArray.empty t278 1).toList != ([48] : List UInt8)) = true := bne_iff_ne.mpr c9
     have H' := Aside0.mk H
     clear H
     obtain ⟨Ao11, co11, eo11⟩ := Kd.R_slice HO280.out
     subst eo11
     have p281 : 0 ≤ (1 : Int) := (by omega)
     have q281 : 1 < (t278.length : Int) := of_decide_eq_true (by (with_reducible assumption))
     obtain ⟨ad281, e281, hx281_0⟩ := Kd.at_string (Kd.R_reads' HO280.out).2.2 1 p281 q281
     cases e281
     (try simp only [show (1 : Int).toNat = 1 from rfl, Nat.reduceMul, Nat.reduceEqDiff, Go.Addr.add, ↓reduceIte] at hx281_0)
     have qi281 : (1 < t278.length) = True := eq_true (by omega)
     (try rw [show ((1 : Int)).toNat = 1 from rfl] at hx281_0)
     replace p281 := eq_true p281
     replace q281 := eq_true q281
     have p282 : 0 ≤ (1 : Int) := (by omega)
     have q282 : 1 < (t278.length : Int) := of_decide_eq_true (by (with_reducible assumption))
     obtain ⟨ad282, e282, hx282_0⟩ := Kd.at_string (Kd.R_reads' HO280.out).2.2 1 p282 q282
     obtain rfl : ad281 = ad282 := (by injection e282)
     (try simp only [show (1 : Int).toNat = 1 from rfl, Nat.reduceMul, Nat.reduceEqDiff, Go.Addr.add, ↓reduceIte] at hx282_0)
     have qi282 : (1 < t278.length) = True := eq_true (by omega)
     (try rw [show ((1 : Int)).toNat = 1 from rfl] at hx282_0)
     replace p282 := eq_true p282
     replace q282 := eq_true q282
     go_wp2
     go_meet
     case rel => exact ⟨_, (((rdOf ByteArray.empty t278 1).toList != ([49] : List UInt8))), rfl, H', ⟨by omega⟩, ⟨HO280.out⟩, ⟨BK277.out⟩, ⟨HB.out⟩⟩
   ·rw [if_neg c8] at H
    exact absurd H (by simp)
 case rest =>
  clear HC3
  obtain ⟨kq, x31_2, rfl, HA, HJ2, HO_4, BK277, HB⟩ := hcut
  cases kq with
  | zero => exact absurd HA.out (by simp [impl_ParseAggregator.j0])
  | succ kj2 =>
   have H := HA.out
   clear HA
   simp only [impl_ParseAggregator.j0] at H
   by_cases c12 : x31_2 = true
   ·subst c12
    rw [if_pos rfl] at H
    simp only [Option.some.injEq, Prod.mk.injEq] at H
    obtain ⟨rfl, rfl, rfl, rfl⟩ := H
    have hcz13_0 : wc.cell? ⟨gb277, 0, none⟩ = some (.slice none 0 0) := (blk_cell BK277.out 0).trans rfl
    have hcz13_1 : wc.cell? ⟨gb277, 1, none⟩ = some (.int .i64 0) := (blk_cell BK277.out 1).trans rfl
    have hcz13_2 : wc.cell? ⟨gb277, 2, none⟩ = some (.bool false) := (blk_cell BK277.out 2).trans rfl
    have hfz13_0 := blk_frozen BK277.out 0
    have hfz13_1 := blk_frozen BK277.out 1
    have hfz13_2 := blk_frozen BK277.out 2
    go_wp2
    refine bodyPost_ret (results_ct rfl _ _ gb277 24 #[.slice none 0 0, .int .i64 0, .bool false] (0, 0) _ rfl (by refine blk_put (cs := #[.slice none 0 0, .int .i64 0, .bool false]) ?_ 2 _ rfl; refine blk_put (cs := #[.slice none 0 0, .int .i64 0, .bool false]) ?_ 1 _ rfl; refine blk_put (cs := #[.slice none 0 0, .int .i64 0, .bool false]) ?_ 0 _ rfl; exact BK277.out) Try.underlying24 rfl (by kernel_rfl)) rfl ?_
    exact ⟨_, rfl, by exact Kd.S_nil _ _ _ _ _, by repeat ((with_reducible first | exact HB.out | refine below_set ?_ GE277.out))⟩
   ·replace c12 := Bool.eq_false_iff.mpr c12
    subst c12
    rw [if_neg (show ¬ (false = true) by decide)] at H
    by_cases c14 : 0 < (t278.length : Int)
    ·rw [if_pos c14] at H
     have c14b0 : decide (0 < (t278.length : Int)) = true := decide_eq_true c14
     have c14b1 : decide (0 < t278.length) = true := decide_eq_true (by omega)
     clear c14
     replace H := Option.bind_eq_some_iff.mp H
     obtain ⟨⟨t284, t285⟩, A150, H⟩ := H
     have A15 := Aside0.mk A150
     clear A150
     by_cases c16 : 1 < (t278.length : Int)
     ·rw [if_pos c16] at H
      have c16b0 : decide (1 < (t278.length : Int)) = true := decide_eq_true c16
      have c16b1 : decide (1 < t278.length) = true := decide_eq_true (by omega)
      clear c16
      by_cases c17 : 2 ≤ (t278.length : Int)
      ·rw [if_pos c17] at H
       have c17b0 := eq_true c17
       have c17b1 : decide (2 ≤ (t278.length : Int)) = true := decide_eq_true c17
       clear c17
       obtain ⟨y288, hy288, H⟩ := bindO_ H
       have Ny288 := Aside0.mk hy288
       clear hy288
       have H' := Aside0.mk H
       clear H
       obtain ⟨Ao18, co18, eo18⟩ := Kd.R_slice HO_4.out
       subst eo18
       have p283 : 0 ≤ (0 : Int) := (by omega)
       have q283 : 0 < (t278.length : Int) := of_decide_eq_true (by (with_reducible assumption))
       obtain ⟨ad283, e283, hx283_0⟩ := Kd.at_string (Kd.R_reads' HO_4.out).2.2 0 p283 q283
       cases e283
       have qi283 : (0 < t278.length) = True := eq_true (by omega)
       (try rw [show ((0 : Int)).toNat = 0 from rfl] at hx283_0)
       (try rw [Addr.add_zero'] at hx283_0)
       replace p283 := eq_true p283
       replace q283 := eq_true q283
       go_wp2_with (first | ((with_reducible refine gate_callee (f := 87) rfl ?_); refine goesL_ (some 37) rfl rfl Try.func87 (by kernel_rfl) rfl #[.string (rdOf ByteArray.empty t278 0)] rfl (by (try simp only [List.map_toArray, List.map_cons, List.map_nil]); rfl) ?_; (with_reducible refine (impl_ParseInt.calls kj2 (rdOf ByteArray.empty t278 0) t284 t285 _ A15.out).mono ?_); rintro e w19 ⟨rfl, hb⟩; refine ⟨_, rfl, ?_⟩; have n0_ := Aside0.mk (Kd.R_below HO_4.out hb); have n1_ := Aside0.mk (blk_below (g := gb277) (o := .cells #[.slice none 0 0, .int .i64 0, .bool false] 24 (0, 0)) BK277.out hb); have n2_ := Aside0.mk (below_step HB.out hb); clear HO_4; clear BK277; clear HB; have HO_4 := n0_; have BK277 := n1_; have HB := n2_; clear n0_ n1_ n2_; (try clear hb); (try clear hb2); (try clear hk); (try clear hi); have p286 : 0 ≤ (1 : Int) := (by omega); have q286 : 1 < (t278.length : Int) := of_decide_eq_true (by (with_reducible assumption)); obtain ⟨ad286, e286, hx286_0⟩ := Kd.at_string (Kd.R_reads' HO_4.out).2.2 1 p286 q286; obtain rfl : ad283 = ad286 := (by injection e286); (try simp only [show (1 : Int).toNat = 1 from rfl, Nat.reduceMul, Nat.reduceEqDiff, Go.Addr.add, ↓reduceIte] at hx286_0); have qi286 : (1 < t278.length) = True := eq_true (by omega); (try rw [show ((1 : Int)).toNat = 1 from rfl] at hx286_0); replace p286 := eq_true p286; replace q286 := eq_true q286) | ((with_reducible refine gate_dst (N := 7) rfl ?_); refine box_event ?hg (N := 7) ?hd (cs := #[.slice none 0 0, .int .i64 0, .bool false]) (t := 24) ?hr ?_; (case hd => rfl); (case hg => rfl); (case hr => (go_simp; done)); intro gb287 hg w20 hbox hb; have n0_ := Aside0.mk (Kd.R_below HO_4.out hb); have n1_ := Aside0.mk (blk_below (g := gb277) (o := .cells #[.slice none 0 0, .int .i64 0, .bool false] 24 (0, 0)) BK277.out hb); have n2_ := Aside0.mk (below_step HB.out hb); have n3_ := Aside0.mk (hbox); have n4_ := Aside0.mk ((by rw [hg]; exact (below_size HB.out) : w.heap.size ≤ gb287)); have n5_ := Aside0.mk ((by rw [hg]; exact (below_size HB.out) : w.heap.size ≤ gb287)); have n6_ := Aside0.mk ((by rw [hg]; exact Nat.ne_of_lt (blk_lt (g := gb277) (o := .cells #[.slice none 0 0, .int .i64 0, .bool false] 24 (0, 0)) BK277.out) : gb277 ≠ gb287)); have n7_ := Aside0.mk ((by rw [hg]; exact Nat.ne_of_gt (blk_lt (g := gb277) (o := .cells #[.slice none 0 0, .int .i64 0, .bool false] 24 (0, 0)) BK277.out) : gb287 ≠ gb277)); clear HO_4; clear BK277; clear HB; have HO_4 := n0_; have BK277 := n1_; have HB := n2_; have BK287 := n3_; have GW287 := n4_; have GE287 := n5_; have NB277_287 := n6_; have NB287_277 := n7_; clear n0_ n1_ n2_ n3_ n4_ n5_ n6_ n7_; clear hb hbox hg; have hnb21 := NB287_277.out; have hnc21 := NB277_287.out; have hcz22_0 : w20.cell? ⟨gb287, 0, none⟩ = some (.slice none 0 0) := (blk_cell BK287.out 0).trans rfl; have hcz22_1 : w20.cell? ⟨gb287, 1, none⟩ = some (.int .i64 0) := (blk_cell BK287.out 1).trans rfl; have hcz22_2 : w20.cell? ⟨gb287, 2, none⟩ = some (.bool false) := (blk_cell BK287.out 2).trans rfl; have hfz22_0 := blk_frozen BK287.out 0; have hfz22_1 := blk_frozen BK287.out 1; have hfz22_2 := blk_frozen BK287.out 2) | ((with_reducible refine gate_store (t := 24) (p := 7) rfl ?_); refine store_event (t := 24) (p := 7) (v := ?vo_w23) (w1 := (((w20.setCell ⟨gb287, 0, none⟩ (.slice none 0 0)).setCell ⟨gb287, 1, none⟩ (.int .i64 t284)).setCell ⟨gb287, 2, none⟩ (.bool ((rdOf ByteArray.empty t278 1).toList == ([49] : List UInt8))))) ?hg ?ho ?hn ?hr ?_; (case ho => rfl); (case hg => rfl); (case hn => rfl); (case hr => (go_simp; done)); intro w23 hw; have n0_ : Aside0 (Kd.R Kd.string 9 w23 w.heap.size (fun _ => True) (.slice (some ad283) t278.length co18) t278) := ⟨(by rw [hw]; exact (by exact Kd.R_mono (Kd.R_far (p := ⟨gb287, 2, none⟩) (Kd.R_far (p := ⟨gb287, 1, none⟩) (Kd.R_far (p := ⟨gb287, 0, none⟩) (Kd.R_types HO_4.out BK287.out (by decide)) (fun _ hk => hk.2) (.slice none 0 0)) (fun _ hk => hk.2) (.int .i64 t284)) (fun _ hk => hk.2) (.bool ((rdOf ByteArray.empty t278 1).toList == ([49] : List UInt8)))) (fun _ hk => trivial)))⟩; have n1_ : Aside0 (w23.heap[gb277]? = some (.cells #[.slice none 0 0, .int .i64 0, .bool false] 24 (0, 0))) := ⟨(by rw [hw]; exact (by refine blk_far ?_ NB277_287.out _; refine blk_far ?_ NB277_287.out _; refine blk_far ?_ NB277_287.out _; exact BK277.out))⟩; have n2_ : Aside0 (w23.heap[gb287]? = some (.cells #[.slice none 0 0, .int .i64 t284, .bool ((rdOf ByteArray.empty t278 1).toList == ([49] : List UInt8))] 24 (0, 0))) := ⟨(by rw [hw]; exact (by refine blk_put (cs := #[.slice none 0 0, .int .i64 t284, .bool false]) ?_ 2 _ rfl; refine blk_put (cs := #[.slice none 0 0, .int .i64 0, .bool false]) ?_ 1 _ rfl; refine blk_put (cs := #[.slice none 0 0, .int .i64 0, .bool false]) ?_ 0 _ rfl; exact BK287.out))⟩; have n3_ : Aside0 (Below w.heap.size w w23) := ⟨(by rw [hw]; exact (by repeat (with_reducible first | exact HB.out | refine below_set ?_ GE287.out)))⟩; clear hw; clear HO_4; clear BK277; clear BK287; clear HB; have HO_4 := n0_; have BK277 := n1_; have BK287 := n2_; have HB := n3_; clear n0_ n1_ n2_ n3_; have q24 : (2 : Int) ≤ ((t278.length : Int) : Int) := of_decide_eq_true (by (with_reducible assumption)); obtain ⟨i024, hi024, _, hsz24, _⟩ := info_parts info9; have hroom24 : t278.length ≤ co18 := (Kd.R_reads' HO_4.out).2.1; have hC24 : Kd.C Kd.string _ (some ad283) t278.length t278 := (Kd.R_reads' HO_4.out).2.2; have hcut24 := cut_from (P := Try.prog) 101 9 .i64 Try.underlying101 hi024 1 hsz24 (some ad283) t278.length co18 2 (by omega) q24; have hr24 := Kd.C_drop (m := (2 : Int).toNat) (c := co18) hC24 (by omega) hroom24; obtain ⟨A24, hA24⟩ : ∃ A1, A1 = (if co18 = (2 : Int).toNat then (some ad283) else ((some ad283) : Option Addr).map (·.add ((2 : Int).toNat * 1))) := ⟨_, rfl⟩; obtain ⟨c24, hc24⟩ : ∃ c1, c1 = co18 - (2 : Int).toNat := ⟨_, rfl⟩; have hy24 : y288.length = t278.length - (2 : Int).toNat := (by rw [Ny288.out, List.length_drop] <;> omega); rw [show (t278).drop (2 : Int).toNat = y288 from Ny288.out.symm] at hr24; replace hr24 : Kd.C Kd.string _ A24 y288.length y288 := (by rw [hA24]; exact hr24); rw [← hy24, ← hA24, ← hc24] at hcut24; have HR291 := Aside0.mk hr24; have HC291 := Aside0.mk (show y288.length ≤ c24 from by rw [hy24, hc24]; exact Nat.sub_le_sub_right hroom24 _); clear hr24 hC24 hroom24 hi024 hsz24 hc24; have KY24 := Aside0.mk hy24; have KA24 := Aside0.mk hA24; clear hy24 hA24; have KL24 := Aside0.mk (show 2 ≤ t278.length from by omega); replace q24 := eq_true q24))
       go_loopg [49] kj2 (fun kq v49 w' => ∃ (x49_2 : Int) (x278001_2 : Int) (x278002_2 : Bool) (x288000_2 : List (S79)) (u288000 : Value), v49 = .int .i64 x49_2 ∧ Aside0 (impl_ParseAggregator.l0 kq t285 y288 (y288.length : Int) x49_2 x288000_2 t284 ((rdOf ByteArray.empty t278 1).toList == ([49] : List UInt8)) = some (r1, r2, r3, r4)) ∧ Aside0 (kq ≤ kj2) ∧ Aside0 (Kd.S k79 79 w' w.heap.size (fun _ => True) u288000 x288000_2) ∧ Aside0 (w'.heap[gb277]? = some (.cells #[(.slice none 0 0), .int .i64 x278001_2, .bool x278002_2] 24 (0, 0))) ∧ Aside0 (w'.heap[gb287]? = some (.cells #[u288000, .int .i64 t284, .bool ((rdOf ByteArray.empty t278 1).toList == ([49] : List UInt8))] 24 (0, 0))) ∧ Aside0 (Kd.R Kd.string 9 w' w.heap.size (fun _ => True) (.slice (some ad283) t278.length co18) t278) ∧ Aside0 (Below w.heap.size w w'))
       case atStart => exact ⟨(0), (0), (false), (([] : List (S79))), (.slice none 0 0), rfl, H', ⟨Nat.le_refl _⟩, ⟨by exact Kd.S_nil _ _ _ _ _⟩, ⟨BK277.out⟩, ⟨BK287.out⟩, ⟨HO_4.out⟩, ⟨HB.out⟩⟩
       case round =>
        clear H'
        try clear c14b0
        try clear c14b1
        try clear c16b0
        try clear c16b1
        try clear c17b0
        try clear c17b1
        try clear q24
        try clear hcz22_0
        try clear hcz22_1
        try clear hcz22_2
        try clear hfz22_0
        try clear hfz22_1
        try clear hfz22_2
        try clear hx283_0
        try clear hx286_0
        try clear p283
        try clear p286
        try clear q283
        try clear q286
        try clear HO_4
        try clear HR291
        obtain ⟨x49_2, x278001_2, x278002_2, x288000_2, u288000, rfl, HA, HK2, HO_288000, BK277, BK287, HO_4, HB⟩ := hrel
        have HR291 : Aside0 (Kd.C Kd.string wr A24 y288.length y288) := ⟨by have hr_ := Kd.C_drop (m := (2 : Int).toNat) (c := co18) (Kd.R_reads' HO_4.out).2.2 (by have := KL24.out; omega) (Kd.R_reads' HO_4.out).2.1; rw [show (t278).drop (2 : Int).toNat = y288 from Ny288.out.symm] at hr_; rw [KA24.out]; exact hr_⟩
        cases gk with
        | zero => exact absurd HA.out (by simp [impl_ParseAggregator.l0])
        | succ k2 =>
         have H := HA.out
         clear HA
         simp only [impl_ParseAggregator.l0] at H
         by_cases c25 : x49_2 < (y288.length : Int)
         ·rw [if_pos c25] at H
          have c25b0 : decide (x49_2 < (y288.length : Int)) = true := decide_eq_true c25
          clear c25
          by_cases c26 : 0 ≤ x49_2
          ·rw [if_pos c26] at H
           have c26b0 : decide (0 ≤ x49_2) = true := decide_eq_true c26
           clear c26
           by_cases c27 : x49_2 < (y288.length : Int)
           ·rw [if_pos c27] at H
            have c27b0 : decide (x49_2 < (y288.length : Int)) = true := decide_eq_true c27
            clear c27
            replace H := Option.bind_eq_some_iff.mp H
            obtain ⟨t294, A280, H⟩ := H
            have A28 := Aside0.mk A280
            clear A280
            by_cases c29 : (t294.length : Int) = 2
            ·rw [if_pos c29] at H
             have c29b0 : ((t294.length : Int) == 2) = true := beq_iff_eq.mpr c29
             have c29b1 : ((t294.length : Int) != 2) = false := bne_eq_false_iff_eq.mpr c29
             clear c29
             by_cases c30 : 0 < (t294.length : Int)
             ·rw [if_pos c30] at H
              have c30b0 : decide (0 < (t294.length : Int)) = true := decide_eq_true c30
              have c30b1 : decide (0 < t294.length) = true := decide_eq_true (by omega)
              clear c30
              replace H := Option.bind_eq_some_iff.mp H
              obtain ⟨⟨t298, t299⟩, A310, H⟩ := H
              have A31 := Aside0.mk A310
              clear A310
              by_cases c32 : 1 < (t294.length : Int)
              ·rw [if_pos c32] at H
               have c32b0 : decide (1 < (t294.length : Int)) = true := decide_eq_true c32
               have c32b1 : decide (1 < t294.length) = true := decide_eq_true (by omega)
               clear c32
               replace H := Option.bind_eq_some_iff.mp H
               obtain ⟨⟨t301, t302⟩, A330, H⟩ := H
               have A33 := Aside0.mk A330
               clear A330
               by_cases c34 : t299 = true
               ·subst c34
                rw [if_pos rfl] at H
                by_cases c35 : t302 = true
                ·subst c35
                 rw [if_pos rfl] at H
                 by_cases c36 : x288000_2.length < 4398046511104
                 ·rw [if_pos c36] at H
                  have LMc36 := Aside0.mk c36
                  clear c36
                  obtain ⟨y305, hy305⟩ : ∃ y_ : List (S79), y_ = (x288000_2 ++ [(⟨t301, t298⟩ : S79)]) := ⟨_, rfl⟩
                  replace H : (impl_ParseAggregator.l0 k2 t285 y288 (y288.length : Int) (wrap64 (x49_2 + 1)) y305 t284 ((rdOf ByteArray.empty t278 1).toList == ([49] : List UInt8))) = some (r1, r2, r3, r4) := by (rw [hy305]; with_reducible exact H)
                  have Ny305 := Aside0.mk hy305
                  clear hy305
                  have H' := Aside0.mk H
                  clear H
                  have p293 : 0 ≤ (x49_2 : Int) := of_decide_eq_true (by (with_reducible assumption))
                  have q293 : x49_2 < (y288.length : Int) := of_decide_eq_true (by (with_reducible assumption))
                  obtain ⟨ad293, e293, hx293_0⟩ := Kd.at_string HR291.out x49_2 p293 q293
                  cases e293
                  skip
                  replace p293 := eq_true p293
                  replace q293 := eq_true q293
                  go_wp2_with (first | ((with_reducible refine gate_callee (f := 86) rfl ?_); refine goesL_ (some 54) rfl rfl Try.func86 (by kernel_rfl) rfl #[.string (rdOf ByteArray.empty y288 x49_2), .int .u8 59] rfl (by (try simp only [List.map_toArray, List.map_cons, List.map_nil]); rfl) ?_; (with_reducible refine (impl_cut.calls k2 (rdOf ByteArray.empty y288 x49_2) 59 t294 _ A28.out).mono ?_); rintro e w37 ⟨v295, rfl, ho0, hb⟩; refine ⟨_, rfl, ?_⟩; have n0_ := Aside0.mk (Kd.S_below HO_288000.out hb); have n1_ := Aside0.mk (Kd.R_lower ho0 (below_size HB.out)); have n2_ := Aside0.mk (blk_below (g := gb277) (o := .cells #[.slice none 0 0, .int .i64 x278001_2, .bool x278002_2] 24 (0, 0)) BK277.out hb); have n3_ := Aside0.mk (blk_below (g := gb287) (o := .cells #[u288000, .int .i64 t284, .bool ((rdOf ByteArray.empty t278 1).toList == ([49] : List UInt8))] 24 (0, 0)) BK287.out hb); have n4_ := Aside0.mk (below_step HB.out hb); have nz_ := Aside0.mk (Kd.R_below HO_4.out hb); clear HO_4; have HO_4 := nz_; clear nz_; clear HO_288000; clear BK277; clear BK287; clear HB; have HO_288000 := n0_; have HO296 := n1_; have BK277 := n2_; have BK287 := n3_; have HB := n4_; clear n0_ n1_ n2_ n3_ n4_; (try clear hb); (try clear hb2); (try clear hk); (try clear hi); (try clear ho0); obtain ⟨Ao38, co38, eo38⟩ := Kd.R_slice HO296.out; subst eo38; have p297 : 0 ≤ (0 : Int) := (by omega); have q297 : 0 < (t294.length : Int) := of_decide_eq_true (by (with_reducible assumption)); obtain ⟨ad297, e297, hx297_0⟩ := Kd.at_string (Kd.R_reads' HO296.out).2.2 0 p297 q297; cases e297; have qi297 : (0 < t294.length) = True := eq_true (by omega); (try rw [show ((0 : Int)).toNat = 0 from rfl] at hx297_0); (try rw [Addr.add_zero'] at hx297_0); replace p297 := eq_true p297; replace q297 := eq_true q297) | ((with_reducible refine gate_callee (f := 87) rfl ?_); refine goesL_ (some 63) rfl rfl Try.func87 (by kernel_rfl) rfl #[.string (rdOf ByteArray.empty t294 0)] rfl (by (try simp only [List.map_toArray, List.map_cons, List.map_nil]); rfl) ?_; (with_reducible refine (impl_ParseInt.calls k2 (rdOf ByteArray.empty t294 0) t298 true _ A31.out).mono ?_); rintro e w39 ⟨rfl, hb⟩; refine ⟨_, rfl, ?_⟩; have n0_ := Aside0.mk (Kd.S_below HO_288000.out hb); have n1_ := Aside0.mk (Kd.R_below HO296.out hb); have n2_ := Aside0.mk (blk_below (g := gb277) (o := .cells #[.slice none 0 0, .int .i64 x278001_2, .bool x278002_2] 24 (0, 0)) BK277.out hb); have n3_ := Aside0.mk (blk_below (g := gb287) (o := .cells #[u288000, .int .i64 t284, .bool ((rdOf ByteArray.empty t278 1).toList == ([49] : List UInt8))] 24 (0, 0)) BK287.out hb); have n4_ := Aside0.mk (below_step HB.out hb); have nz_ := Aside0.mk (Kd.R_below HO_4.out hb); clear HO_4; have HO_4 := nz_; clear nz_; clear HO_288000; clear HO296; clear BK277; clear BK287; clear HB; have HO_288000 := n0_; have HO296 := n1_; have BK277 := n2_; have BK287 := n3_; have HB := n4_; clear n0_ n1_ n2_ n3_ n4_; (try clear hb); (try clear hb2); (try clear hk); (try clear hi); have p300 : 0 ≤ (1 : Int) := (by omega); have q300 : 1 < (t294.length : Int) := of_decide_eq_true (by (with_reducible assumption)); obtain ⟨ad300, e300, hx300_0⟩ := Kd.at_string (Kd.R_reads' HO296.out).2.2 1 p300 q300; obtain rfl : ad297 = ad300 := (by injection e300); (try simp only [show (1 : Int).toNat = 1 from rfl, Nat.reduceMul, Nat.reduceEqDiff, Go.Addr.add, ↓reduceIte] at hx300_0); have qi300 : (1 < t294.length) = True := eq_true (by omega); (try rw [show ((1 : Int)).toNat = 1 from rfl] at hx300_0); replace p300 := eq_true p300; replace q300 := eq_true q300) | ((with_reducible refine gate_callee (f := 88) rfl ?_); refine goesL_ (some 70) rfl rfl Try.func88 (by kernel_rfl) rfl #[.string (rdOf ByteArray.empty t294 1)] rfl (by (try simp only [List.map_toArray, List.map_cons, List.map_nil]); rfl) ?_; (with_reducible refine (impl_ParseRows.calls k2 (rdOf ByteArray.empty t294 1) t301 true _ A33.out).mono ?_); rintro e w40 ⟨v303, rfl, ho0, hb⟩; refine ⟨_, rfl, ?_⟩; have n0_ := Aside0.mk (Kd.S_elder' HO_288000.out (Kd.R_base ho0) hb); have n1_ := Aside0.mk (Kd.R_below HO296.out hb); have n2_ := Aside0.mk (Kd.R_lower ho0 (below_size HB.out)); have n3_ := Aside0.mk (blk_below (g := gb277) (o := .cells #[.slice none 0 0, .int .i64 x278001_2, .bool x278002_2] 24 (0, 0)) BK277.out hb); have n4_ := Aside0.mk (blk_below (g := gb287) (o := .cells #[u288000, .int .i64 t284, .bool ((rdOf ByteArray.empty t278 1).toList == ([49] : List UInt8))] 24 (0, 0)) BK287.out hb); have n5_ := Aside0.mk (below_step HB.out hb); have nz_ := Aside0.mk (Kd.R_below HO_4.out hb); clear HO_4; have HO_4 := nz_; clear nz_; clear HO_288000; clear HO296; clear BK277; clear BK287; clear HB; have HO_288000 := n0_; have HO296 := n1_; have HO304 := n2_; have BK277 := n3_; have BK287 := n4_; have HB := n5_; clear n0_ n1_ n2_ n3_ n4_ n5_; (try clear hb); (try clear hb2); (try clear hk); (try clear hi); (try clear ho0); have hnb41 := NB287_277.out; have hnc41 := NB277_287.out; have hcz42_0 : w40.cell? ⟨gb287, 0, none⟩ = some (u288000) := (blk_cell BK287.out 0).trans rfl; have hcz42_1 : w40.cell? ⟨gb287, 1, none⟩ = some (.int .i64 t284) := (blk_cell BK287.out 1).trans rfl; have hcz42_2 : w40.cell? ⟨gb287, 2, none⟩ = some (.bool ((rdOf ByteArray.empty t278 1).toList == ([49] : List UInt8))) := (blk_cell BK287.out 2).trans rfl; have hfz42_0 := blk_frozen BK287.out 0; have hfz42_1 := blk_frozen BK287.out 1; have hfz42_2 := blk_frozen BK287.out 2; obtain ⟨Ao43, co43, eo43⟩ := Kd.R_slice HO304.out; subst eo43) | ((with_reducible refine gate_builtin (b := .append) (xs := #[.tmp 81, .tmp 85]) rfl ?_); at_builtin; refine Kd.S_append k79 (w0 := w) w.heap.size rfl (.tmp 81) (.tmp 85) 22 79 (.agg #[(.slice none 0 0), (.int .i64 0)]) 32 rfl Try.underlying22 info79 rfl (by decide) (by omega) u288000 x288000_2 (⟨t301, t298⟩ : S79) [.slice Ao43 t301.length co43, .int .i64 t298] (fun _ => True) (fun k_ => some k_ = (.slice Ao43 t301.length co43 : Value).ownBlock) rfl rfl ?aP (fun k_ hk_ => ((Kd.R_mono (ok' := fun k_ => (fun _ => True) k_ ∧ some k_ ≠ (u288000 : Value).ownBlock) (Kd.R_apart' HO304.out (Kd.S_typed HO_288000.out) (by decide)) (fun k_ hk => ⟨trivial, hk.2⟩))).1 k_ hk_.symm) ?aF ?aO ?aB ?aS ?aL ?_; (case aP => exact k79_mkM _ _ _ (⟨t301, t298⟩ : S79) (Kd.R_mono (Kd.R_tight rfl (Kd.R_mono (ok' := fun k_ => (fun _ => True) k_ ∧ some k_ ≠ (u288000 : Value).ownBlock) (Kd.R_apart' HO304.out (Kd.S_typed HO_288000.out) (by decide)) (fun k_ hk => ⟨trivial, hk.2⟩))) (fun _ h_ => h_))); (case aB => exact HB.out); (case aF => exact (fun _ _ => trivial)); (case aO => exact (by exact Kd.S_mono HO_288000.out (fun k_ hk => ⟨trivial, fun e_ => hk.2 e_⟩))); (case aS => exact (below_size HB.out)); (case aL => have := LMc36.out; omega); intro v306 w44 ho hb hg hat; rw [← Ny305.out] at ho; have n0_ := Aside0.mk (blk_grown (g := gb277) (o := .cells #[.slice none 0 0, .int .i64 x278001_2, .bool x278002_2] 24 (0, 0)) BK277.out hg (Kd.S_ne HO_288000.out BK277.out (by decide))); have n1_ := Aside0.mk (blk_grown (g := gb287) (o := .cells #[u288000, .int .i64 t284, .bool ((rdOf ByteArray.empty t278 1).toList == ([49] : List UInt8))] 24 (0, 0)) BK287.out hg (Kd.S_ne HO_288000.out BK287.out (by decide))); have n2_ := Aside0.mk (Kd.R_over' HO296.out (Kd.S_typed HO_288000.out) (by decide) hg); have n3_ := Aside0.mk (hb); have n4_ := Aside0.mk (ho); have nz_ := Aside0.mk (Kd.R_over' HO_4.out (Kd.S_typed HO_288000.out) (by decide) hg); clear HO_4; have HO_4 := nz_; clear nz_; clear BK277; clear BK287; clear HO296; clear HB; clear HO_288000; clear HO304; have BK277 := n0_; have BK287 := n1_; have HO296 := n2_; have HB := n3_; have HO307 := n4_; clear n0_ n1_ n2_ n3_ n4_; clear ho hb hg hat; obtain ⟨Ao45, co45, eo45⟩ := Kd.S_slice HO307.out; subst eo45; have hcz46_0 : w44.cell? ⟨gb287, 0, none⟩ = some (u288000) := (blk_cell BK287.out 0).trans rfl; have hcz46_1 : w44.cell? ⟨gb287, 1, none⟩ = some (.int .i64 t284) := (blk_cell BK287.out 1).trans rfl; have hcz46_2 : w44.cell? ⟨gb287, 2, none⟩ = some (.bool ((rdOf ByteArray.empty t278 1).toList == ([49] : List UInt8))) := (blk_cell BK287.out 2).trans rfl; have hfz46_0 := blk_frozen BK287.out 0; have hfz46_1 := blk_frozen BK287.out 1; have hfz46_2 := blk_frozen BK287.out 2))
                  go_roundg k2
                  case measure => have := HJ2.out; have := HK2.out; omega
                  case rel => exact ⟨(wrap64 (x49_2 + 1)), (x278001_2), (x278002_2), (y305), (.slice Ao45 y305.length co45), rfl, H', ⟨by have := HJ2.out; have := HK2.out; omega⟩, ⟨by exact Kd.S_mono (Kd.S_far (p := ⟨gb287, 0, none⟩) (Kd.S_types HO307.out BK287.out (by decide)) (fun _ hk => hk.2) (.slice Ao45 y305.length co45)) (fun _ hk => trivial)⟩, ⟨by refine blk_far ?_ NB277_287.out _; exact BK277.out⟩, ⟨by refine blk_put (cs := #[u288000, .int .i64 t284, .bool ((rdOf ByteArray.empty t278 1).toList == ([49] : List UInt8))]) ?_ 0 _ rfl; exact BK287.out⟩, ⟨by exact Kd.R_mono (Kd.R_far (p := ⟨gb287, 0, none⟩) (Kd.R_types HO_4.out BK287.out (by decide)) (fun _ hk => hk.2) (.slice Ao45 y305.length co45)) (fun _ hk => trivial)⟩, ⟨by repeat ((with_reducible first | exact HB.out | refine below_set ?_ GE287.out))⟩⟩
                 ·rw [if_neg c36] at H
                  exact absurd H (by simp)
                ·replace c35 := Bool.eq_false_iff.mpr c35
                 subst c35
                 rw [if_neg (show ¬ (false = true) by decide)] at H
                 simp only [Option.some.injEq, Prod.mk.injEq] at H
                 obtain ⟨rfl, rfl, rfl, rfl⟩ := H
                 have p293 : 0 ≤ (x49_2 : Int) := of_decide_eq_true (by (with_reducible assumption))
                 have q293 : x49_2 < (y288.length : Int) := of_decide_eq_true (by (with_reducible assumption))
                 obtain ⟨ad293, e293, hx293_0⟩ := Kd.at_string HR291.out x49_2 p293 q293
                 cases e293
                 skip
                 replace p293 := eq_true p293
                 replace q293 := eq_true q293
                 go_wp2_with (first | ((with_reducible refine gate_callee (f := 86) rfl ?_); refine goesL_ (some 54) rfl rfl Try.func86 (by kernel_rfl) rfl #[.string (rdOf ByteArray.empty y288 x49_2), .int .u8 59] rfl (by (try simp only [List.map_toArray, List.map_cons, List.map_nil]); rfl) ?_; (with_reducible refine (impl_cut.calls k2 (rdOf ByteArray.empty y288 x49_2) 59 t294 _ A28.out).mono ?_); rintro e w47 ⟨v295, rfl, ho0, hb⟩; refine ⟨_, rfl, ?_⟩; have n0_ := Aside0.mk (Kd.S_below HO_288000.out hb); have n1_ := Aside0.mk (Kd.R_lower ho0 (below_size HB.out)); have n2_ := Aside0.mk (blk_below (g := gb277) (o := .cells #[.slice none 0 0, .int .i64 x278001_2, .bool x278002_2] 24 (0, 0)) BK277.out hb); have n3_ := Aside0.mk (blk_below (g := gb287) (o := .cells #[u288000, .int .i64 t284, .bool ((rdOf ByteArray.empty t278 1).toList == ([49] : List UInt8))] 24 (0, 0)) BK287.out hb); have n4_ := Aside0.mk (below_step HB.out hb); have nz_ := Aside0.mk (Kd.R_below HO_4.out hb); clear HO_4; have HO_4 := nz_; clear nz_; clear HO_288000; clear BK277; clear BK287; clear HB; have HO_288000 := n0_; have HO296 := n1_; have BK277 := n2_; have BK287 := n3_; have HB := n4_; clear n0_ n1_ n2_ n3_ n4_; (try clear hb); (try clear hb2); (try clear hk); (try clear hi); (try clear ho0); obtain ⟨Ao48, co48, eo48⟩ := Kd.R_slice HO296.out; subst eo48; have p297 : 0 ≤ (0 : Int) := (by omega); have q297 : 0 < (t294.length : Int) := of_decide_eq_true (by (with_reducible assumption)); obtain ⟨ad297, e297, hx297_0⟩ := Kd.at_string (Kd.R_reads' HO296.out).2.2 0 p297 q297; cases e297; have qi297 : (0 < t294.length) = True := eq_true (by omega); (try rw [show ((0 : Int)).toNat = 0 from rfl] at hx297_0); (try rw [Addr.add_zero'] at hx297_0); replace p297 := eq_true p297; replace q297 := eq_true q297) | ((with_reducible refine gate_callee (f := 87) rfl ?_); refine goesL_ (some 63) rfl rfl Try.func87 (by kernel_rfl) rfl #[.string (rdOf ByteArray.empty t294 0)] rfl (by (try simp only [List.map_toArray, List.map_cons, List.map_nil]); rfl) ?_; (with_reducible refine (impl_ParseInt.calls k2 (rdOf ByteArray.empty t294 0) t298 true _ A31.out).mono ?_); rintro e w49 ⟨rfl, hb⟩; refine ⟨_, rfl, ?_⟩; have n0_ := Aside0.mk (Kd.S_below HO_288000.out hb); have n1_ := Aside0.mk (Kd.R_below HO296.out hb); have n2_ := Aside0.mk (blk_below (g := gb277) (o := .cells #[.slice none 0 0, .int .i64 x278001_2, .bool x278002_2] 24 (0, 0)) BK277.out hb); have n3_ := Aside0.mk (blk_below (g := gb287) (o := .cells #[u288000, .int .i64 t284, .bool ((rdOf ByteArray.empty t278 1).toList == ([49] : List UInt8))] 24 (0, 0)) BK287.out hb); have n4_ := Aside0.mk (below_step HB.out hb); have nz_ := Aside0.mk (Kd.R_below HO_4.out hb); clear HO_4; have HO_4 := nz_; clear nz_; clear HO_288000; clear HO296; clear BK277; clear BK287; clear HB; have HO_288000 := n0_; have HO296 := n1_; have BK277 := n2_; have BK287 := n3_; have HB := n4_; clear n0_ n1_ n2_ n3_ n4_; (try clear hb); (try clear hb2); (try clear hk); (try clear hi); have p300 : 0 ≤ (1 : Int) := (by omega); have q300 : 1 < (t294.length : Int) := of_decide_eq_true (by (with_reducible assumption)); obtain ⟨ad300, e300, hx300_0⟩ := Kd.at_string (Kd.R_reads' HO296.out).2.2 1 p300 q300; obtain rfl : ad297 = ad300 := (by injection e300); (try simp only [show (1 : Int).toNat = 1 from rfl, Nat.reduceMul, Nat.reduceEqDiff, Go.Addr.add, ↓reduceIte] at hx300_0); have qi300 : (1 < t294.length) = True := eq_true (by omega); (try rw [show ((1 : Int)).toNat = 1 from rfl] at hx300_0); replace p300 := eq_true p300; replace q300 := eq_true q300) | ((with_reducible refine gate_callee (f := 88) rfl ?_); refine goesL_ (some 70) rfl rfl Try.func88 (by kernel_rfl) rfl #[.string (rdOf ByteArray.empty t294 1)] rfl (by (try simp only [List.map_toArray, List.map_cons, List.map_nil]); rfl) ?_; (with_reducible refine (impl_ParseRows.calls k2 (rdOf ByteArray.empty t294 1) t301 false _ A33.out).mono ?_); rintro e w50 ⟨v303, rfl, ho0, hb⟩; refine ⟨_, rfl, ?_⟩; have n0_ := Aside0.mk (Kd.S_elder' HO_288000.out (Kd.R_base ho0) hb); have n1_ := Aside0.mk (Kd.R_below HO296.out hb); have n2_ := Aside0.mk (Kd.R_lower ho0 (below_size HB.out)); have n3_ := Aside0.mk (blk_below (g := gb277) (o := .cells #[.slice none 0 0, .int .i64 x278001_2, .bool x278002_2] 24 (0, 0)) BK277.out hb); have n4_ := Aside0.mk (blk_below (g := gb287) (o := .cells #[u288000, .int .i64 t284, .bool ((rdOf ByteArray.empty t278 1).toList == ([49] : List UInt8))] 24 (0, 0)) BK287.out hb); have n5_ := Aside0.mk (below_step HB.out hb); have nz_ := Aside0.mk (Kd.R_below HO_4.out hb); clear HO_4; have HO_4 := nz_; clear nz_; clear HO_288000; clear HO296; clear BK277; clear BK287; clear HB; have HO_288000 := n0_; have HO296 := n1_; have HO304 := n2_; have BK277 := n3_; have BK287 := n4_; have HB := n5_; clear n0_ n1_ n2_ n3_ n4_ n5_; (try clear hb); (try clear hb2); (try clear hk); (try clear hi); (try clear ho0); have hnb51 := NB277_287.out; have hnc51 := NB287_277.out; have hcz52_0 : w50.cell? ⟨gb277, 0, none⟩ = some (.slice none 0 0) := (blk_cell BK277.out 0).trans rfl; have hcz52_1 : w50.cell? ⟨gb277, 1, none⟩ = some (.int .i64 x278001_2) := (blk_cell BK277.out 1).trans rfl; have hcz52_2 : w50.cell? ⟨gb277, 2, none⟩ = some (.bool x278002_2) := (blk_cell BK277.out 2).trans rfl; have hfz52_0 := blk_frozen BK277.out 0; have hfz52_1 := blk_frozen BK277.out 1; have hfz52_2 := blk_frozen BK277.out 2))
                 refine bodyPost_ret (results_ct rfl _ _ gb277 24 #[.slice none 0 0, .int .i64 0, .bool false] (0, 0) _ rfl (by refine blk_put (cs := #[.slice none 0 0, .int .i64 0, .bool x278002_2]) ?_ 2 _ rfl; refine blk_put (cs := #[.slice none 0 0, .int .i64 x278001_2, .bool x278002_2]) ?_ 1 _ rfl; refine blk_put (cs := #[.slice none 0 0, .int .i64 x278001_2, .bool x278002_2]) ?_ 0 _ rfl; exact BK277.out) Try.underlying24 rfl (by kernel_rfl)) rfl ?_
                 exact ⟨_, rfl, by exact Kd.S_nil _ _ _ _ _, by repeat ((with_reducible first | exact HB.out | refine below_set ?_ GE277.out))⟩
               ·replace c34 := Bool.eq_false_iff.mpr c34
                subst c34
                rw [if_neg (show ¬ (false = true) by decide)] at H
                simp only [Option.some.injEq, Prod.mk.injEq] at H
                obtain ⟨rfl, rfl, rfl, rfl⟩ := H
                have p293 : 0 ≤ (x49_2 : Int) := of_decide_eq_true (by (with_reducible assumption))
                have q293 : x49_2 < (y288.length : Int) := of_decide_eq_true (by (with_reducible assumption))
                obtain ⟨ad293, e293, hx293_0⟩ := Kd.at_string HR291.out x49_2 p293 q293
                cases e293
                skip
                replace p293 := eq_true p293
                replace q293 := eq_true q293
                go_wp2_with (first | ((with_reducible refine gate_callee (f := 86) rfl ?_); refine goesL_ (some 54) rfl rfl Try.func86 (by kernel_rfl) rfl #[.string (rdOf ByteArray.empty y288 x49_2), .int .u8 59] rfl (by (try simp only [List.map_toArray, List.map_cons, List.map_nil]); rfl) ?_; (with_reducible refine (impl_cut.calls k2 (rdOf ByteArray.empty y288 x49_2) 59 t294 _ A28.out).mono ?_); rintro e w53 ⟨v295, rfl, ho0, hb⟩; refine ⟨_, rfl, ?_⟩; have n0_ := Aside0.mk (Kd.S_below HO_288000.out hb); have n1_ := Aside0.mk (Kd.R_lower ho0 (below_size HB.out)); have n2_ := Aside0.mk (blk_below (g := gb277) (o := .cells #[.slice none 0 0, .int .i64 x278001_2, .bool x278002_2] 24 (0, 0)) BK277.out hb); have n3_ := Aside0.mk (blk_below (g := gb287) (o := .cells #[u288000, .int .i64 t284, .bool ((rdOf ByteArray.empty t278 1).toList == ([49] : List UInt8))] 24 (0, 0)) BK287.out hb); have n4_ := Aside0.mk (below_step HB.out hb); have nz_ := Aside0.mk (Kd.R_below HO_4.out hb); clear HO_4; have HO_4 := nz_; clear nz_; clear HO_288000; clear BK277; clear BK287; clear HB; have HO_288000 := n0_; have HO296 := n1_; have BK277 := n2_; have BK287 := n3_; have HB := n4_; clear n0_ n1_ n2_ n3_ n4_; (try clear hb); (try clear hb2); (try clear hk); (try clear hi); (try clear ho0); obtain ⟨Ao54, co54, eo54⟩ := Kd.R_slice HO296.out; subst eo54; have p297 : 0 ≤ (0 : Int) := (by omega); have q297 : 0 < (t294.length : Int) := of_decide_eq_true (by (with_reducible assumption)); obtain ⟨ad297, e297, hx297_0⟩ := Kd.at_string (Kd.R_reads' HO296.out).2.2 0 p297 q297; cases e297; have qi297 : (0 < t294.length) = True := eq_true (by omega); (try rw [show ((0 : Int)).toNat = 0 from rfl] at hx297_0); (try rw [Addr.add_zero'] at hx297_0); replace p297 := eq_true p297; replace q297 := eq_true q297) | ((with_reducible refine gate_callee (f := 87) rfl ?_); refine goesL_ (some 63) rfl rfl Try.func87 (by kernel_rfl) rfl #[.string (rdOf ByteArray.empty t294 0)] rfl (by (try simp only [List.map_toArray, List.map_cons, List.map_nil]); rfl) ?_; (with_reducible refine (impl_ParseInt.calls k2 (rdOf ByteArray.empty t294 0) t298 false _ A31.out).mono ?_); rintro e w55 ⟨rfl, hb⟩; refine ⟨_, rfl, ?_⟩; have n0_ := Aside0.mk (Kd.S_below HO_288000.out hb); have n1_ := Aside0.mk (Kd.R_below HO296.out hb); have n2_ := Aside0.mk (blk_below (g := gb277) (o := .cells #[.slice none 0 0, .int .i64 x278001_2, .bool x278002_2] 24 (0, 0)) BK277.out hb); have n3_ := Aside0.mk (blk_below (g := gb287) (o := .cells #[u288000, .int .i64 t284, .bool ((rdOf ByteArray.empty t278 1).toList == ([49] : List UInt8))] 24 (0, 0)) BK287.out hb); have n4_ := Aside0.mk (below_step HB.out hb); have nz_ := Aside0.mk (Kd.R_below HO_4.out hb); clear HO_4; have HO_4 := nz_; clear nz_; clear HO_288000; clear HO296; clear BK277; clear BK287; clear HB; have HO_288000 := n0_; have HO296 := n1_; have BK277 := n2_; have BK287 := n3_; have HB := n4_; clear n0_ n1_ n2_ n3_ n4_; (try clear hb); (try clear hb2); (try clear hk); (try clear hi); have p300 : 0 ≤ (1 : Int) := (by omega); have q300 : 1 < (t294.length : Int) := of_decide_eq_true (by (with_reducible assumption)); obtain ⟨ad300, e300, hx300_0⟩ := Kd.at_string (Kd.R_reads' HO296.out).2.2 1 p300 q300; obtain rfl : ad297 = ad300 := (by injection e300); (try simp only [show (1 : Int).toNat = 1 from rfl, Nat.reduceMul, Nat.reduceEqDiff, Go.Addr.add, ↓reduceIte] at hx300_0); have qi300 : (1 < t294.length) = True := eq_true (by omega); (try rw [show ((1 : Int)).toNat = 1 from rfl] at hx300_0); replace p300 := eq_true p300; replace q300 := eq_true q300) | ((with_reducible refine gate_callee (f := 88) rfl ?_); refine goesL_ (some 70) rfl rfl Try.func88 (by kernel_rfl) rfl #[.string (rdOf ByteArray.empty t294 1)] rfl (by (try simp only [List.map_toArray, List.map_cons, List.map_nil]); rfl) ?_; (with_reducible refine (impl_ParseRows.calls k2 (rdOf ByteArray.empty t294 1) t301 t302 _ A33.out).mono ?_); rintro e w56 ⟨v303, rfl, ho0, hb⟩; refine ⟨_, rfl, ?_⟩; have n0_ := Aside0.mk (Kd.S_elder' HO_288000.out (Kd.R_base ho0) hb); have n1_ := Aside0.mk (Kd.R_below HO296.out hb); have n2_ := Aside0.mk (Kd.R_lower ho0 (below_size HB.out)); have n3_ := Aside0.mk (blk_below (g := gb277) (o := .cells #[.slice none 0 0, .int .i64 x278001_2, .bool x278002_2] 24 (0, 0)) BK277.out hb); have n4_ := Aside0.mk (blk_below (g := gb287) (o := .cells #[u288000, .int .i64 t284, .bool ((rdOf ByteArray.empty t278 1).toList == ([49] : List UInt8))] 24 (0, 0)) BK287.out hb); have n5_ := Aside0.mk (below_step HB.out hb); have nz_ := Aside0.mk (Kd.R_below HO_4.out hb); clear HO_4; have HO_4 := nz_; clear nz_; clear HO_288000; clear HO296; clear BK277; clear BK287; clear HB; have HO_288000 := n0_; have HO296 := n1_; have HO304 := n2_; have BK277 := n3_; have BK287 := n4_; have HB := n5_; clear n0_ n1_ n2_ n3_ n4_ n5_; (try clear hb); (try clear hb2); (try clear hk); (try clear hi); (try clear ho0); have hnb57 := NB277_287.out; have hnc57 := NB287_277.out; have hcz58_0 : w56.cell? ⟨gb277, 0, none⟩ = some (.slice none 0 0) := (blk_cell BK277.out 0).trans rfl; have hcz58_1 : w56.cell? ⟨gb277, 1, none⟩ = some (.int .i64 x278001_2) := (blk_cell BK277.out 1).trans rfl; have hcz58_2 : w56.cell? ⟨gb277, 2, none⟩ = some (.bool x278002_2) := (blk_cell BK277.out 2).trans rfl; have hfz58_0 := blk_frozen BK277.out 0; have hfz58_1 := blk_frozen BK277.out 1; have hfz58_2 := blk_frozen BK277.out 2))
                refine bodyPost_ret (results_ct rfl _ _ gb277 24 #[.slice none 0 0, .int .i64 0, .bool false] (0, 0) _ rfl (by refine blk_put (cs := #[.slice none 0 0, .int .i64 0, .bool x278002_2]) ?_ 2 _ rfl; refine blk_put (cs := #[.slice none 0 0, .int .i64 x278001_2, .bool x278002_2]) ?_ 1 _ rfl; refine blk_put (cs := #[.slice none 0 0, .int .i64 x278001_2, .bool x278002_2]) ?_ 0 _ rfl; exact BK277.out) Try.underlying24 rfl (by kernel_rfl)) rfl ?_
                exact ⟨_, rfl, by exact Kd.S_nil _ _ _ _ _, by repeat ((with_reducible first | exact HB.out | refine below_set ?_ GE277.out))⟩
              ·rw [if_neg c32] at H
               exact absurd H (by simp)
             ·rw [if_neg c30] at H
              exact absurd H (by simp)
            ·rw [if_neg c29] at H
             have c29b0 : ((t294.length : Int) == 2) = false := beq_eq_false_iff_ne.mpr c29
             have c29b1 : ((t294.length : Int) != 2) = true := bne_iff_ne.mpr c29
             simp only [Option.some.injEq, Prod.mk.injEq] at H
             obtain ⟨rfl, rfl, rfl, rfl⟩ := H
             have p293 : 0 ≤ (x49_2 : Int) := of_decide_eq_true (by (with_reducible assumption))
             have q293 : x49_2 < (y288.length : Int) := of_decide_eq_true (by (with_reducible assumption))
             obtain ⟨ad293, e293, hx293_0⟩ := Kd.at_string HR291.out x49_2 p293 q293
             cases e293
             skip
             replace p293 := eq_true p293
             replace q293 := eq_true q293
             go_wp2_with (((with_reducible refine gate_callee (f := 86) rfl ?_); refine goesL_ (some 54) rfl rfl Try.func86 (by kernel_rfl) rfl #[.string (rdOf ByteArray.empty y288 x49_2), .int .u8 59] rfl (by (try simp only [List.map_toArray, List.map_cons, List.map_nil]); rfl) ?_; (with_reducible refine (impl_cut.calls k2 (rdOf ByteArray.empty y288 x49_2) 59 t294 _ A28.out).mono ?_); rintro e w59 ⟨v295, rfl, ho0, hb⟩; refine ⟨_, rfl, ?_⟩; have n0_ := Aside0.mk (Kd.S_below HO_288000.out hb); have n1_ := Aside0.mk (Kd.R_lower ho0 (below_size HB.out)); have n2_ := Aside0.mk (blk_below (g := gb277) (o := .cells #[.slice none 0 0, .int .i64 x278001_2, .bool x278002_2] 24 (0, 0)) BK277.out hb); have n3_ := Aside0.mk (blk_below (g := gb287) (o := .cells #[u288000, .int .i64 t284, .bool ((rdOf ByteArray.empty t278 1).toList == ([49] : List UInt8))] 24 (0, 0)) BK287.out hb); have n4_ := Aside0.mk (below_step HB.out hb); have nz_ := Aside0.mk (Kd.R_below HO_4.out hb); clear HO_4; have HO_4 := nz_; clear nz_; clear HO_288000; clear BK277; clear BK287; clear HB; have HO_288000 := n0_; have HO296 := n1_; have BK277 := n2_; have BK287 := n3_; have HB := n4_; clear n0_ n1_ n2_ n3_ n4_; (try clear hb); (try clear hb2); (try clear hk); (try clear hi); (try clear ho0); obtain ⟨Ao60, co60, eo60⟩ := Kd.R_slice HO296.out; subst eo60; have hnb61 := NB277_287.out; have hnc61 := NB287_277.out; have hcz62_0 : w59.cell? ⟨gb277, 0, none⟩ = some (.slice none 0 0) := (blk_cell BK277.out 0).trans rfl; have hcz62_1 : w59.cell? ⟨gb277, 1, none⟩ = some (.int .i64 x278001_2) := (blk_cell BK277.out 1).trans rfl; have hcz62_2 : w59.cell? ⟨gb277, 2, none⟩ = some (.bool x278002_2) := (blk_cell BK277.out 2).trans rfl; have hfz62_0 := blk_frozen BK277.out 0; have hfz62_1 := blk_frozen BK277.out 1; have hfz62_2 := blk_frozen BK277.out 2))
             refine bodyPost_ret (results_ct rfl _ _ gb277 24 #[.slice none 0 0, .int .i64 0, .bool false] (0, 0) _ rfl (by refine blk_put (cs := #[.slice none 0 0, .int .i64 0, .bool x278002_2]) ?_ 2 _ rfl; refine blk_put (cs := #[.slice none 0 0, .int .i64 x278001_2, .bool x278002_2]) ?_ 1 _ rfl; refine blk_put (cs := #[.slice none 0 0, .int .i64 x278001_2, .bool x278002_2]) ?_ 0 _ rfl; exact BK277.out) Try.underlying24 rfl (by kernel_rfl)) rfl ?_
             exact ⟨_, rfl, by exact Kd.S_nil _ _ _ _ _, by repeat ((with_reducible first | exact HB.out | refine below_set ?_ GE277.out))⟩
           ·rw [if_neg c27] at H
            exact absurd H (by simp)
          ·rw [if_neg c26] at H
           exact absurd H (by simp)
         ·rw [if_neg c25] at H
          have c25b0 : decide (x49_2 < (y288.length : Int)) = false := decide_eq_false c25
          clear c25
          by_cases c63 : t285 = true
          ·subst c63
           rw [if_pos rfl] at H
           replace H := Option.bind_eq_some_iff.mp H
           obtain ⟨t292, A640, H⟩ := H
           have A64 := Aside0.mk A640
           clear A640
           by_cases c65 : t292 = true
           ·subst c65
            rw [if_pos rfl] at H
            simp only [Option.some.injEq, Prod.mk.injEq] at H
            obtain ⟨rfl, rfl, rfl, rfl⟩ := H
            have hnb66 := NB287_277.out
            have hnc66 := NB277_287.out
            have hcz67_0 : wr.cell? ⟨gb287, 0, none⟩ = some (u288000) := (blk_cell BK287.out 0).trans rfl
            have hcz67_1 : wr.cell? ⟨gb287, 1, none⟩ = some (.int .i64 t284) := (blk_cell BK287.out 1).trans rfl
            have hcz67_2 : wr.cell? ⟨gb287, 2, none⟩ = some (.bool ((rdOf ByteArray.empty t278 1).toList == ([49] : List UInt8))) := (blk_cell BK287.out 2).trans rfl
            have hfz67_0 := blk_frozen BK287.out 0
            have hfz67_1 := blk_frozen BK287.out 1
            have hfz67_2 := blk_frozen BK287.out 2
            obtain ⟨Ao68, co68, eo68⟩ := Kd.S_slice HO_288000.out
            subst eo68
            go_wp2_with ((go_at_call 56; (with_reducible refine (impl_IsValidAggregator.calls k2 _ _ x288000_2 t284 ((rdOf ByteArray.empty t278 1).toList == ([49] : List UInt8)) true _ ?side1 ?side2 A64.out).mono ?_); (case side1 => repeat (exact (Kd.S_reads' HO_288000.out).2.2)); (case side2 => exact (Kd.S_reads' HO_288000.out).2.1); rintro e w69 ⟨rfl, hb⟩; have n0_ := Aside0.mk (Kd.S_below HO_288000.out hb); have n1_ := Aside0.mk (blk_below (g := gb277) (o := .cells #[.slice none 0 0, .int .i64 x278001_2, .bool x278002_2] 24 (0, 0)) BK277.out hb); have n2_ := Aside0.mk (blk_below (g := gb287) (o := .cells #[.slice Ao68 x288000_2.length co68, .int .i64 t284, .bool ((rdOf ByteArray.empty t278 1).toList == ([49] : List UInt8))] 24 (0, 0)) BK287.out hb); have n3_ := Aside0.mk (below_step HB.out hb); have nz_ := Aside0.mk (Kd.R_below HO_4.out hb); clear HO_4; have HO_4 := nz_; clear nz_; clear HO_288000; clear BK277; clear BK287; clear HB; have HO_288000 := n0_; have BK277 := n1_; have BK287 := n2_; have HB := n3_; clear n0_ n1_ n2_ n3_; (try clear hb); (try clear hb2); (try clear hk); (try clear hi); have hcz70_0 : w69.cell? ⟨gb287, 0, none⟩ = some (.slice Ao68 x288000_2.length co68) := (blk_cell BK287.out 0).trans rfl; have hcz70_1 : w69.cell? ⟨gb287, 1, none⟩ = some (.int .i64 t284) := (blk_cell BK287.out 1).trans rfl; have hcz70_2 : w69.cell? ⟨gb287, 2, none⟩ = some (.bool ((rdOf ByteArray.empty t278 1).toList == ([49] : List UInt8))) := (blk_cell BK287.out 2).trans rfl; have hfz70_0 := blk_frozen BK287.out 0; have hfz70_1 := blk_frozen BK287.out 1; have hfz70_2 := blk_frozen BK287.out 2; have hcz71_0 : w69.cell? ⟨gb277, 0, none⟩ = some (.slice none 0 0) := (blk_cell BK277.out 0).trans rfl; have hcz71_1 : w69.cell? ⟨gb277, 1, none⟩ = some (.int .i64 x278001_2) := (blk_cell BK277.out 1).trans rfl; have hcz71_2 : w69.cell? ⟨gb277, 2, none⟩ = some (.bool x278002_2) := (blk_cell BK277.out 2).trans rfl; have hfz71_0 := blk_frozen BK277.out 0; have hfz71_1 := blk_frozen BK277.out 1; have hfz71_2 := blk_frozen BK277.out 2))
            refine bodyPost_ret (results_ct rfl _ _ gb277 24 #[.slice Ao68 x288000_2.length co68, .int .i64 t284, .bool ((rdOf ByteArray.empty t278 1).toList == ([49] : List UInt8))] (0, 0) _ rfl (by refine blk_put (cs := #[.slice Ao68 x288000_2.length co68, .int .i64 t284, .bool x278002_2]) ?_ 2 _ rfl; refine blk_put (cs := #[.slice Ao68 x288000_2.length co68, .int .i64 x278001_2, .bool x278002_2]) ?_ 1 _ rfl; refine blk_put (cs := #[.slice none 0 0, .int .i64 x278001_2, .bool x278002_2]) ?_ 0 _ rfl; exact BK277.out) Try.underlying24 rfl (by kernel_rfl)) rfl ?_
            exact ⟨_, rfl, by exact Kd.S_mono (Kd.S_far (p := ⟨gb277, 2, none⟩) (Kd.S_far (p := ⟨gb277, 1, none⟩) (Kd.S_far (p := ⟨gb277, 0, none⟩) (Kd.S_types HO_288000.out BK277.out (by decide)) (fun _ hk => hk.2) (.slice Ao68 x288000_2.length co68)) (fun _ hk => hk.2) (.int .i64 t284)) (fun _ hk => hk.2) (.bool ((rdOf ByteArray.empty t278 1).toList == ([49] : List UInt8)))) (fun _ hk => trivial), by repeat ((with_reducible first | exact HB.out | refine below_set ?_ GE277.out))⟩
           ·replace c65 := Bool.eq_false_iff.mpr c65
            subst c65
            rw [if_neg (show ¬ (false = true) by decide)] at H
            simp only [Option.some.injEq, Prod.mk.injEq] at H
            obtain ⟨rfl, rfl, rfl, rfl⟩ := H
            have hnb72 := NB287_277.out
            have hnc72 := NB277_287.out
            have hcz73_0 : wr.cell? ⟨gb287, 0, none⟩ = some (u288000) := (blk_cell BK287.out 0).trans rfl
            have hcz73_1 : wr.cell? ⟨gb287, 1, none⟩ = some (.int .i64 t284) := (blk_cell BK287.out 1).trans rfl
            have hcz73_2 : wr.cell? ⟨gb287, 2, none⟩ = some (.bool ((rdOf ByteArray.empty t278 1).toList == ([49] : List UInt8))) := (blk_cell BK287.out 2).trans rfl
            have hfz73_0 := blk_frozen BK287.out 0
            have hfz73_1 := blk_frozen BK287.out 1
            have hfz73_2 := blk_frozen BK287.out 2
            obtain ⟨Ao74, co74, eo74⟩ := Kd.S_slice HO_288000.out
            subst eo74
            go_wp2_with ((go_at_call 56; (with_reducible refine (impl_IsValidAggregator.calls k2 _ _ x288000_2 t284 ((rdOf ByteArray.empty t278 1).toList == ([49] : List UInt8)) false _ ?side1 ?side2 A64.out).mono ?_); (case side1 => repeat (exact (Kd.S_reads' HO_288000.out).2.2)); (case side2 => exact (Kd.S_reads' HO_288000.out).2.1); rintro e w75 ⟨rfl, hb⟩; have n0_ := Aside0.mk (Kd.S_below HO_288000.out hb); have n1_ := Aside0.mk (blk_below (g := gb277) (o := .cells #[.slice none 0 0, .int .i64 x278001_2, .bool x278002_2] 24 (0, 0)) BK277.out hb); have n2_ := Aside0.mk (blk_below (g := gb287) (o := .cells #[.slice Ao74 x288000_2.length co74, .int .i64 t284, .bool ((rdOf ByteArray.empty t278 1).toList == ([49] : List UInt8))] 24 (0, 0)) BK287.out hb); have n3_ := Aside0.mk (below_step HB.out hb); have nz_ := Aside0.mk (Kd.R_below HO_4.out hb); clear HO_4; have HO_4 := nz_; clear nz_; clear HO_288000; clear BK277; clear BK287; clear HB; have HO_288000 := n0_; have BK277 := n1_; have BK287 := n2_; have HB := n3_; clear n0_ n1_ n2_ n3_; (try clear hb); (try clear hb2); (try clear hk); (try clear hi); have hcz76_0 : w75.cell? ⟨gb277, 0, none⟩ = some (.slice none 0 0) := (blk_cell BK277.out 0).trans rfl; have hcz76_1 : w75.cell? ⟨gb277, 1, none⟩ = some (.int .i64 x278001_2) := (blk_cell BK277.out 1).trans rfl; have hcz76_2 : w75.cell? ⟨gb277, 2, none⟩ = some (.bool x278002_2) := (blk_cell BK277.out 2).trans rfl; have hfz76_0 := blk_frozen BK277.out 0; have hfz76_1 := blk_frozen BK277.out 1; have hfz76_2 := blk_frozen BK277.out 2))
            refine bodyPost_ret (results_ct rfl _ _ gb277 24 #[.slice none 0 0, .int .i64 0, .bool false] (0, 0) _ rfl (by refine blk_put (cs := #[.slice none 0 0, .int .i64 0, .bool x278002_2]) ?_ 2 _ rfl; refine blk_put (cs := #[.slice none 0 0, .int .i64 x278001_2, .bool x278002_2]) ?_ 1 _ rfl; refine blk_put (cs := #[.slice none 0 0, .int .i64 x278001_2, .bool x278002_2]) ?_ 0 _ rfl; exact BK277.out) Try.underlying24 rfl (by kernel_rfl)) rfl ?_
            exact ⟨_, rfl, by exact Kd.S_nil _ _ _ _ _, by repeat ((with_reducible first | exact HB.out | refine below_set ?_ GE277.out))⟩
          ·replace c63 := Bool.eq_false_iff.mpr c63
           subst c63
           rw [if_neg (show ¬ (false = true) by decide)] at H
           simp only [Option.some.injEq, Prod.mk.injEq] at H
           obtain ⟨rfl, rfl, rfl, rfl⟩ := H
           have hnb77 := NB277_287.out
           have hnc77 := NB287_277.out
           have hcz78_0 : wr.cell? ⟨gb277, 0, none⟩ = some (.slice none 0 0) := (blk_cell BK277.out 0).trans rfl
           have hcz78_1 : wr.cell? ⟨gb277, 1, none⟩ = some (.int .i64 x278001_2) := (blk_cell BK277.out 1).trans rfl
           have hcz78_2 : wr.cell? ⟨gb277, 2, none⟩ = some (.bool x278002_2) := (blk_cell BK277.out 2).trans rfl
           have hfz78_0 := blk_frozen BK277.out 0
           have hfz78_1 := blk_frozen BK277.out 1
           have hfz78_2 := blk_frozen BK277.out 2
           go_wp2
           refine bodyPost_ret (results_ct rfl _ _ gb277 24 #[.slice none 0 0, .int .i64 0, .bool false] (0, 0) _ rfl (by refine blk_put (cs := #[.slice none 0 0, .int .i64 0, .bool x278002_2]) ?_ 2 _ rfl; refine blk_put (cs := #[.slice none 0 0, .int .i64 x278001_2, .bool x278002_2]) ?_ 1 _ rfl; refine blk_put (cs := #[.slice none 0 0, .int .i64 x278001_2, .bool x278002_2]) ?_ 0 _ rfl; exact BK277.out) Try.underlying24 rfl (by kernel_rfl)) rfl ?_
           exact ⟨_, rfl, by exact Kd.S_nil _ _ _ _ _, by repeat ((with_reducible first | exact HB.out | refine below_set ?_ GE277.out))⟩
      ·rw [if_neg c17] at H
       exact absurd H (by simp)
     ·rw [if_neg c16] at H
      exact absurd H (by simp)
    ·rw [if_neg c14] at H
     exact absurd H (by simp)

end Go.Proofs.Ytphkghnppcfdpaa.P
namespace Go.Proofs.Ytphkghnppcfdpaa.P
open Go.RowKit Go.Proofs.YtphkghnppcfdpaaW.PrintWords Go.Proofs.YtphkghnppcfdpaaW.PrintLast Go.Proofs.YtphkghnppcfdpaaW.PrintMore
attribute [local go_sem] max2_int min2_int max_two min_two max_three min_three max_four min_four   -- for this text's walks alone
set_option linter.unusedVariables false
set_option linter.unusedSimpArgs false

/-! ### laws_eqRow: function 98 -/
def laws_eqRow.f (a0_0 : Int) (a0_1 : Int) (a0_2 : Int) (a1_0 : Int) (a1_1 : Int) (a1_2 : Int) : Option (Bool) := if a0_0 = a1_0 then (if a0_1 = a1_1 then (if a0_2 = a1_2 then (some true) else (some false)) else (some false)) else (some false)
set_option maxHeartbeats 8000000 in
set_option maxRecDepth 100000 in
theorem laws_eqRow.calls (a0_0 : Int) (a0_1 : Int) (a0_2 : Int) (a1_0 : Int) (a1_1 : Int) (a1_2 : Int) (r : Bool) (w : World) (h : laws_eqRow.f a0_0 a0_1 a0_2 a1_0 a1_1 a1_2 = some r) :
  Calls Try.prog 98 #[.agg #[.int .i64 a0_0, .int .i64 a0_1, .int .i64 a0_2], .agg #[.int .i64 a1_0, .int .i64 a1_1, .int .i64 a1_2]] w fun e w' => e = .returned (.bool r) ∧ Below w.heap.size w w' := by
 have hu114 := Try.underlying114
 have HB := Aside0.mk (Below.refl w.heap.size w)
 have H : (if a0_0 = a1_0 then (if a0_1 = a1_1 then (if a0_2 = a1_2 then (some true) else (some false)) else (some false)) else (some false)) = some r := h
 clear h
 by_cases c3 : a0_0 = a1_0
 ·rw [if_pos c3] at H
  have c3b0 : (a0_0 == a1_0) = true := beq_iff_eq.mpr c3
  have c3b1 : (a0_0 != a1_0) = false := bne_eq_false_iff_eq.mpr c3
  clear c3
  by_cases c4 : a0_1 = a1_1
  ·rw [if_pos c4] at H
   have c4b0 : (a0_1 == a1_1) = true := beq_iff_eq.mpr c4
   have c4b1 : (a0_1 != a1_1) = false := bne_eq_false_iff_eq.mpr c4
   clear c4
   by_cases c5 : a0_2 = a1_2
   ·rw [if_pos c5] at H
    have c5b0 : (a0_2 == a1_2) = true := beq_iff_eq.mpr c5
    have c5b1 : (a0_2 != a1_2) = false := bne_eq_false_iff_eq.mpr c5
    clear c5
    obtain rfl := Option.some.inj H
    go_enter Try.func98, Try.ntmps98
    go_wp2_with (first | ((with_reducible refine gate_dst (N := 2) rfl ?_); refine box_event ?hg (N := 2) ?hd (cs := #[.int .i64 a0_0, .int .i64 a0_1, .int .i64 a0_2]) (t := 114) ?hr ?_; (case hd => rfl); (case hg => rfl); (case hr => (go_simp; done)); intro gb308 hg w6 hbox hb; have n0_ := Aside0.mk (below_step HB.out hb); have n1_ := Aside0.mk (hbox); have n2_ := Aside0.mk ((by rw [hg]; exact (below_size HB.out) : w.heap.size ≤ gb308)); have n3_ := Aside0.mk ((by rw [hg]; exact (below_size HB.out) : w.heap.size ≤ gb308)); clear HB; have HB := n0_; have BK308 := n1_; have GW308 := n2_; have GE308 := n3_; clear n0_ n1_ n2_ n3_; clear hb hbox hg) | ((with_reducible refine gate_dst (N := 3) rfl ?_); refine box_event ?hg (N := 3) ?hd (cs := #[.int .i64 a1_0, .int .i64 a1_1, .int .i64 a1_2]) (t := 114) ?hr ?_; (case hd => rfl); (case hg => rfl); (case hr => (go_simp; done)); intro gb309 hg w7 hbox hb; have n0_ := Aside0.mk (blk_below (g := gb308) (o := .cells #[.int .i64 a0_0, .int .i64 a0_1, .int .i64 a0_2] 114 (0, 0)) BK308.out hb); have n1_ := Aside0.mk (below_step HB.out hb); have n2_ := Aside0.mk (hbox); have n3_ := Aside0.mk ((by rw [hg]; exact (below_size HB.out) : w.heap.size ≤ gb309)); have n4_ := Aside0.mk ((by rw [hg]; exact (below_size HB.out) : w.heap.size ≤ gb309)); have n5_ := Aside0.mk ((by rw [hg]; exact Nat.ne_of_lt (blk_lt (g := gb308) (o := .cells #[.int .i64 a0_0, .int .i64 a0_1, .int .i64 a0_2] 114 (0, 0)) BK308.out) : gb308 ≠ gb309)); have n6_ := Aside0.mk ((by rw [hg]; exact Nat.ne_of_gt (blk_lt (g := gb308) (o := .cells #[.int .i64 a0_0, .int .i64 a0_1, .int .i64 a0_2] 114 (0, 0)) BK308.out) : gb309 ≠ gb308)); clear BK308; clear HB; have BK308 := n0_; have HB := n1_; have BK309 := n2_; have GW309 := n3_; have GE309 := n4_; have NB308_309 := n5_; have NB309_308 := n6_; clear n0_ n1_ n2_ n3_ n4_ n5_ n6_; clear hb hbox hg; have hnb8 := NB308_309.out; have hnc8 := NB309_308.out; have hcz9_0 : w7.cell? ⟨gb308, 0, none⟩ = some (.int .i64 a0_0) := (blk_cell BK308.out 0).trans rfl; have hcz9_1 : w7.cell? ⟨gb308, 1, none⟩ = some (.int .i64 a0_1) := (blk_cell BK308.out 1).trans rfl; have hcz9_2 : w7.cell? ⟨gb308, 2, none⟩ = some (.int .i64 a0_2) := (blk_cell BK308.out 2).trans rfl; have hfz9_0 := blk_frozen BK308.out 0; have hfz9_1 := blk_frozen BK308.out 1; have hfz9_2 := blk_frozen BK308.out 2; have hcz10_0 : w7.cell? ⟨gb309, 0, none⟩ = some (.int .i64 a1_0) := (blk_cell BK309.out 0).trans rfl; have hcz10_1 : w7.cell? ⟨gb309, 1, none⟩ = some (.int .i64 a1_1) := (blk_cell BK309.out 1).trans rfl; have hcz10_2 : w7.cell? ⟨gb309, 2, none⟩ = some (.int .i64 a1_2) := (blk_cell BK309.out 2).trans rfl; have hfz10_0 := blk_frozen BK309.out 0; have hfz10_1 := blk_frozen BK309.out 1; have hfz10_2 := blk_frozen BK309.out 2))
    go_ret
    exact ⟨rfl, HB.out⟩
   ·rw [if_neg c5] at H
    have c5b0 : (a0_2 == a1_2) = false := beq_eq_false_iff_ne.mpr c5
    have c5b1 : (a0_2 != a1_2) = true := bne_iff_ne.mpr c5
    obtain rfl := Option.some.inj H
    go_enter Try.func98, Try.ntmps98
    go_wp2_with (first | ((with_reducible refine gate_dst (N := 2) rfl ?_); refine box_event ?hg (N := 2) ?hd (cs := #[.int .i64 a0_0, .int .i64 a0_1, .int .i64 a0_2]) (t := 114) ?hr ?_; (case hd => rfl); (case hg => rfl); (case hr => (go_simp; done)); intro gb308 hg w11 hbox hb; have n0_ := Aside0.mk (below_step HB.out hb); have n1_ := Aside0.mk (hbox); have n2_ := Aside0.mk ((by rw [hg]; exact (below_size HB.out) : w.heap.size ≤ gb308)); have n3_ := Aside0.mk ((by rw [hg]; exact (below_size HB.out) : w.heap.size ≤ gb308)); clear HB; have HB := n0_; have BK308 := n1_; have GW308 := n2_; have GE308 := n3_; clear n0_ n1_ n2_ n3_; clear hb hbox hg) | ((with_reducible refine gate_dst (N := 3) rfl ?_); refine box_event ?hg (N := 3) ?hd (cs := #[.int .i64 a1_0, .int .i64 a1_1, .int .i64 a1_2]) (t := 114) ?hr ?_; (case hd => rfl); (case hg => rfl); (case hr => (go_simp; done)); intro gb309 hg w12 hbox hb; have n0_ := Aside0.mk (blk_below (g := gb308) (o := .cells #[.int .i64 a0_0, .int .i64 a0_1, .int .i64 a0_2] 114 (0, 0)) BK308.out hb); have n1_ := Aside0.mk (below_step HB.out hb); have n2_ := Aside0.mk (hbox); have n3_ := Aside0.mk ((by rw [hg]; exact (below_size HB.out) : w.heap.size ≤ gb309)); have n4_ := Aside0.mk ((by rw [hg]; exact (below_size HB.out) : w.heap.size ≤ gb309)); have n5_ := Aside0.mk ((by rw [hg]; exact Nat.ne_of_lt (blk_lt (g := gb308) (o := .cells #[.int .i64 a0_0, .int .i64 a0_1, .int .i64 a0_2] 114 (0, 0)) BK308.out) : gb308 ≠ gb309)); have n6_ := Aside0.mk ((by rw [hg]; exact Nat.ne_of_gt (blk_lt (g := gb308) (o := .cells #[.int .i64 a0_0, .int .i64 a0_1, .int .i64 a0_2] 114 (0, 0)) BK308.out) : gb309 ≠ gb308)); clear BK308; clear HB; have BK308 := n0_; have HB := n1_; have BK309 := n2_; have GW309 := n3_; have GE309 := n4_; have NB308_309 := n5_; have NB309_308 := n6_; clear n0_ n1_ n2_ n3_ n4_ n5_ n6_; clear hb hbox hg; have hnb13 := NB308_309.out; have hnc13 := NB309_308.out; have hcz14_0 : w12.cell? ⟨gb308, 0, none⟩ = some (.int .i64 a0_0) := (blk_cell BK308.out 0).trans rfl; have hcz14_1 : w12.cell? ⟨gb308, 1, none⟩ = some (.int .i64 a0_1) := (blk_cell BK308.out 1).trans rfl; have hcz14_2 : w12.cell? ⟨gb308, 2, none⟩ = some (.int .i64 a0_2) := (blk_cell BK308.out 2).trans rfl; have hfz14_0 := blk_frozen BK308.out 0; have hfz14_1 := blk_frozen BK308.out 1; have hfz14_2 := blk_frozen BK308.out 2; have hcz15_0 : w12.cell? ⟨gb309, 0, none⟩ = some (.int .i64 a1_0) := (blk_cell BK309.out 0).trans rfl; have hcz15_1 : w12.cell? ⟨gb309, 1, none⟩ = some (.int .i64 a1_1) := (blk_cell BK309.out 1).trans rfl; have hcz15_2 : w12.cell? ⟨gb309, 2, none⟩ = some (.int .i64 a1_2) := (blk_cell BK309.out 2).trans rfl; have hfz15_0 := blk_frozen BK309.out 0; have hfz15_1 := blk_frozen BK309.out 1; have hfz15_2 := blk_frozen BK309.out 2))
    go_ret
    exact ⟨rfl, HB.out⟩
  ·rw [if_neg c4] at H
   have c4b0 : (a0_1 == a1_1) = false := beq_eq_false_iff_ne.mpr c4
   have c4b1 : (a0_1 != a1_1) = true := bne_iff_ne.mpr c4
   obtain rfl := Option.some.inj H
   go_enter Try.func98, Try.ntmps98
   go_wp2_with (first | ((with_reducible refine gate_dst (N := 2) rfl ?_); refine box_event ?hg (N := 2) ?hd (cs := #[.int .i64 a0_0, .int .i64 a0_1, .int .i64 a0_2]) (t := 114) ?hr ?_; (case hd => rfl); (case hg => rfl); (case hr => (go_simp; done)); intro gb308 hg w16 hbox hb; have n0_ := Aside0.mk (below_step HB.out hb); have n1_ := Aside0.mk (hbox); have n2_ := Aside0.mk ((by rw [hg]; exact (below_size HB.out) : w.heap.size ≤ gb308)); have n3_ := Aside0.mk ((by rw [hg]; exact (below_size HB.out) : w.heap.size ≤ gb308)); clear HB; have HB := n0_; have BK308 := n1_; have GW308 := n2_; have GE308 := n3_; clear n0_ n1_ n2_ n3_; clear hb hbox hg) | ((with_reducible refine gate_dst (N := 3) rfl ?_); refine box_event ?hg (N := 3) ?hd (cs := #[.int .i64 a1_0, .int .i64 a1_1, .int .i64 a1_2]) (t := 114) ?hr ?_; (case hd => rfl); (case hg => rfl); (case hr => (go_simp; done)); intro gb309 hg w17 hbox hb; have n0_ := Aside0.mk (blk_below (g := gb308) (o := .cells #[.int .i64 a0_0, .int .i64 a0_1, .int .i64 a0_2] 114 (0, 0)) BK308.out hb); have n1_ := Aside0.mk (below_step HB.out hb); have n2_ := Aside0.mk (hbox); have n3_ := Aside0.mk ((by rw [hg]; exact (below_size HB.out) : w.heap.size ≤ gb309)); have n4_ := Aside0.mk ((by rw [hg]; exact (below_size HB.out) : w.heap.size ≤ gb309)); have n5_ := Aside0.mk ((by rw [hg]; exact Nat.ne_of_lt (blk_lt (g := gb308) (o := .cells #[.int .i64 a0_0, .int .i64 a0_1, .int .i64 a0_2] 114 (0, 0)) BK308.out) : gb308 ≠ gb309)); have n6_ := Aside0.mk ((by rw [hg]; exact Nat.ne_of_gt (blk_lt (g := gb308) (o := .cells #[.int .i64 a0_0, .int .i64 a0_1, .int .i64 a0_2] 114 (0, 0)) BK308.out) : gb309 ≠ gb308)); clear BK308; clear HB; have BK308 := n0_; have HB := n1_; have BK309 := n2_; have GW309 := n3_; have GE309 := n4_; have NB308_309 := n5_; have NB309_308 := n6_; clear n0_ n1_ n2_ n3_ n4_ n5_ n6_; clear hb hbox hg; have hnb18 := NB308_309.out; have hnc18 := NB309_308.out; have hcz19_0 : w17.cell? ⟨gb308, 0, none⟩ = some (.int .i64 a0_0) := (blk_cell BK308.out 0).trans rfl; have hcz19_1 : w17.cell? ⟨gb308, 1, none⟩ = some (.int .i64 a0_1) := (blk_cell BK308.out 1).trans rfl; have hcz19_2 : w17.cell? ⟨gb308, 2, none⟩ = some (.int .i64 a0_2) := (blk_cell BK308.out 2).trans rfl; have hfz19_0 := blk_frozen BK308.out 0; have hfz19_1 := blk_frozen BK308.out 1; have hfz19_2 := blk_frozen BK308.out 2; have hcz20_0 : w17.cell? ⟨gb309, 0, none⟩ = some (.int .i64 a1_0) := (blk_cell BK309.out 0).trans rfl; have hcz20_1 : w17.cell? ⟨gb309, 1, none⟩ = some (.int .i64 a1_1) := (blk_cell BK309.out 1).trans rfl; have hcz20_2 : w17.cell? ⟨gb309, 2, none⟩ = some (.int .i64 a1_2) := (blk_cell BK309.out 2).trans rfl; have hfz20_0 := blk_frozen BK309.out 0; have hfz20_1 := blk_frozen BK309.out 1; have hfz20_2 := blk_frozen BK309.out 2))
   go_ret
   exact ⟨rfl, HB.out⟩
 ·rw [if_neg c3] at H
  have c3b0 : (a0_0 == a1_0) = false := beq_eq_false_iff_ne.mpr c3
  have c3b1 : (a0_0 != a1_0) = true := bne_iff_ne.mpr c3
  obtain rfl := Option.some.inj H
  go_enter Try.func98, Try.ntmps98
  go_wp2_with (first | ((with_reducible refine gate_dst (N := 2) rfl ?_); refine box_event ?hg (N := 2) ?hd (cs := #[.int .i64 a0_0, .int .i64 a0_1, .int .i64 a0_2]) (t := 114) ?hr ?_; (case hd => rfl); (case hg => rfl); (case hr => (go_simp; done)); intro gb308 hg w21 hbox hb; have n0_ := Aside0.mk (below_step HB.out hb); have n1_ := Aside0.mk (hbox); have n2_ := Aside0.mk ((by rw [hg]; exact (below_size HB.out) : w.heap.size ≤ gb308)); have n3_ := Aside0.mk ((by rw [hg]; exact (below_size HB.out) : w.heap.size ≤ gb308)); clear HB; have HB := n0_; have BK308 := n1_; have GW308 := n2_; have GE308 := n3_; clear n0_ n1_ n2_ n3_; clear hb hbox hg) | ((with_reducible refine gate_dst (N := 3) rfl ?_); refine box_event ?hg (N := 3) ?hd (cs := #[.int .i64 a1_0, .int .i64 a1_1, .int .i64 a1_2]) (t := 114) ?hr ?_; (case hd => rfl); (case hg => rfl); (case hr => (go_simp; done)); intro gb309 hg w22 hbox hb; have n0_ := Aside0.mk (blk_below (g := gb308) (o := .cells #[.int .i64 a0_0, .int .i64 a0_1, .int .i64 a0_2] 114 (0, 0)) BK308.out hb); have n1_ := Aside0.mk (below_step HB.out hb); have n2_ := Aside0.mk (hbox); have n3_ := Aside0.mk ((by rw [hg]; exact (below_size HB.out) : w.heap.size ≤ gb309)); have n4_ := Aside0.mk ((by rw [hg]; exact (below_size HB.out) : w.heap.size ≤ gb309)); have n5_ := Aside0.mk ((by rw [hg]; exact Nat.ne_of_lt (blk_lt (g := gb308) (o := .cells #[.int .i64 a0_0, .int .i64 a0_1, .int .i64 a0_2] 114 (0, 0)) BK308.out) : gb308 ≠ gb309)); have n6_ := Aside0.mk ((by rw [hg]; exact Nat.ne_of_gt (blk_lt (g := gb308) (o := .cells #[.int .i64 a0_0, .int .i64 a0_1, .int .i64 a0_2] 114 (0, 0)) BK308.out) : gb309 ≠ gb308)); clear BK308; clear HB; have BK308 := n0_; have HB := n1_; have BK309 := n2_; have GW309 := n3_; have GE309 := n4_; have NB308_309 := n5_; have NB309_308 := n6_; clear n0_ n1_ n2_ n3_ n4_ n5_ n6_; clear hb hbox hg; have hnb23 := NB308_309.out; have hnc23 := NB309_308.out; have hcz24_0 : w22.cell? ⟨gb308, 0, none⟩ = some (.int .i64 a0_0) := (blk_cell BK308.out 0).trans rfl; have hcz24_1 : w22.cell? ⟨gb308, 1, none⟩ = some (.int .i64 a0_1) := (blk_cell BK308.out 1).trans rfl; have hcz24_2 : w22.cell? ⟨gb308, 2, none⟩ = some (.int .i64 a0_2) := (blk_cell BK308.out 2).trans rfl; have hfz24_0 := blk_frozen BK308.out 0; have hfz24_1 := blk_frozen BK308.out 1; have hfz24_2 := blk_frozen BK308.out 2; have hcz25_0 : w22.cell? ⟨gb309, 0, none⟩ = some (.int .i64 a1_0) := (blk_cell BK309.out 0).trans rfl; have hcz25_1 : w22.cell? ⟨gb309, 1, none⟩ = some (.int .i64 a1_1) := (blk_cell BK309.out 1).trans rfl; have hcz25_2 : w22.cell? ⟨gb309, 2, none⟩ = some (.int .i64 a1_2) := (blk_cell BK309.out 2).trans rfl; have hfz25_0 := blk_frozen BK309.out 0; have hfz25_1 := blk_frozen BK309.out 1; have hfz25_2 := blk_frozen BK309.out 2))
  go_ret
  exact ⟨rfl, HB.out⟩

end Go.Proofs.Ytphkghnppcfdpaa.P
namespace Go.Proofs.Ytphkghnppcfdpaa.P
open Go.RowKit Go.Proofs.YtphkghnppcfdpaaW.PrintWords Go.Proofs.YtphkghnppcfdpaaW.PrintLast Go.Proofs.YtphkghnppcfdpaaW.PrintMore
attribute [local go_sem] max2_int min2_int max_two min_two max_three min_three max_four min_four   -- for this text's walks alone
set_option linter.unusedVariables false
set_option linter.unusedSimpArgs false

/-! ### laws_eqRowS: function 30 -/
def laws_eqRowS.l0 : Nat → List (S114) → List (S114) → Int → Option (Bool)
 | 0, _, _, _ => none
 | k + 1, x0, x1, x5 => if x5 < (x0.length : Int) then (if 0 ≤ x5 then (if x5 < (x1.length : Int) then ((laws_eqRow.f ((rd_T114 x0 x5).f0) ((rd_T114 x0 x5).f1) ((rd_T114 x0 x5).f2) ((rd_T114 x1 x5).f0) ((rd_T114 x1 x5).f1) ((rd_T114 x1 x5).f2)).bind fun t312 => (if t312 = true then (laws_eqRowS.l0 k x0 x1 (wrap64 (x5 + 1))) else (some false))) else (none)) else (none)) else (some true)
def laws_eqRowS.f (k : Nat) (l0 : List (S114)) (l1 : List (S114)) : Option (Bool) := if (l0.length : Int) = (l1.length : Int) then (laws_eqRowS.l0 k l0 l1 0) else (some false)
theorem laws_eqRowS.mono_l : ∀ k, (∀ y0 y1 y2, LeO (laws_eqRowS.l0 k y0 y1 y2) (laws_eqRowS.l0 (k + 1) y0 y1 y2))
 | 0 => fun _ _ _ r h => by simp [laws_eqRowS.l0] at h
 | k + 1 => by
  have ih0 := laws_eqRowS.mono_l k
  ·intro y0 y1 y2
   unfold laws_eqRowS.l0
   repeat' first
   | (with_reducible exact ih0 _ _ _)
   | (with_reducible exact LeO.refl _)
   | (with_reducible refine LeO.ite ?_ ?_)
   | (with_reducible refine LeO.bind ?_ (fun _ => ?_))
theorem laws_eqRowS.mono : ∀ a0 a1 k, LeO (laws_eqRowS.f k a0 a1) (laws_eqRowS.f (k + 1) a0 a1) := by
 intro a0 a1 k
 have ih0 := laws_eqRowS.mono_l k
 unfold laws_eqRowS.f
 repeat' first
   | (with_reducible exact ih0 _ _ _)
   | (with_reducible exact LeO.refl _)
   | (with_reducible refine LeO.ite ?_ ?_)
def laws_eqRowS.T6 : Bool × List (List Nat × List Nat) := (true, [([], []), ([], []), ([0, 1], [0, 1]), ([2], [2]), ([], []), ([], []), ([4, 5], [4, 5]), ([6], [6]), ([3, 7], [3, 7]), ([8], [8])])
def laws_eqRowS.B6 : List Nat := [0, 0, 3, 7, 0, 0, 48, 112, 255, 511]
theorem laws_eqRowS.tab6 : rtab .any (opsOf Try.f30 6) = laws_eqRowS.T6 := by kernel_rfl
theorem laws_eqRowS.bits6 : waitsOk laws_eqRowS.T6.2 laws_eqRowS.B6 = true := by kernel_rfl
set_option maxHeartbeats 8000000 in
set_option maxRecDepth 100000 in
theorem laws_eqRowS.calls (k : Nat) (A0 : Option Addr) (c0 : Nat) (l0 : List (S114)) (A1 : Option Addr) (c1 : Nat) (l1 : List (S114)) (r : Bool) (w : World) (hr0 : Kd.C k114 w A0 l0.length l0) (hc0 : l0.length ≤ c0) (hr1 : Kd.C k114 w A1 l1.length l1) (hc1 : l1.length ≤ c1) (h : laws_eqRowS.f k l0 l1 = some r) :
  Calls Try.prog 30 #[.slice A0 l0.length c0, .slice A1 l1.length c1] w fun e w' => e = .returned (.bool r) ∧ Below w.heap.size w w' := by
 have hu114 := Try.underlying114
 have HR0 := Aside0.mk hr0
 have HC0 := Aside0.mk hc0
 clear hr0 hc0
 have HR1 := Aside0.mk hr1
 have HC1 := Aside0.mk hc1
 clear hr1 hc1
 have HB := Aside0.mk (Below.refl w.heap.size w)
 have H : (if (l0.length : Int) = (l1.length : Int) then (laws_eqRowS.l0 k l0 l1 0) else (some false)) = some r := h
 clear h
 by_cases c3 : (l0.length : Int) = (l1.length : Int)
 ·rw [if_pos c3] at H
  have c3b0 : ((l0.length : Int) == (l1.length : Int)) = true := beq_iff_eq.mpr c3
  have c3b1 : ((l0.length : Int) != (l1.length : Int)) = false := bne_eq_false_iff_eq.mpr c3
  have c3b2 : (l0.length == l1.length) = true := by (simp at c3 ⊢; omega)
  clear c3
  have H' := Aside0.mk H
  clear H
  go_enter Try.func30, Try.ntmps30
  go_wp2
  go_loopg [5] k (fun kq v5 w' => ∃ (x5_1 : Int), v5 = .int .i64 x5_1 ∧ Aside0 (laws_eqRowS.l0 kq l0 l1 x5_1 = some r) ∧ Aside0 (kq ≤ k) ∧ Aside0 (Below w.heap.size w w'))
  case atStart => exact ⟨(0), rfl, H', ⟨Nat.le_refl _⟩, ⟨HB.out⟩⟩
  case round =>
   clear H'
   try clear c3b0
   try clear c3b1
   try clear c3b2
   obtain ⟨x5_1, rfl, HA, HK1, HB⟩ := hrel
   cases gk with
   | zero => exact absurd HA.out (by simp [laws_eqRowS.l0])
   | succ k1 =>
    have H := HA.out
    clear HA
    simp only [laws_eqRowS.l0] at H
    by_cases c4 : x5_1 < (l0.length : Int)
    ·rw [if_pos c4] at H
     have c4b0 : decide (x5_1 < (l0.length : Int)) = true := decide_eq_true c4
     clear c4
     by_cases c5 : 0 ≤ x5_1
     ·rw [if_pos c5] at H
      have c5b0 : decide (0 ≤ x5_1) = true := decide_eq_true c5
      clear c5
      by_cases c6 : x5_1 < (l1.length : Int)
      ·rw [if_pos c6] at H
       have c6b0 : decide (x5_1 < (l1.length : Int)) = true := decide_eq_true c6
       clear c6
       replace H := Option.bind_eq_some_iff.mp H
       obtain ⟨t312, A70, H⟩ := H
       have A7 := Aside0.mk A70
       clear A70
       by_cases c8 : t312 = true
       ·subst c8
        rw [if_pos rfl] at H
        have H' := Aside0.mk H
        clear H
        try go_wp2
        have n0_ := Aside0.mk (below_drew1 HB.out)
        clear HB
        have HB := n0_
        clear n0_
        have p310 : 0 ≤ (x5_1 : Int) := of_decide_eq_true (by (with_reducible assumption))
        have q310 : x5_1 < (l0.length : Int) := of_decide_eq_true (by (with_reducible assumption))
        obtain ⟨ad310, e310, hx310_0, hx310_1, hx310_2⟩ := at_T114 HR0.out x5_1 p310 q310
        have hw310_2 := hx310_2
        have hw310_1 := hx310_1
        have hw310_0 := hx310_0
        cases e310
        replace hx310_0 := (HB.out.cell (World.block_lt_of_cell? w _ hx310_0)).trans hx310_0
        replace hx310_1 := (HB.out.cell (World.block_lt_of_cell? w _ hx310_1)).trans hx310_1
        replace hx310_2 := (HB.out.cell (World.block_lt_of_cell? w _ hx310_2)).trans hx310_2
        replace p310 := eq_true p310
        replace q310 := eq_true q310
        have p311 : 0 ≤ (x5_1 : Int) := of_decide_eq_true (by (with_reducible assumption))
        have q311 : x5_1 < (l1.length : Int) := of_decide_eq_true (by (with_reducible assumption))
        obtain ⟨ad311, e311, hx311_0, hx311_1, hx311_2⟩ := at_T114 HR1.out x5_1 p311 q311
        have hw311_2 := hx311_2
        have hw311_1 := hx311_1
        have hw311_0 := hx311_0
        cases e311
        replace hx311_0 := (HB.out.cell (World.block_lt_of_cell? w _ hx311_0)).trans hx311_0
        replace hx311_1 := (HB.out.cell (World.block_lt_of_cell? w _ hx311_1)).trans hx311_1
        replace hx311_2 := (HB.out.cell (World.block_lt_of_cell? w _ hx311_2)).trans hx311_2
        replace p311 := eq_true p311
        replace q311 := eq_true q311
        refine start_ (n := 10) (S := fun w' => w'.cell? (ad310.add ((x5_1).toNat * 3)) = some (.int .i64 ((rd_T114 l0 x5_1).f0)) ∧ w'.cell? ⟨(ad310.add ((x5_1).toNat * 3)).block, (ad310.add ((x5_1).toNat * 3)).off + 1, none⟩ = some (.int .i64 ((rd_T114 l0 x5_1).f1)) ∧ w'.cell? ⟨(ad310.add ((x5_1).toNat * 3)).block, (ad310.add ((x5_1).toNat * 3)).off + 2, none⟩ = some (.int .i64 ((rd_T114 l0 x5_1).f2)) ∧ w'.cell? (ad311.add ((x5_1).toNat * 3)) = some (.int .i64 ((rd_T114 l1 x5_1).f0)) ∧ w'.cell? ⟨(ad311.add ((x5_1).toNat * 3)).block, (ad311.add ((x5_1).toNat * 3)).off + 1, none⟩ = some (.int .i64 ((rd_T114 l1 x5_1).f1)) ∧ w'.cell? ⟨(ad311.add ((x5_1).toNat * 3)).block, (ad311.add ((x5_1).toNat * 3)).off + 2, none⟩ = some (.int .i64 ((rd_T114 l1 x5_1).f2))) (ds := []) #[false, false, false, false, false, false, false, false, false, false] (by kernel_rfl) rfl rfl ⟨((HB.out.cell (World.block_lt_of_cell? w _ hw310_0)).trans hw310_0), ((HB.out.cell (World.block_lt_of_cell? w _ hw310_1)).trans hw310_1), ((HB.out.cell (World.block_lt_of_cell? w _ hw310_2)).trans hw310_2), ((HB.out.cell (World.block_lt_of_cell? w _ hw311_0)).trans hw311_0), ((HB.out.cell (World.block_lt_of_cell? w _ hw311_1)).trans hw311_1), ((HB.out.cell (World.block_lt_of_cell? w _ hw311_2)).trans hw311_2)⟩ (fun hHeld => ?_); refine with_tabW laws_eqRowS.tab6 laws_eqRowS.bits6 (fun HT_ HW_ => ?_)
        generalize wr.drew = w9 at HB hx310_0 hx310_1 hx310_2 hx311_0 hx311_1 hx311_2 hHeld ⊢
        refine pure_ (i := 0) (N := some 17) (v := ?_) (a' := ?_) #[true, false, false, false, false, false, false, false, false, false] rfl rfl (any_of HT_.out (by kernel_rfl)) (fun _ _ _ h => h) (Or.inl ⟨rfl, ?_⟩) ?_ ?_
        rotate_left
        ·intro w'
         go_simp
         with_reducible rfl
        rotate_left
        ·simp only [Act.put, List.setIfInBounds_toArray, List.set_cons_zero, List.set_cons_succ, i64_w, i32_w]
         rfl
        refine pure_ (i := 1) (N := some 18) (v := ?_) (a' := ?_) #[true, true, false, false, false, false, false, false, false, false] rfl rfl (any_of HT_.out (by kernel_rfl)) (fun _ _ _ h => h) (Or.inl ⟨rfl, ?_⟩) ?_ ?_
        rotate_left
        ·intro w'
         go_simp
         with_reducible rfl
        rotate_left
        ·simp only [Act.put, List.setIfInBounds_toArray, List.set_cons_zero, List.set_cons_succ, i64_w, i32_w]
         rfl
        refine pure_ (i := 2) (N := some 19) (v := ?_) (a' := ?_) #[true, true, true, false, false, false, false, false, false, false] rfl rfl (any_of HT_.out (by kernel_rfl)) (fun _ _ _ h => h) (Or.inl ⟨rfl, ?_⟩) ?_ ?_
        rotate_left
        ·intro w'
         go_simp
         with_reducible rfl
        rotate_left
        ·simp only [Act.put, List.setIfInBounds_toArray, List.set_cons_zero, List.set_cons_succ, i64_w, i32_w]
         rfl
        refine pure_ (i := 4) (N := some 21) (v := ?_) (a' := ?_) #[true, true, true, false, true, false, false, false, false, false] rfl rfl (any_of HT_.out (by kernel_rfl)) (fun _ _ _ h => h) (Or.inl ⟨rfl, ?_⟩) ?_ ?_
        rotate_left
        ·intro w'
         go_simp
         with_reducible rfl
        rotate_left
        ·simp only [Act.put, List.setIfInBounds_toArray, List.set_cons_zero, List.set_cons_succ, i64_w, i32_w]
         rfl
        refine pure_ (i := 5) (N := some 22) (v := ?_) (a' := ?_) #[true, true, true, false, true, true, false, false, false, false] rfl rfl (any_of HT_.out (by kernel_rfl)) (fun _ _ _ h => h) (Or.inl ⟨rfl, ?_⟩) ?_ ?_
        rotate_left
        ·intro w'
         go_simp
         with_reducible rfl
        rotate_left
        ·simp only [Act.put, List.setIfInBounds_toArray, List.set_cons_zero, List.set_cons_succ, i64_w, i32_w]
         rfl
        refine pure_ (i := 6) (N := some 23) (v := ?_) (a' := ?_) #[true, true, true, false, true, true, true, false, false, false] rfl rfl (any_of HT_.out (by kernel_rfl)) (fun _ _ _ h => h) (Or.inl ⟨rfl, ?_⟩) ?_ ?_
        rotate_left
        ·intro w'
         go_simp
         with_reducible rfl
        rotate_left
        ·simp only [Act.put, List.setIfInBounds_toArray, List.set_cons_zero, List.set_cons_succ, i64_w, i32_w]
         rfl
        refine take_ (i := 3) (N := some 20) (v := ?_) (a' := ?_) #[true, true, true, true, true, true, true, false, false, false] rfl rfl (take_ofW HT_.out HW_.out (by kernel_rfl)) (fun _ _ _ h => h) (Or.inl ⟨rfl, ?_⟩) hHeld ?_ ?_
        rotate_left
        ·rintro w' ⟨s0, s1, s2, s3, s4, s5⟩
         go_simp
         with_reducible rfl
        rotate_left
        ·simp only [Act.put, List.setIfInBounds_toArray, List.set_cons_zero, List.set_cons_succ, i64_w, i32_w]
         rfl
        refine take_ (i := 7) (N := some 24) (v := ?_) (a' := ?_) #[true, true, true, true, true, true, true, true, false, false] rfl rfl (take_ofW HT_.out HW_.out (by kernel_rfl)) (fun _ _ _ h => h) (Or.inl ⟨rfl, ?_⟩) hHeld ?_ ?_
        rotate_left
        ·rintro w' ⟨s0, s1, s2, s3, s4, s5⟩
         go_simp
         with_reducible rfl
        rotate_left
        ·simp only [Act.put, List.setIfInBounds_toArray, List.set_cons_zero, List.set_cons_succ, i64_w, i32_w]
         rfl
        refine one_ (i := 8) (N := some 25) #[true, true, true, true, true, true, true, true, true, false] rfl rfl (one_of HT_.out (by kernel_rfl)) (by decide) (fun K hK => ?_)
        refine goes_ Try.func98 (by kernel_rfl) rfl #[.agg #[.int .i64 ((rd_T114 l0 x5_1).f0), .int .i64 ((rd_T114 l0 x5_1).f1), .int .i64 ((rd_T114 l0 x5_1).f2)], .agg #[.int .i64 ((rd_T114 l1 x5_1).f0), .int .i64 ((rd_T114 l1 x5_1).f1), .int .i64 ((rd_T114 l1 x5_1).f2)]] rfl rfl rfl (by (try simp only [List.map_toArray, List.map_cons, List.map_nil]); rfl) ?_
        with_reducible refine (laws_eqRow.calls ((rd_T114 l0 x5_1).f0) ((rd_T114 l0 x5_1).f1) ((rd_T114 l0 x5_1).f2) ((rd_T114 l1 x5_1).f0) ((rd_T114 l1 x5_1).f1) ((rd_T114 l1 x5_1).f2) true _ A7.out).mono ?_
        rintro e w10 ⟨rfl, hb⟩
        refine ⟨_, rfl, ?_⟩
        have n0_ := Aside0.mk (below_step HB.out hb)
        clear HB
        have HB := n0_
        clear n0_
        (try clear hb)
        (try clear hb2)
        (try clear hk)
        (try clear hi)
        refine hK.out _ _ ⟨((HB.out.cell (World.block_lt_of_cell? w _ hw310_0)).trans hw310_0), ((HB.out.cell (World.block_lt_of_cell? w _ hw310_1)).trans hw310_1), ((HB.out.cell (World.block_lt_of_cell? w _ hw310_2)).trans hw310_2), ((HB.out.cell (World.block_lt_of_cell? w _ hw311_0)).trans hw311_0), ((HB.out.cell (World.block_lt_of_cell? w _ hw311_1)).trans hw311_1), ((HB.out.cell (World.block_lt_of_cell? w _ hw311_2)).trans hw311_2)⟩ (fun hHeld => ?_)
        clear hK K
        refine norm_ (a' := ?_) ?_ ?_
        rotate_left
        ·show Act.put _ (some 25) _ = _
         simp only [Act.put, List.setIfInBounds_toArray, List.set_cons_zero, List.set_cons_succ, i64_w, i32_w]
         rfl
        refine pure_ (i := 9) (N := some 26) (v := ?_) (a' := ?_) #[true, true, true, true, true, true, true, true, true, true] rfl rfl (any_of HT_.out (by kernel_rfl)) (fun _ _ _ h => h) (Or.inl ⟨rfl, ?_⟩) ?_ ?_
        rotate_left
        ·intro w'
         go_simp
         with_reducible rfl
        rotate_left
        ·simp only [Act.put, List.setIfInBounds_toArray, List.set_cons_zero, List.set_cons_succ, i64_w, i32_w]
         rfl
        refine done_ (done_of HT_.out (by kernel_rfl)) ?_
        try go_wp2
        go_roundg k1
        case measure => have := HK1.out; omega
        case rel => exact ⟨(wrap64 (x5_1 + 1)), rfl, H', ⟨by have := HK1.out; omega⟩, ⟨HB.out⟩⟩
       ·replace c8 := Bool.eq_false_iff.mpr c8
        subst c8
        rw [if_neg (show ¬ (false = true) by decide)] at H
        obtain rfl := Option.some.inj H
        try go_wp2
        have n0_ := Aside0.mk (below_drew1 HB.out)
        clear HB
        have HB := n0_
        clear n0_
        have p310 : 0 ≤ (x5_1 : Int) := of_decide_eq_true (by (with_reducible assumption))
        have q310 : x5_1 < (l0.length : Int) := of_decide_eq_true (by (with_reducible assumption))
        obtain ⟨ad310, e310, hx310_0, hx310_1, hx310_2⟩ := at_T114 HR0.out x5_1 p310 q310
        have hw310_2 := hx310_2
        have hw310_1 := hx310_1
        have hw310_0 := hx310_0
        cases e310
        replace hx310_0 := (HB.out.cell (World.block_lt_of_cell? w _ hx310_0)).trans hx310_0
        replace hx310_1 := (HB.out.cell (World.block_lt_of_cell? w _ hx310_1)).trans hx310_1
        replace hx310_2 := (HB.out.cell (World.block_lt_of_cell? w _ hx310_2)).trans hx310_2
        replace p310 := eq_true p310
        replace q310 := eq_true q310
        have p311 : 0 ≤ (x5_1 : Int) := of_decide_eq_true (by (with_reducible assumption))
        have q311 : x5_1 < (l1.length : Int) := of_decide_eq_true (by (with_reducible assumption))
        obtain ⟨ad311, e311, hx311_0, hx311_1, hx311_2⟩ := at_T114 HR1.out x5_1 p311 q311
        have hw311_2 := hx311_2
        have hw311_1 := hx311_1
        have hw311_0 := hx311_0
        cases e311
        replace hx311_0 := (HB.out.cell (World.block_lt_of_cell? w _ hx311_0)).trans hx311_0
        replace hx311_1 := (HB.out.cell (World.block_lt_of_cell? w _ hx311_1)).trans hx311_1
        replace hx311_2 := (HB.out.cell (World.block_lt_of_cell? w _ hx311_2)).trans hx311_2
        replace p311 := eq_true p311
        replace q311 := eq_true q311
        refine start_ (n := 10) (S := fun w' => w'.cell? (ad310.add ((x5_1).toNat * 3)) = some (.int .i64 ((rd_T114 l0 x5_1).f0)) ∧ w'.cell? ⟨(ad310.add ((x5_1).toNat * 3)).block, (ad310.add ((x5_1).toNat * 3)).off + 1, none⟩ = some (.int .i64 ((rd_T114 l0 x5_1).f1)) ∧ w'.cell? ⟨(ad310.add ((x5_1).toNat * 3)).block, (ad310.add ((x5_1).toNat * 3)).off + 2, none⟩ = some (.int .i64 ((rd_T114 l0 x5_1).f2)) ∧ w'.cell? (ad311.add ((x5_1).toNat * 3)) = some (.int .i64 ((rd_T114 l1 x5_1).f0)) ∧ w'.cell? ⟨(ad311.add ((x5_1).toNat * 3)).block, (ad311.add ((x5_1).toNat * 3)).off + 1, none⟩ = some (.int .i64 ((rd_T114 l1 x5_1).f1)) ∧ w'.cell? ⟨(ad311.add ((x5_1).toNat * 3)).block, (ad311.add ((x5_1).toNat * 3)).off + 2, none⟩ = some (.int .i64 ((rd_T114 l1 x5_1).f2))) (ds := []) #[false, false, false, false, false, false, false, false, false, false] (by kernel_rfl) rfl rfl ⟨((HB.out.cell (World.block_lt_of_cell? w _ hw310_0)).trans hw310_0), ((HB.out.cell (World.block_lt_of_cell? w _ hw310_1)).trans hw310_1), ((HB.out.cell (World.block_lt_of_cell? w _ hw310_2)).trans hw310_2), ((HB.out.cell (World.block_lt_of_cell? w _ hw311_0)).trans hw311_0), ((HB.out.cell (World.block_lt_of_cell? w _ hw311_1)).trans hw311_1), ((HB.out.cell (World.block_lt_of_cell? w _ hw311_2)).trans hw311_2)⟩ (fun hHeld => ?_); refine with_tabW laws_eqRowS.tab6 laws_eqRowS.bits6 (fun HT_ HW_ => ?_)
        generalize wr.drew = w11 at HB hx310_0 hx310_1 hx310_2 hx311_0 hx311_1 hx311_2 hHeld ⊢
        refine pure_ (i := 0) (N := some 17) (v := ?_) (a' := ?_) #[true, false, false, false, false, false, false, false, false, false] rfl rfl (any_of HT_.out (by kernel_rfl)) (fun _ _ _ h => h) (Or.inl ⟨rfl, ?_⟩) ?_ ?_
        rotate_left
        ·intro w'
         go_simp
         with_reducible rfl
        rotate_left
        ·simp only [Act.put, List.setIfInBounds_toArray, List.set_cons_zero, List.set_cons_succ, i64_w, i32_w]
         rfl
        refine pure_ (i := 1) (N := some 18) (v := ?_) (a' := ?_) #[true, true, false, false, false, false, false, false, false, false] rfl rfl (any_of HT_.out (by kernel_rfl)) (fun _ _ _ h => h) (Or.inl ⟨rfl, ?_⟩) ?_ ?_
        rotate_left
        ·intro w'
         go_simp
         with_reducible rfl
        rotate_left
        ·simp only [Act.put, List.setIfInBounds_toArray, List.set_cons_zero, List.set_cons_succ, i64_w, i32_w]
         rfl
        refine pure_ (i := 2) (N := some 19) (v := ?_) (a' := ?_) #[true, true, true, false, false, false, false, false, false, false] rfl rfl (any_of HT_.out (by kernel_rfl)) (fun _ _ _ h => h) (Or.inl ⟨rfl, ?_⟩) ?_ ?_
        rotate_left
        ·intro w'
         go_simp
         with_reducible rfl
        rotate_left
        ·simp only [Act.put, List.setIfInBounds_toArray, List.set_cons_zero, List.set_cons_succ, i64_w, i32_w]
         rfl
        refine pure_ (i := 4) (N := some 21) (v := ?_) (a' := ?_) #[true, true, true, false, true, false, false, false, false, false] rfl rfl (any_of HT_.out (by kernel_rfl)) (fun _ _ _ h => h) (Or.inl ⟨rfl, ?_⟩) ?_ ?_
        rotate_left
        ·intro w'
         go_simp
         with_reducible rfl
        rotate_left
        ·simp only [Act.put, List.setIfInBounds_toArray, List.set_cons_zero, List.set_cons_succ, i64_w, i32_w]
         rfl
        refine pure_ (i := 5) (N := some 22) (v := ?_) (a' := ?_) #[true, true, true, false, true, true, false, false, false, false] rfl rfl (any_of HT_.out (by kernel_rfl)) (fun _ _ _ h => h) (Or.inl ⟨rfl, ?_⟩) ?_ ?_
        rotate_left
        ·intro w'
         go_simp
         with_reducible rfl
        rotate_left
        ·simp only [Act.put, List.setIfInBounds_toArray, List.set_cons_zero, List.set_cons_succ, i64_w, i32_w]
         rfl
        refine pure_ (i := 6) (N := some 23) (v := ?_) (a' := ?_) #[true, true, true, false, true, true, true, false, false, false] rfl rfl (any_of HT_.out (by kernel_rfl)) (fun _ _ _ h => h) (Or.inl ⟨rfl, ?_⟩) ?_ ?_
        rotate_left
        ·intro w'
         go_simp
         with_reducible rfl
        rotate_left
        ·simp only [Act.put, List.setIfInBounds_toArray, List.set_cons_zero, List.set_cons_succ, i64_w, i32_w]
         rfl
        refine take_ (i := 3) (N := some 20) (v := ?_) (a' := ?_) #[true, true, true, true, true, true, true, false, false, false] rfl rfl (take_ofW HT_.out HW_.out (by kernel_rfl)) (fun _ _ _ h => h) (Or.inl ⟨rfl, ?_⟩) hHeld ?_ ?_
        rotate_left
        ·rintro w' ⟨s0, s1, s2, s3, s4, s5⟩
         go_simp
         with_reducible rfl
        rotate_left
        ·simp only [Act.put, List.setIfInBounds_toArray, List.set_cons_zero, List.set_cons_succ, i64_w, i32_w]
         rfl
        refine take_ (i := 7) (N := some 24) (v := ?_) (a' := ?_) #[true, true, true, true, true, true, true, true, false, false] rfl rfl (take_ofW HT_.out HW_.out (by kernel_rfl)) (fun _ _ _ h => h) (Or.inl ⟨rfl, ?_⟩) hHeld ?_ ?_
        rotate_left
        ·rintro w' ⟨s0, s1, s2, s3, s4, s5⟩
         go_simp
         with_reducible rfl
        rotate_left
        ·simp only [Act.put, List.setIfInBounds_toArray, List.set_cons_zero, List.set_cons_succ, i64_w, i32_w]
         rfl
        refine one_ (i := 8) (N := some 25) #[true, true, true, true, true, true, true, true, true, false] rfl rfl (one_of HT_.out (by kernel_rfl)) (by decide) (fun K hK => ?_)
        refine goes_ Try.func98 (by kernel_rfl) rfl #[.agg #[.int .i64 ((rd_T114 l0 x5_1).f0), .int .i64 ((rd_T114 l0 x5_1).f1), .int .i64 ((rd_T114 l0 x5_1).f2)], .agg #[.int .i64 ((rd_T114 l1 x5_1).f0), .int .i64 ((rd_T114 l1 x5_1).f1), .int .i64 ((rd_T114 l1 x5_1).f2)]] rfl rfl rfl (by (try simp only [List.map_toArray, List.map_cons, List.map_nil]); rfl) ?_
        with_reducible refine (laws_eqRow.calls ((rd_T114 l0 x5_1).f0) ((rd_T114 l0 x5_1).f1) ((rd_T114 l0 x5_1).f2) ((rd_T114 l1 x5_1).f0) ((rd_T114 l1 x5_1).f1) ((rd_T114 l1 x5_1).f2) false _ A7.out).mono ?_
        rintro e w12 ⟨rfl, hb⟩
        refine ⟨_, rfl, ?_⟩
        have n0_ := Aside0.mk (below_step HB.out hb)
        clear HB
        have HB := n0_
        clear n0_
        (try clear hb)
        (try clear hb2)
        (try clear hk)
        (try clear hi)
        refine hK.out _ _ ⟨((HB.out.cell (World.block_lt_of_cell? w _ hw310_0)).trans hw310_0), ((HB.out.cell (World.block_lt_of_cell? w _ hw310_1)).trans hw310_1), ((HB.out.cell (World.block_lt_of_cell? w _ hw310_2)).trans hw310_2), ((HB.out.cell (World.block_lt_of_cell? w _ hw311_0)).trans hw311_0), ((HB.out.cell (World.block_lt_of_cell? w _ hw311_1)).trans hw311_1), ((HB.out.cell (World.block_lt_of_cell? w _ hw311_2)).trans hw311_2)⟩ (fun hHeld => ?_)
        clear hK K
        refine norm_ (a' := ?_) ?_ ?_
        rotate_left
        ·show Act.put _ (some 25) _ = _
         simp only [Act.put, List.setIfInBounds_toArray, List.set_cons_zero, List.set_cons_succ, i64_w, i32_w]
         rfl
        refine pure_ (i := 9) (N := some 26) (v := ?_) (a' := ?_) #[true, true, true, true, true, true, true, true, true, true] rfl rfl (any_of HT_.out (by kernel_rfl)) (fun _ _ _ h => h) (Or.inl ⟨rfl, ?_⟩) ?_ ?_
        rotate_left
        ·intro w'
         go_simp
         with_reducible rfl
        rotate_left
        ·simp only [Act.put, List.setIfInBounds_toArray, List.set_cons_zero, List.set_cons_succ, i64_w, i32_w]
         rfl
        refine done_ (done_of HT_.out (by kernel_rfl)) ?_
        try go_wp2
        go_ret
        exact ⟨rfl, HB.out⟩
      ·rw [if_neg c6] at H
       exact absurd H (by simp)
     ·rw [if_neg c5] at H
      exact absurd H (by simp)
    ·rw [if_neg c4] at H
     have c4b0 : decide (x5_1 < (l0.length : Int)) = false := decide_eq_false c4
     clear c4
     obtain rfl := Option.some.inj H
     go_wp2
     go_ret
     exact ⟨rfl, HB.out⟩
 ·rw [if_neg c3] at H
  have c3b0 : ((l0.length : Int) == (l1.length : Int)) = false := beq_eq_false_iff_ne.mpr c3
  have c3b1 : ((l0.length : Int) != (l1.length : Int)) = true := bne_iff_ne.mpr c3
  have c3b2 : (l0.length == l1.length) = false := by (simp at c3 ⊢; omega)
  obtain rfl := Option.some.inj H
  go_enter Try.func30, Try.ntmps30
  go_wp2
  go_ret
  exact ⟨rfl, HB.out⟩

end Go.Proofs.Ytphkghnppcfdpaa.P
namespace Go.Proofs.Ytphkghnppcfdpaa.P
open Go.RowKit Go.Proofs.YtphkghnppcfdpaaW.PrintWords Go.Proofs.YtphkghnppcfdpaaW.PrintLast Go.Proofs.YtphkghnppcfdpaaW.PrintMore
attribute [local go_sem] max2_int min2_int max_two min_two max_three min_three max_four min_four   -- for this text's walks alone
set_option linter.unusedVariables false
set_option linter.unusedSimpArgs false

/-! ### laws_eqGroupTask: function 139 -/
def laws_eqGroupTask.f (k : Nat) (l0_0 : List (S114)) (a0_1 : Int) (l1_0 : List (S114)) (a1_1 : Int) : Option (Bool) := (laws_eqRowS.f k l0_0 l1_0).bind fun t315 => (if t315 = true then (if a0_1 = a1_1 then (some true) else (some false)) else (some false))
theorem laws_eqGroupTask.mono : ∀ a0 a1 a2 a3 k, LeO (laws_eqGroupTask.f k a0 a1 a2 a3) (laws_eqGroupTask.f (k + 1) a0 a1 a2 a3) := by
 intro a0 a1 a2 a3 k
 unfold laws_eqGroupTask.f
 repeat' first
   | (with_reducible exact laws_eqRowS.mono _ _ _)
   | (with_reducible exact LeO.refl _)
   | (with_reducible refine LeO.bind ?_ (fun _ => ?_))
set_option maxHeartbeats 8000000 in
set_option maxRecDepth 100000 in
theorem laws_eqGroupTask.calls (k : Nat) (A0_0 : Option Addr) (c0_0 : Nat) (l0_0 : List (S114)) (a0_1 : Int) (A1_0 : Option Addr) (c1_0 : Nat) (l1_0 : List (S114)) (a1_1 : Int) (r : Bool) (w : World) (hr0_0 : Kd.C k114 w A0_0 l0_0.length l0_0) (hc0_0 : l0_0.length ≤ c0_0) (hr1_0 : Kd.C k114 w A1_0 l1_0.length l1_0) (hc1_0 : l1_0.length ≤ c1_0) (h : laws_eqGroupTask.f k l0_0 a0_1 l1_0 a1_1 = some r) :
  Calls Try.prog 139 #[.agg #[.slice A0_0 l0_0.length c0_0, .int .i64 a0_1], .agg #[.slice A1_0 l1_0.length c1_0, .int .i64 a1_1]] w fun e w' => e = .returned (.bool r) ∧ Below w.heap.size w w' := by
 have hu79 := Try.underlying79
 have HR0_0 := Aside0.mk hr0_0
 have HC0_0 := Aside0.mk hc0_0
 clear hr0_0 hc0_0
 have HR1_0 := Aside0.mk hr1_0
 have HC1_0 := Aside0.mk hc1_0
 clear hr1_0 hc1_0
 have HB := Aside0.mk (Below.refl w.heap.size w)
 have H : ((laws_eqRowS.f k l0_0 l1_0).bind fun t315 => (if t315 = true then (if a0_1 = a1_1 then (some true) else (some false)) else (some false))) = some r := h
 clear h
 replace H := Option.bind_eq_some_iff.mp H
 obtain ⟨t315, A30, H⟩ := H
 have A3 := Aside0.mk A30
 clear A30
 by_cases c4 : t315 = true
 ·subst c4
  rw [if_pos rfl] at H
  by_cases c5 : a0_1 = a1_1
  ·rw [if_pos c5] at H
   have c5b0 : (a0_1 == a1_1) = true := beq_iff_eq.mpr c5
   have c5b1 : (a0_1 != a1_1) = false := bne_eq_false_iff_eq.mpr c5
   clear c5
   obtain rfl := Option.some.inj H
   go_enter Try.func139, Try.ntmps139
   go_wp2_with (first | ((with_reducible refine gate_dst (N := 2) rfl ?_); refine box_event ?hg (N := 2) ?hd (cs := #[.slice A0_0 l0_0.length c0_0, .int .i64 a0_1]) (t := 79) ?hr ?_; (case hd => rfl); (case hg => rfl); (case hr => (go_simp; done)); intro gb313 hg w6 hbox hb; have n0_ := Aside0.mk (below_step HB.out hb); have n1_ := Aside0.mk (hbox); have n2_ := Aside0.mk ((by rw [hg]; exact (below_size HB.out) : w.heap.size ≤ gb313)); have n3_ := Aside0.mk ((by rw [hg]; exact (below_size HB.out) : w.heap.size ≤ gb313)); clear HB; have HB := n0_; have BK313 := n1_; have GW313 := n2_; have GE313 := n3_; clear n0_ n1_ n2_ n3_; clear hb hbox hg) | ((with_reducible refine gate_dst (N := 3) rfl ?_); refine box_event ?hg (N := 3) ?hd (cs := #[.slice A1_0 l1_0.length c1_0, .int .i64 a1_1]) (t := 79) ?hr ?_; (case hd => rfl); (case hg => rfl); (case hr => (go_simp; done)); intro gb314 hg w7 hbox hb; have n0_ := Aside0.mk (blk_below (g := gb313) (o := .cells #[.slice A0_0 l0_0.length c0_0, .int .i64 a0_1] 79 (0, 0)) BK313.out hb); have n1_ := Aside0.mk (below_step HB.out hb); have n2_ := Aside0.mk (hbox); have n3_ := Aside0.mk ((by rw [hg]; exact (below_size HB.out) : w.heap.size ≤ gb314)); have n4_ := Aside0.mk ((by rw [hg]; exact (below_size HB.out) : w.heap.size ≤ gb314)); have n5_ := Aside0.mk ((by rw [hg]; exact Nat.ne_of_lt (blk_lt (g := gb313) (o := .cells #[.slice A0_0 l0_0.length c0_0, .int .i64 a0_1] 79 (0, 0)) BK313.out) : gb313 ≠ gb314)); have n6_ := Aside0.mk ((by rw [hg]; exact Nat.ne_of_gt (blk_lt (g := gb313) (o := .cells #[.slice A0_0 l0_0.length c0_0, .int .i64 a0_1] 79 (0, 0)) BK313.out) : gb314 ≠ gb313)); clear BK313; clear HB; have BK313 := n0_; have HB := n1_; have BK314 := n2_; have GW314 := n3_; have GE314 := n4_; have NB313_314 := n5_; have NB314_313 := n6_; clear n0_ n1_ n2_ n3_ n4_ n5_ n6_; clear hb hbox hg; have hnb8 := NB313_314.out; have hnc8 := NB314_313.out; have hcz9_0 : w7.cell? ⟨gb313, 0, none⟩ = some (.slice A0_0 l0_0.length c0_0) := (blk_cell BK313.out 0).trans rfl; have hcz9_1 : w7.cell? ⟨gb313, 1, none⟩ = some (.int .i64 a0_1) := (blk_cell BK313.out 1).trans rfl; have hfz9_0 := blk_frozen BK313.out 0; have hfz9_1 := blk_frozen BK313.out 1; have hcz10_0 : w7.cell? ⟨gb314, 0, none⟩ = some (.slice A1_0 l1_0.length c1_0) := (blk_cell BK314.out 0).trans rfl; have hcz10_1 : w7.cell? ⟨gb314, 1, none⟩ = some (.int .i64 a1_1) := (blk_cell BK314.out 1).trans rfl; have hfz10_0 := blk_frozen BK314.out 0; have hfz10_1 := blk_frozen BK314.out 1) | ((with_reducible refine gate_callee (f := 30) rfl ?_); refine goesL_ (some 9) rfl rfl Try.func30 (by kernel_rfl) rfl #[.slice A0_0 l0_0.length c0_0, .slice A1_0 l1_0.length c1_0] rfl (by (try simp only [List.map_toArray, List.map_cons, List.map_nil]); rfl) ?_; (with_reducible refine (laws_eqRowS.calls k _ _ l0_0 _ _ l1_0 true _ ?side1 ?side2 ?side3 ?side4 A3.out).mono ?_); (case side1 => repeat (exact (Kd.C_below HR0_0.out HB.out))); (case side2 => exact HC0_0.out); (case side3 => repeat (exact (Kd.C_below HR1_0.out HB.out))); (case side4 => exact HC1_0.out); rintro e w11 ⟨rfl, hb⟩; refine ⟨_, rfl, ?_⟩; have n0_ := Aside0.mk (blk_below (g := gb313) (o := .cells #[.slice A0_0 l0_0.length c0_0, .int .i64 a0_1] 79 (0, 0)) BK313.out hb); have n1_ := Aside0.mk (blk_below (g := gb314) (o := .cells #[.slice A1_0 l1_0.length c1_0, .int .i64 a1_1] 79 (0, 0)) BK314.out hb); have n2_ := Aside0.mk (below_step HB.out hb); clear BK313; clear BK314; clear HB; have BK313 := n0_; have BK314 := n1_; have HB := n2_; clear n0_ n1_ n2_; (try clear hb); (try clear hb2); (try clear hk); (try clear hi); have hcz12_0 : w11.cell? ⟨gb313, 0, none⟩ = some (.slice A0_0 l0_0.length c0_0) := (blk_cell BK313.out 0).trans rfl; have hcz12_1 : w11.cell? ⟨gb313, 1, none⟩ = some (.int .i64 a0_1) := (blk_cell BK313.out 1).trans rfl; have hfz12_0 := blk_frozen BK313.out 0; have hfz12_1 := blk_frozen BK313.out 1; have hcz13_0 : w11.cell? ⟨gb314, 0, none⟩ = some (.slice A1_0 l1_0.length c1_0) := (blk_cell BK314.out 0).trans rfl; have hcz13_1 : w11.cell? ⟨gb314, 1, none⟩ = some (.int .i64 a1_1) := (blk_cell BK314.out 1).trans rfl; have hfz13_0 := blk_frozen BK314.out 0; have hfz13_1 := blk_frozen BK314.out 1))
   go_ret
   exact ⟨rfl, HB.out⟩
  ·rw [if_neg c5] at H
   have c5b0 : (a0_1 == a1_1) = false := beq_eq_false_iff_ne.mpr c5
   have c5b1 : (a0_1 != a1_1) = true := bne_iff_ne.mpr c5
   obtain rfl := Option.some.inj H
   go_enter Try.func139, Try.ntmps139
   go_wp2_with (first | ((with_reducible refine gate_dst (N := 2) rfl ?_); refine box_event ?hg (N := 2) ?hd (cs := #[.slice A0_0 l0_0.length c0_0, .int .i64 a0_1]) (t := 79) ?hr ?_; (case hd => rfl); (case hg => rfl); (case hr => (go_simp; done)); intro gb313 hg w14 hbox hb; have n0_ := Aside0.mk (below_step HB.out hb); have n1_ := Aside0.mk (hbox); have n2_ := Aside0.mk ((by rw [hg]; exact (below_size HB.out) : w.heap.size ≤ gb313)); have n3_ := Aside0.mk ((by rw [hg]; exact (below_size HB.out) : w.heap.size ≤ gb313)); clear HB; have HB := n0_; have BK313 := n1_; have GW313 := n2_; have GE313 := n3_; clear n0_ n1_ n2_ n3_; clear hb hbox hg) | ((with_reducible refine gate_dst (N := 3) rfl ?_); refine box_event ?hg (N := 3) ?hd (cs := #[.slice A1_0 l1_0.length c1_0, .int .i64 a1_1]) (t := 79) ?hr ?_; (case hd => rfl); (case hg => rfl); (case hr => (go_simp; done)); intro gb314 hg w15 hbox hb; have n0_ := Aside0.mk (blk_below (g := gb313) (o := .cells #[.slice A0_0 l0_0.length c0_0, .int .i64 a0_1] 79 (0, 0)) BK313.out hb); have n1_ := Aside0.mk (below_step HB.out hb); have n2_ := Aside0.mk (hbox); have n3_ := Aside0.mk ((by rw [hg]; exact (below_size HB.out) : w.heap.size ≤ gb314)); have n4_ := Aside0.mk ((by rw [hg]; exact (below_size HB.out) : w.heap.size ≤ gb314)); have n5_ := Aside0.mk ((by rw [hg]; exact Nat.ne_of_lt (blk_lt (g := gb313) (o := .cells #[.slice A0_0 l0_0.length c0_0, .int .i64 a0_1] 79 (0, 0)) BK313.out) : gb313 ≠ gb314)); have n6_ := Aside0.mk ((by rw [hg]; exact Nat.ne_of_gt (blk_lt (g := gb313) (o := .cells #[.slice A0_0 l0_0.length c0_0, .int .i64 a0_1] 79 (0, 0)) BK313.out) : gb314 ≠ gb313)); clear BK313; clear HB; have BK313 := n0_; have HB := n1_; have BK314 := n2_; have GW314 := n3_; have GE314 := n4_; have NB313_314 := n5_; have NB314_313 := n6_; clear n0_ n1_ n2_ n3_ n4_ n5_ n6_; clear hb hbox hg; have hnb16 := NB313_314.out; have hnc16 := NB314_313.out; have hcz17_0 : w15.cell? ⟨gb313, 0, none⟩ = some (.slice A0_0 l0_0.length c0_0) := (blk_cell BK313.out 0).trans rfl; have hcz17_1 : w15.cell? ⟨gb313, 1, none⟩ = some (.int .i64 a0_1) := (blk_cell BK313.out 1).trans rfl; have hfz17_0 := blk_frozen BK313.out 0; have hfz17_1 := blk_frozen BK313.out 1; have hcz18_0 : w15.cell? ⟨gb314, 0, none⟩ = some (.slice A1_0 l1_0.length c1_0) := (blk_cell BK314.out 0).trans rfl; have hcz18_1 : w15.cell? ⟨gb314, 1, none⟩ = some (.int .i64 a1_1) := (blk_cell BK314.out 1).trans rfl; have hfz18_0 := blk_frozen BK314.out 0; have hfz18_1 := blk_frozen BK314.out 1) | ((with_reducible refine gate_callee (f := 30) rfl ?_); refine goesL_ (some 9) rfl rfl Try.func30 (by kernel_rfl) rfl #[.slice A0_0 l0_0.length c0_0, .slice A1_0 l1_0.length c1_0] rfl (by (try simp only [List.map_toArray, List.map_cons, List.map_nil]); rfl) ?_; (with_reducible refine (laws_eqRowS.calls k _ _ l0_0 _ _ l1_0 true _ ?side1 ?side2 ?side3 ?side4 A3.out).mono ?_); (case side1 => repeat (exact (Kd.C_below HR0_0.out HB.out))); (case side2 => exact HC0_0.out); (case side3 => repeat (exact (Kd.C_below HR1_0.out HB.out))); (case side4 => exact HC1_0.out); rintro e w19 ⟨rfl, hb⟩; refine ⟨_, rfl, ?_⟩; have n0_ := Aside0.mk (blk_below (g := gb313) (o := .cells #[.slice A0_0 l0_0.length c0_0, .int .i64 a0_1] 79 (0, 0)) BK313.out hb); have n1_ := Aside0.mk (blk_below (g := gb314) (o := .cells #[.slice A1_0 l1_0.length c1_0, .int .i64 a1_1] 79 (0, 0)) BK314.out hb); have n2_ := Aside0.mk (below_step HB.out hb); clear BK313; clear BK314; clear HB; have BK313 := n0_; have BK314 := n1_; have HB := n2_; clear n0_ n1_ n2_; (try clear hb); (try clear hb2); (try clear hk); (try clear hi); have hcz20_0 : w19.cell? ⟨gb313, 0, none⟩ = some (.slice A0_0 l0_0.length c0_0) := (blk_cell BK313.out 0).trans rfl; have hcz20_1 : w19.cell? ⟨gb313, 1, none⟩ = some (.int .i64 a0_1) := (blk_cell BK313.out 1).trans rfl; have hfz20_0 := blk_frozen BK313.out 0; have hfz20_1 := blk_frozen BK313.out 1; have hcz21_0 : w19.cell? ⟨gb314, 0, none⟩ = some (.slice A1_0 l1_0.length c1_0) := (blk_cell BK314.out 0).trans rfl; have hcz21_1 : w19.cell? ⟨gb314, 1, none⟩ = some (.int .i64 a1_1) := (blk_cell BK314.out 1).trans rfl; have hfz21_0 := blk_frozen BK314.out 0; have hfz21_1 := blk_frozen BK314.out 1))
   go_ret
   exact ⟨rfl, HB.out⟩
 ·replace c4 := Bool.eq_false_iff.mpr c4
  subst c4
  rw [if_neg (show ¬ (false = true) by decide)] at H
  obtain rfl := Option.some.inj H
  go_enter Try.func139, Try.ntmps139
  go_wp2_with (first | ((with_reducible refine gate_dst (N := 2) rfl ?_); refine box_event ?hg (N := 2) ?hd (cs := #[.slice A0_0 l0_0.length c0_0, .int .i64 a0_1]) (t := 79) ?hr ?_; (case hd => rfl); (case hg => rfl); (case hr => (go_simp; done)); intro gb313 hg w22 hbox hb; have n0_ := Aside0.mk (below_step HB.out hb); have n1_ := Aside0.mk (hbox); have n2_ := Aside0.mk ((by rw [hg]; exact (below_size HB.out) : w.heap.size ≤ gb313)); have n3_ := Aside0.mk ((by rw [hg]; exact (below_size HB.out) : w.heap.size ≤ gb313)); clear HB; have HB := n0_; have BK313 := n1_; have GW313 := n2_; have GE313 := n3_; clear n0_ n1_ n2_ n3_; clear hb hbox hg) | ((with_reducible refine gate_dst (N := 3) rfl ?_); refine box_event ?hg (N := 3) ?hd (cs := #[.slice A1_0 l1_0.length c1_0, .int .i64 a1_1]) (t := 79) ?hr ?_; (case hd => rfl); (case hg => rfl); (case hr => (go_simp; done)); intro gb314 hg w23 hbox hb; have n0_ := Aside0.mk (blk_below (g := gb313) (o := .cells #[.slice A0_0 l0_0.length c0_0, .int .i64 a0_1] 79 (0, 0)) BK313.out hb); have n1_ := Aside0.mk (below_step HB.out hb); have n2_ := Aside0.mk (hbox); have n3_ := Aside0.mk ((by rw [hg]; exact (below_size HB.out) : w.heap.size ≤ gb314)); have n4_ := Aside0.mk ((by rw [hg]; exact (below_size HB.out) : w.heap.size ≤ gb314)); have n5_ := Aside0.mk ((by rw [hg]; exact Nat.ne_of_lt (blk_lt (g := gb313) (o := .cells #[.slice A0_0 l0_0.length c0_0, .int .i64 a0_1] 79 (0, 0)) BK313.out) : gb313 ≠ gb314)); have n6_ := Aside0.mk ((by rw [hg]; exact Nat.ne_of_gt (blk_lt (g := gb313) (o := .cells #[.slice A0_0 l0_0.length c0_0, .int .i64 a0_1] 79 (0, 0)) BK313.out) : gb314 ≠ gb313)); clear BK313; clear HB; have BK313 := n0_; have HB := n1_; have BK314 := n2_; have GW314 := n3_; have GE314 := n4_; have NB313_314 := n5_; have NB314_313 := n6_; clear n0_ n1_ n2_ n3_ n4_ n5_ n6_; clear hb hbox hg; have hnb24 := NB313_314.out; have hnc24 := NB314_313.out; have hcz25_0 : w23.cell? ⟨gb313, 0, none⟩ = some (.slice A0_0 l0_0.length c0_0) := (blk_cell BK313.out 0).trans rfl; have hcz25_1 : w23.cell? ⟨gb313, 1, none⟩ = some (.int .i64 a0_1) := (blk_cell BK313.out 1).trans rfl; have hfz25_0 := blk_frozen BK313.out 0; have hfz25_1 := blk_frozen BK313.out 1; have hcz26_0 : w23.cell? ⟨gb314, 0, none⟩ = some (.slice A1_0 l1_0.length c1_0) := (blk_cell BK314.out 0).trans rfl; have hcz26_1 : w23.cell? ⟨gb314, 1, none⟩ = some (.int .i64 a1_1) := (blk_cell BK314.out 1).trans rfl; have hfz26_0 := blk_frozen BK314.out 0; have hfz26_1 := blk_frozen BK314.out 1) | ((with_reducible refine gate_callee (f := 30) rfl ?_); refine goesL_ (some 9) rfl rfl Try.func30 (by kernel_rfl) rfl #[.slice A0_0 l0_0.length c0_0, .slice A1_0 l1_0.length c1_0] rfl (by (try simp only [List.map_toArray, List.map_cons, List.map_nil]); rfl) ?_; (with_reducible refine (laws_eqRowS.calls k _ _ l0_0 _ _ l1_0 false _ ?side1 ?side2 ?side3 ?side4 A3.out).mono ?_); (case side1 => repeat (exact (Kd.C_below HR0_0.out HB.out))); (case side2 => exact HC0_0.out); (case side3 => repeat (exact (Kd.C_below HR1_0.out HB.out))); (case side4 => exact HC1_0.out); rintro e w27 ⟨rfl, hb⟩; refine ⟨_, rfl, ?_⟩; have n0_ := Aside0.mk (blk_below (g := gb313) (o := .cells #[.slice A0_0 l0_0.length c0_0, .int .i64 a0_1] 79 (0, 0)) BK313.out hb); have n1_ := Aside0.mk (blk_below (g := gb314) (o := .cells #[.slice A1_0 l1_0.length c1_0, .int .i64 a1_1] 79 (0, 0)) BK314.out hb); have n2_ := Aside0.mk (below_step HB.out hb); clear BK313; clear BK314; clear HB; have BK313 := n0_; have BK314 := n1_; have HB := n2_; clear n0_ n1_ n2_; (try clear hb); (try clear hb2); (try clear hk); (try clear hi)))
  go_ret
  exact ⟨rfl, HB.out⟩

end Go.Proofs.Ytphkghnppcfdpaa.P
