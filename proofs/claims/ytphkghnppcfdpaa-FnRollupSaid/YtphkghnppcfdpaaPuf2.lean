/- For every code the law FnRollup of the given program returns true and leaves its argument as it was; no condition. -/
import Derived.Test.YtphkghnppcfdpaaPuf1
namespace Go.Proofs.Ytphkghnppcfdpaa.P
open Go.RowKit Go.Proofs.YtphkghnppcfdpaaW.PrintWords Go.Proofs.YtphkghnppcfdpaaW.PrintLast Go.Proofs.YtphkghnppcfdpaaW.PrintMore
attribute [local go_sem] max2_int min2_int max_two min_two max_three min_three max_four min_four   -- for this text's walks alone
set_option linter.unusedVariables false
set_option linter.unusedSimpArgs false
set_option maxHeartbeats 8000000
set_option maxRecDepth 100000
def spec_l2Any.f (s0_0 : List Int) (s0_1 : Int) (s0_2 : Int) : Option (Int × Int × Int × Int × Int) := (spec_l2Row.f s0_0 s0_1 s0_2 10).bind fun bt457 => ((spec_l1Below.f s0_0 bt457.2.2.2.1 bt457.2.2.2.2 8).bind fun bt463 => (if bt463.1 = 0 then ((spec_l1PickInt.f s0_0 bt463.2.1 bt463.2.2 (([(-1), 10] : List Int))).bind fun bt469 => (some (bt469.1, bt457.2.1, bt457.2.2.1, bt469.2.1, bt469.2.2))) else (if bt463.1 = 1 then ((spec_l1PickInt.f s0_0 bt463.2.1 bt463.2.2 (([(-1), 100, 99] : List Int))).bind fun bt475 => (some (bt457.1, bt475.1, bt457.2.2.1, bt475.2.1, bt475.2.2))) else (if bt463.1 = 2 then ((spec_l1PickInt.f s0_0 bt463.2.1 bt463.2.2 (([(-1), 4] : List Int))).bind fun bt481 => (some (bt457.1, bt457.2.1, bt481.1, bt481.2.1, bt481.2.2))) else (some (bt457.1, bt457.2.1, bt457.2.2.1, bt463.2.1, bt463.2.2))))))
theorem spec_l2Any.calls (g : Nat) (s0_0 : List Int) (s0_1 : Int) (s0_2 : Int) (r1 : Int) (r2 : Int) (r3 : Int) (r4 : Int) (r5 : Int) (w0 w : World) (hI : IsS155 w0 w g s0_0 s0_1 s0_2) (hB : Below w0.heap.size w0 w) (h : spec_l2Any.f s0_0 s0_1 s0_2 = some (r1, r2, r3, r4, r5)) :
    Calls Try.prog 147 #[.pointer (some ⟨g, 0, none⟩)] w fun e w' => e = .returned (.agg #[.int .i64 r1, .int .i64 r2, .int .i64 r3]) ∧ IsS155 w0 w' g s0_0 r4 r5 ∧ Below w0.heap.size w0 w' ∧ KeepBut w w' g none := by
  have hu114 := Try.underlying114
  have HI0 := Aside0.mk hI
  have HK := Aside0.mk (KeepBut.refl w g none)
  have HL := Aside0.mk hB.size
  clear hI
  have HW0 := Aside0.mk hB.size
  have HB := Aside0.mk hB
  clear hB
  have H : ((spec_l2Row.f s0_0 s0_1 s0_2 10).bind fun bt457 => ((spec_l1Below.f s0_0 bt457.2.2.2.1 bt457.2.2.2.2 8).bind fun bt463 => (if bt463.1 = 0 then ((spec_l1PickInt.f s0_0 bt463.2.1 bt463.2.2 (([(-1), 10] : List Int))).bind fun bt469 => (some (bt469.1, bt457.2.1, bt457.2.2.1, bt469.2.1, bt469.2.2))) else (if bt463.1 = 1 then ((spec_l1PickInt.f s0_0 bt463.2.1 bt463.2.2 (([(-1), 100, 99] : List Int))).bind fun bt475 => (some (bt457.1, bt475.1, bt457.2.2.1, bt475.2.1, bt475.2.2))) else (if bt463.1 = 2 then ((spec_l1PickInt.f s0_0 bt463.2.1 bt463.2.2 (([(-1), 4] : List Int))).bind fun bt481 => (some (bt457.1, bt457.2.1, bt481.1, bt481.2.1, bt481.2.2))) else (some (bt457.1, bt457.2.1, bt457.2.2.1, bt463.2.1, bt463.2.2))))))) = some (r1, r2, r3, r4, r5) := h
  clear h
  replace H := Option.bind_eq_some_iff.mp H
  obtain ⟨⟨t457, t458, t459, t460, t461⟩, A20, H⟩ := H
  replace H : ((spec_l1Below.f s0_0 t460 t461 8).bind fun bt463 => (if bt463.1 = 0 then ((spec_l1PickInt.f s0_0 bt463.2.1 bt463.2.2 (([(-1), 10] : List Int))).bind fun bt469 => (some (bt469.1, t458, t459, bt469.2.1, bt469.2.2))) else (if bt463.1 = 1 then ((spec_l1PickInt.f s0_0 bt463.2.1 bt463.2.2 (([(-1), 100, 99] : List Int))).bind fun bt475 => (some (t457, bt475.1, t459, bt475.2.1, bt475.2.2))) else (if bt463.1 = 2 then ((spec_l1PickInt.f s0_0 bt463.2.1 bt463.2.2 (([(-1), 4] : List Int))).bind fun bt481 => (some (t457, t458, bt481.1, bt481.2.1, bt481.2.2))) else (some (t457, t458, t459, bt463.2.1, bt463.2.2)))))) = some (r1, r2, r3, r4, r5) := H
  have A2 := Aside0.mk A20
  clear A20
  replace H := Option.bind_eq_some_iff.mp H
  obtain ⟨⟨t463, t464, t465⟩, A30, H⟩ := H
  replace H : (if t463 = 0 then ((spec_l1PickInt.f s0_0 t464 t465 (([(-1), 10] : List Int))).bind fun bt469 => (some (bt469.1, t458, t459, bt469.2.1, bt469.2.2))) else (if t463 = 1 then ((spec_l1PickInt.f s0_0 t464 t465 (([(-1), 100, 99] : List Int))).bind fun bt475 => (some (t457, bt475.1, t459, bt475.2.1, bt475.2.2))) else (if t463 = 2 then ((spec_l1PickInt.f s0_0 t464 t465 (([(-1), 4] : List Int))).bind fun bt481 => (some (t457, t458, bt481.1, bt481.2.1, bt481.2.2))) else (some (t457, t458, t459, t464, t465))))) = some (r1, r2, r3, r4, r5) := H
  have A3 := Aside0.mk A30
  clear A30
  by_cases c4 : t463 = 0
  · rw [if_pos c4] at H
    have c4b0 : (t463 == 0) = true := beq_iff_eq.mpr c4
    have c4b1 : (t463 != 0) = false := bne_eq_false_iff_eq.mpr c4
    clear c4
    obtain ⟨y466, hy466⟩ : ∃ y_ : List Int, y_ = (([(-1), 10] : List Int)) := ⟨_, rfl⟩
    replace H : ((spec_l1PickInt.f s0_0 t464 t465 y466).bind fun bt469 => (some (bt469.1, t458, t459, bt469.2.1, bt469.2.2))) = some (r1, r2, r3, r4, r5) := by first | (rw [hy466]; with_reducible exact H) | (have H2_ := (Option.bind_some _ _).symm.trans H; rw [hy466]; with_reducible exact H2_) | (have H2_ := (Option.bind_some _ _).symm.trans H; with_reducible exact H2_) | with_reducible exact H | (rw [hy466]; exact H) | exact H
    have Ny466 := Aside0.mk hy466
    clear hy466
    replace H := Option.bind_eq_some_iff.mp H
    obtain ⟨⟨t469, t470, t471⟩, A50, H⟩ := H
    replace H : (some (t469, t458, t459, t470, t471)) = some (r1, r2, r3, r4, r5) := H
    have A5 := Aside0.mk A50
    clear A50
    simp only [Option.some.injEq, Prod.mk.injEq] at H
    obtain ⟨rfl, rfl, rfl, rfl, rfl⟩ := H
    go_enter Try.func147, Try.ntmps147
    go_wp2_with (first | ((with_reducible refine gate_dst (N := 2) rfl ?_); refine box_event ?hg (N := 2) ?hd (cs := #[.int .i64 0, .int .i64 0, .int .i64 0]) (t := 114) ?hr ?_; (case hd => rfl); (case hg => rfl); (case hr => first | (go_simp; done) | (go_simp; rfl)); intro gb456 hg w6 hbox hb; have n0_ := Aside0.mk (IsS155.below (by repeat (first | (with_reducible first | exact HI0.out | apply IsS155.alloc | apply IsS155.drewN | apply IsS155.drew | apply IsS155.set_1 | apply IsS155.set_2) | exact HI0.out)) hb); have n1_ := Aside0.mk (KeepBut.trans (by repeat (first | (with_reducible first | exact HK.out | apply KeepBut.set_ | apply keep_drewN | apply keep_drew | apply keep_alloc) | exact HK.out)) (KeepBut.of_below hb g none) (.inl rfl)); have n2_ := Aside0.mk (below_step (by repeat (first | (with_reducible first | exact HB.out | apply below_alloc | apply pw_below_drewN | apply below_drew1 | refine below_set ?_ (IsS155.ge HI0.out)) | exact HB.out)) hb); have n3_ := Aside0.mk (hbox); have n4_ := Aside0.mk ((by rw [hg]; exact (keep_size (w := w) (g := g) (row := none) (by repeat (first | (with_reducible first | exact HK.out | apply KeepBut.set_ | apply keep_drewN | apply keep_drew | apply keep_alloc) | exact HK.out))) : w.heap.size ≤ gb456)); have n5_ := Aside0.mk ((Nat.le_trans HW0.out (by rw [hg]; exact (keep_size (w := w) (g := g) (row := none) (by repeat (first | (with_reducible first | exact HK.out | apply KeepBut.set_ | apply keep_drewN | apply keep_drew | apply keep_alloc) | exact HK.out))) : w.heap.size ≤ gb456) : w0.heap.size ≤ gb456)); have n6_ := Aside0.mk ((by rw [hg]; exact Nat.ne_of_lt (IsS155.lt (show IsS155 w0 _ g s0_0 s0_1 s0_2 from by repeat (first | (with_reducible first | exact HI0.out | apply IsS155.alloc | apply IsS155.drewN | apply IsS155.drew | apply IsS155.set_1 | apply IsS155.set_2) | exact HI0.out))) : g ≠ gb456)); have n7_ := Aside0.mk ((by rw [hg]; exact Nat.ne_of_gt (IsS155.lt (show IsS155 w0 _ g s0_0 s0_1 s0_2 from by repeat (first | (with_reducible first | exact HI0.out | apply IsS155.alloc | apply IsS155.drewN | apply IsS155.drew | apply IsS155.set_1 | apply IsS155.set_2) | exact HI0.out))) : gb456 ≠ g)); clear HI0; clear HK; clear HB; have HI0 := n0_; have HK := n1_; have HB := n2_; have BK456 := n3_; have GW456 := n4_; have GE456 := n5_; have NB0_456 := n6_; have NB456_0 := n7_; clear n0_ n1_ n2_ n3_ n4_ n5_ n6_ n7_; clear hb hbox hg) | ((with_reducible refine gate_callee (f := 164) rfl ?_); refine goesL_ (some 5) rfl rfl Try.func164 (by kernel_rfl) rfl #[.pointer (some ⟨g, 0, none⟩), .int .i64 10] rfl (by (try simp only [List.map_toArray, List.map_cons, List.map_nil]); first | done | rfl | (simp only [List.length_drop, List.length_take]; rfl)) ?_; (with_reducible refine (spec_l2Row.calls g s0_0 s0_1 s0_2 10 t457 t458 t459 t460 t461 w0 _ ?side1 ?side2 A2.out).mono ?_); (case side1 => repeat (first | (with_reducible first | exact HI0.out | apply IsS155.alloc | apply IsS155.drewN | apply IsS155.drew | apply IsS155.set_1 | apply IsS155.set_2 | refine IsS155.far ?_ NB0_456.out _) | exact HI0.out)); (case side2 => repeat (first | (with_reducible first | exact HB.out | apply below_alloc | apply pw_below_drewN | apply below_drew1 | refine below_set ?_ (IsS155.ge HI0.out) | refine below_set ?_ GE456.out) | exact HB.out)); rintro e w7 ⟨rfl, hi, hb, hk⟩; refine ⟨_, rfl, ?_⟩; have n0_ := Aside0.mk (KeepBut.blk hk (g' := gb456) (o := .cells #[.int .i64 0, .int .i64 0, .int .i64 0] 114 (0, 0)) (by (with_reducible repeat (first | refine blk_drewN ?_ _ | refine blk_drew ?_ | refine blk_alloc ?_ _)); exact BK456.out) NB456_0.out (by simp)); have n1_ := Aside0.mk (KeepBut.trans (by repeat (first | (with_reducible first | exact HK.out | apply KeepBut.set_ | apply keep_drewN | apply keep_drew | apply keep_alloc | refine keep_far ?_ GW456.out _) | exact HK.out)) hk (.inl rfl)); have n2_ := Aside0.mk (hb); have n3_ := Aside0.mk (hi); clear BK456; clear HK; clear HB; clear HI0; have BK456 := n0_; have HK := n1_; have HB := n2_; have HI0 := n3_; clear n0_ n1_ n2_ n3_; (try clear hb); (try clear hk); (try clear hi)) | ((with_reducible refine gate_dst (N := 3) rfl ?_); refine box_event ?hg (N := 3) ?hd (cs := #[.int .i64 0, .int .i64 0, .int .i64 0]) (t := 114) ?hr ?_; (case hd => rfl); (case hg => rfl); (case hr => first | (go_simp; done) | (go_simp; rfl)); intro gb462 hg w8 hbox hb; have n0_ := Aside0.mk (IsS155.below (by repeat (first | (with_reducible first | exact HI0.out | apply IsS155.alloc | apply IsS155.drewN | apply IsS155.drew | apply IsS155.set_1 | apply IsS155.set_2 | refine IsS155.far ?_ NB0_456.out _) | exact HI0.out)) hb); have n1_ := Aside0.mk (blk_below (g := gb456) (o := .cells #[.int .i64 0, .int .i64 0, .int .i64 0] 114 (0, 0)) (by (with_reducible repeat (first | refine blk_drewN ?_ _ | refine blk_drew ?_ | refine blk_alloc ?_ _)); exact BK456.out) hb); have n2_ := Aside0.mk (KeepBut.trans (by repeat (first | (with_reducible first | exact HK.out | apply KeepBut.set_ | apply keep_drewN | apply keep_drew | apply keep_alloc | refine keep_far ?_ GW456.out _) | exact HK.out)) (KeepBut.of_below hb g none) (.inl rfl)); have n3_ := Aside0.mk (below_step (by repeat (first | (with_reducible first | exact HB.out | apply below_alloc | apply pw_below_drewN | apply below_drew1 | refine below_set ?_ (IsS155.ge HI0.out) | refine below_set ?_ GE456.out) | exact HB.out)) hb); have n4_ := Aside0.mk (hbox); have n5_ := Aside0.mk ((by rw [hg]; exact (keep_size (w := w) (g := g) (row := none) (by repeat (first | (with_reducible first | exact HK.out | apply KeepBut.set_ | apply keep_drewN | apply keep_drew | apply keep_alloc | refine keep_far ?_ GW456.out _) | exact HK.out))) : w.heap.size ≤ gb462)); have n6_ := Aside0.mk ((Nat.le_trans HW0.out (by rw [hg]; exact (keep_size (w := w) (g := g) (row := none) (by repeat (first | (with_reducible first | exact HK.out | apply KeepBut.set_ | apply keep_drewN | apply keep_drew | apply keep_alloc | refine keep_far ?_ GW456.out _) | exact HK.out))) : w.heap.size ≤ gb462) : w0.heap.size ≤ gb462)); have n7_ := Aside0.mk ((by rw [hg]; exact Nat.ne_of_lt (blk_lt (g := gb456) (o := .cells #[.int .i64 0, .int .i64 0, .int .i64 0] 114 (0, 0)) (by (with_reducible repeat (first | refine blk_drewN ?_ _ | refine blk_drew ?_ | refine blk_alloc ?_ _)); exact BK456.out)) : gb456 ≠ gb462)); have n8_ := Aside0.mk ((by rw [hg]; exact Nat.ne_of_gt (blk_lt (g := gb456) (o := .cells #[.int .i64 0, .int .i64 0, .int .i64 0] 114 (0, 0)) (by (with_reducible repeat (first | refine blk_drewN ?_ _ | refine blk_drew ?_ | refine blk_alloc ?_ _)); exact BK456.out)) : gb462 ≠ gb456)); have n9_ := Aside0.mk ((by rw [hg]; exact Nat.ne_of_lt (IsS155.lt (show IsS155 w0 _ g s0_0 t460 t461 from by repeat (first | (with_reducible first | exact HI0.out | apply IsS155.alloc | apply IsS155.drewN | apply IsS155.drew | apply IsS155.set_1 | apply IsS155.set_2 | refine IsS155.far ?_ NB0_456.out _) | exact HI0.out))) : g ≠ gb462)); have n10_ := Aside0.mk ((by rw [hg]; exact Nat.ne_of_gt (IsS155.lt (show IsS155 w0 _ g s0_0 t460 t461 from by repeat (first | (with_reducible first | exact HI0.out | apply IsS155.alloc | apply IsS155.drewN | apply IsS155.drew | apply IsS155.set_1 | apply IsS155.set_2 | refine IsS155.far ?_ NB0_456.out _) | exact HI0.out))) : gb462 ≠ g)); clear HI0; clear BK456; clear HK; clear HB; have HI0 := n0_; have BK456 := n1_; have HK := n2_; have HB := n3_; have BK462 := n4_; have GW462 := n5_; have GE462 := n6_; have NB456_462 := n7_; have NB462_456 := n8_; have NB0_462 := n9_; have NB462_0 := n10_; clear n0_ n1_ n2_ n3_ n4_ n5_ n6_ n7_ n8_ n9_ n10_; clear hb hbox hg; have hnb9 := NB462_456.out; have hnc9 := NB456_462.out; have hnb10 := NB462_0.out; have hnc10 := NB0_462.out; have hcz11_0 : w8.cell? ⟨gb462, 0, none⟩ = some (.int .i64 0) := (blk_cell BK462.out 0).trans rfl; have hcz11_1 : w8.cell? ⟨gb462, 1, none⟩ = some (.int .i64 0) := (blk_cell BK462.out 1).trans rfl; have hcz11_2 : w8.cell? ⟨gb462, 2, none⟩ = some (.int .i64 0) := (blk_cell BK462.out 2).trans rfl; have hfz11_0 := blk_frozen BK462.out 0; have hfz11_1 := blk_frozen BK462.out 1; have hfz11_2 := blk_frozen BK462.out 2) | ((with_reducible refine gate_callee (f := 102) rfl ?_); refine goesL_ (some 7) rfl rfl Try.func102 (by kernel_rfl) rfl #[.pointer (some ⟨g, 0, none⟩), .int .i64 8] rfl (by (try simp only [List.map_toArray, List.map_cons, List.map_nil]); first | done | rfl | (simp only [List.length_drop, List.length_take]; rfl)) ?_; (with_reducible refine (spec_l1Below.calls g s0_0 t460 t461 8 t463 t464 t465 w0 _ ?side1 ?side2 A3.out).mono ?_); (case side1 => repeat (first | (with_reducible first | exact HI0.out | apply IsS155.alloc | apply IsS155.drewN | apply IsS155.drew | apply IsS155.set_1 | apply IsS155.set_2 | refine IsS155.far ?_ NB0_456.out _ | refine IsS155.far ?_ NB0_462.out _) | exact HI0.out)); (case side2 => repeat (first | (with_reducible first | exact HB.out | apply below_alloc | apply pw_below_drewN | apply below_drew1 | refine below_set ?_ (IsS155.ge HI0.out) | refine below_set ?_ GE456.out | refine below_set ?_ GE462.out) | exact HB.out)); rintro e w12 ⟨rfl, hi, hb, hk⟩; refine ⟨_, rfl, ?_⟩; have n0_ := Aside0.mk (KeepBut.blk hk (g' := gb456) (o := .cells #[.int .i64 0, .int .i64 0, .int .i64 0] 114 (0, 0)) (by (with_reducible repeat (first | refine blk_drewN ?_ _ | refine blk_drew ?_ | refine blk_alloc ?_ _)); refine blk_far ?_ NB456_462.out _; (with_reducible repeat (first | refine blk_drewN ?_ _ | refine blk_drew ?_ | refine blk_alloc ?_ _)); refine blk_far ?_ NB456_462.out _; (with_reducible repeat (first | refine blk_drewN ?_ _ | refine blk_drew ?_ | refine blk_alloc ?_ _)); refine blk_far ?_ NB456_462.out _; (with_reducible repeat (first | refine blk_drewN ?_ _ | refine blk_drew ?_ | refine blk_alloc ?_ _)); exact BK456.out) NB456_0.out (by simp)); have n1_ := Aside0.mk (KeepBut.blk hk (g' := gb462) (o := .cells #[.int .i64 t457, .int .i64 t458, .int .i64 t459] 114 (0, 0)) (by (with_reducible repeat (first | refine blk_drewN ?_ _ | refine blk_drew ?_ | refine blk_alloc ?_ _)); refine blk_put (cs := #[.int .i64 t457, .int .i64 t458, .int .i64 0]) ?_ 2 _ rfl; (with_reducible repeat (first | refine blk_drewN ?_ _ | refine blk_drew ?_ | refine blk_alloc ?_ _)); refine blk_put (cs := #[.int .i64 t457, .int .i64 0, .int .i64 0]) ?_ 1 _ rfl; (with_reducible repeat (first | refine blk_drewN ?_ _ | refine blk_drew ?_ | refine blk_alloc ?_ _)); refine blk_put (cs := #[.int .i64 0, .int .i64 0, .int .i64 0]) ?_ 0 _ rfl; (with_reducible repeat (first | refine blk_drewN ?_ _ | refine blk_drew ?_ | refine blk_alloc ?_ _)); exact BK462.out) NB462_0.out (by simp)); have n2_ := Aside0.mk (KeepBut.trans (by repeat (first | (with_reducible first | exact HK.out | apply KeepBut.set_ | apply keep_drewN | apply keep_drew | apply keep_alloc | refine keep_far ?_ GW456.out _ | refine keep_far ?_ GW462.out _) | exact HK.out)) hk (.inl rfl)); have n3_ := Aside0.mk (hb); have n4_ := Aside0.mk (hi); clear BK456; clear BK462; clear HK; clear HB; clear HI0; have BK456 := n0_; have BK462 := n1_; have HK := n2_; have HB := n3_; have HI0 := n4_; clear n0_ n1_ n2_ n3_ n4_; (try clear hb); (try clear hk); (try clear hi)) | ((with_reducible refine gate_dst (N := 11) rfl ?_); refine Kd.R_lit (Kd.int .i64) _ 3 ?hg (N := 11) ?hd (xs := ([(-1), 10] : List Int)) (inner := [.int .i64 (-1), .int .i64 10]) (ok := fun _ => True) (okp := fun _ => True) ?hr ?hp (fun _ hk => hk) trivial (Below.refl _ _) (Nat.le_refl _) (by simp) ?_; (case hd => rfl); (case hg => rfl); (case hr => first | (go_simp; done) | (go_simp; rfl)); (case hp => exact (Reps.one (show Kd.M (Kd.int .i64) _ _ _ (-1) [.int .i64 (-1)] from rfl) (Reps.one (show Kd.M (Kd.int .i64) _ _ _ 10 [.int .i64 10] from rfl) (Reps.none _ _)))); intro v467 w13 ho14 hb hg_ hnew_; clear hg_ hnew_; (first | rw [← Ny466.out] at ho14 | (simp only [Int.reduceToNat] at ho14; rw [← Ny466.out] at ho14)); have n0_ := Aside0.mk (Kd.R_lower ho14 (keep_size (w := w) (g := g) (row := none) (by repeat (first | (with_reducible first | exact HK.out | apply KeepBut.set_ | apply keep_drewN | apply keep_drew | apply keep_alloc | refine keep_far ?_ GW456.out _ | refine keep_far ?_ GW462.out _) | exact HK.out)))); have n1_ := Aside0.mk (IsS155.below (by repeat (first | (with_reducible first | exact HI0.out | apply IsS155.alloc | apply IsS155.drewN | apply IsS155.drew | apply IsS155.set_1 | apply IsS155.set_2 | refine IsS155.far ?_ NB0_456.out _ | refine IsS155.far ?_ NB0_462.out _) | exact HI0.out)) hb); have n2_ := Aside0.mk (blk_below (g := gb456) (o := .cells #[.int .i64 0, .int .i64 0, .int .i64 0] 114 (0, 0)) (by (with_reducible repeat (first | refine blk_drewN ?_ _ | refine blk_drew ?_ | refine blk_alloc ?_ _)); exact BK456.out) hb); have n3_ := Aside0.mk (blk_below (g := gb462) (o := .cells #[.int .i64 t457, .int .i64 t458, .int .i64 t459] 114 (0, 0)) (by (with_reducible repeat (first | refine blk_drewN ?_ _ | refine blk_drew ?_ | refine blk_alloc ?_ _)); exact BK462.out) hb); have n4_ := Aside0.mk (KeepBut.trans (by repeat (first | (with_reducible first | exact HK.out | apply KeepBut.set_ | apply keep_drewN | apply keep_drew | apply keep_alloc | refine keep_far ?_ GW456.out _ | refine keep_far ?_ GW462.out _) | exact HK.out)) (KeepBut.of_below hb g none) (.inl rfl)); have n5_ := Aside0.mk (below_step (by repeat (first | (with_reducible first | exact HB.out | apply below_alloc | apply pw_below_drewN | apply below_drew1 | refine below_set ?_ (IsS155.ge HI0.out) | refine below_set ?_ GE456.out | refine below_set ?_ GE462.out) | exact HB.out)) hb); clear HI0; clear BK456; clear BK462; clear HK; clear HB; have HO468 := n0_; have HI0 := n1_; have BK456 := n2_; have BK462 := n3_; have HK := n4_; have HB := n5_; clear n0_ n1_ n2_ n3_ n4_ n5_; clear hb ho14; obtain ⟨Ao15, co15, eo15⟩ := Kd.R_slice HO468.out; subst eo15) | ((with_reducible refine gate_callee (f := 150) rfl ?_); refine goesL_ (some 12) rfl rfl Try.func150 (by kernel_rfl) rfl #[.pointer (some ⟨g, 0, none⟩), .slice Ao15 y466.length co15] rfl (by (try simp only [List.map_toArray, List.map_cons, List.map_nil]); first | done | rfl | (simp only [List.length_drop, List.length_take]; rfl)) ?_; (with_reducible refine (spec_l1PickInt.calls g s0_0 t464 t465 _ _ y466 t469 t470 t471 w0 _ ?side1 ?side2 ?side3 ?side4 ?side5 A5.out).mono ?_); (case side1 => repeat (first | (with_reducible first | exact HI0.out | apply IsS155.alloc | apply IsS155.drewN | apply IsS155.drew | apply IsS155.set_1 | apply IsS155.set_2 | refine IsS155.far ?_ NB0_456.out _ | refine IsS155.far ?_ NB0_462.out _) | exact HI0.out)); (case side2 => repeat (first | (with_reducible first | exact HB.out | apply below_alloc | apply pw_below_drewN | apply below_drew1 | refine below_set ?_ (IsS155.ge HI0.out) | refine below_set ?_ GE456.out | refine below_set ?_ GE462.out) | exact HB.out)); (case side3 => repeat (first | exact (Kd.R_reads' HO468.out).2.2 | (with_reducible refine Kd.C_alloc ?_ _) | (with_reducible refine Kd.C_drewN ?_ _) | (with_reducible refine Kd.C_drew ?_))); (case side4 => exact (Kd.R_reads' HO468.out).2.1); (case side5 => exact far_slice (IsS155.own_ne HI0.out HO468.out (by decide))); rintro e w16 ⟨rfl, hi, hb, hk⟩; refine ⟨_, rfl, ?_⟩; have n0_ := Aside0.mk (KeepBut.blk hk (g' := gb456) (o := .cells #[.int .i64 0, .int .i64 0, .int .i64 0] 114 (0, 0)) (by (with_reducible repeat (first | refine blk_drewN ?_ _ | refine blk_drew ?_ | refine blk_alloc ?_ _)); exact BK456.out) NB456_0.out (by simp)); have n1_ := Aside0.mk (KeepBut.blk hk (g' := gb462) (o := .cells #[.int .i64 t457, .int .i64 t458, .int .i64 t459] 114 (0, 0)) (by (with_reducible repeat (first | refine blk_drewN ?_ _ | refine blk_drew ?_ | refine blk_alloc ?_ _)); exact BK462.out) NB462_0.out (by simp)); have n2_ := Aside0.mk (Kd.R_mono (Kd.R_keep (IsS155.apart (show IsS155 w0 _ g s0_0 t464 t465 from by repeat (first | (with_reducible first | exact HI0.out | apply IsS155.alloc | apply IsS155.drewN | apply IsS155.drew | apply IsS155.set_1 | apply IsS155.set_2 | refine IsS155.far ?_ NB0_456.out _ | refine IsS155.far ?_ NB0_462.out _) | exact HI0.out)) (by (with_reducible repeat (first | apply Kd.R_alloc | apply Kd.R_drewN | apply Kd.R_drew)); exact HO468.out) (by decide)) hk (fun _ h => h.2)) (fun _ h => h.1)); have n3_ := Aside0.mk (KeepBut.trans (by repeat (first | (with_reducible first | exact HK.out | apply KeepBut.set_ | apply keep_drewN | apply keep_drew | apply keep_alloc | refine keep_far ?_ GW456.out _ | refine keep_far ?_ GW462.out _) | exact HK.out)) hk (.inl rfl)); have n4_ := Aside0.mk (hb); have n5_ := Aside0.mk (hi); clear BK456; clear BK462; clear HO468; clear HK; clear HB; clear HI0; have BK456 := n0_; have BK462 := n1_; have HO468 := n2_; have HK := n3_; have HB := n4_; have HI0 := n5_; clear n0_ n1_ n2_ n3_ n4_ n5_; (try clear hb); (try clear hk); (try clear hi); have hcz17_0 : w16.cell? ⟨gb462, 0, none⟩ = some (.int .i64 t457) := (blk_cell BK462.out 0).trans rfl; have hcz17_1 : w16.cell? ⟨gb462, 1, none⟩ = some (.int .i64 t458) := (blk_cell BK462.out 1).trans rfl; have hcz17_2 : w16.cell? ⟨gb462, 2, none⟩ = some (.int .i64 t459) := (blk_cell BK462.out 2).trans rfl; have hfz17_0 := blk_frozen BK462.out 0; have hfz17_1 := blk_frozen BK462.out 1; have hfz17_2 := blk_frozen BK462.out 2; have hnb18 := NB456_0.out; have hnc18 := NB0_456.out; have hcz19_0 : w16.cell? ⟨gb456, 0, none⟩ = some (.int .i64 0) := (blk_cell BK456.out 0).trans rfl; have hcz19_1 : w16.cell? ⟨gb456, 1, none⟩ = some (.int .i64 0) := (blk_cell BK456.out 1).trans rfl; have hcz19_2 : w16.cell? ⟨gb456, 2, none⟩ = some (.int .i64 0) := (blk_cell BK456.out 2).trans rfl; have hfz19_0 := blk_frozen BK456.out 0; have hfz19_1 := blk_frozen BK456.out 1; have hfz19_2 := blk_frozen BK456.out 2))
    refine bodyPost_ret (results_cell_row rfl _ _ gb456 114 #[.int .i64 t469, .int .i64 t458, .int .i64 t459] (0, 0) _ rfl (by (with_reducible repeat (first | refine blk_drewN ?_ _ | refine blk_drew ?_ | refine blk_alloc ?_ _)); refine blk_put (cs := #[.int .i64 t469, .int .i64 t458, .int .i64 0]) ?_ 2 _ rfl; (with_reducible repeat (first | refine blk_drewN ?_ _ | refine blk_drew ?_ | refine blk_alloc ?_ _)); refine blk_put (cs := #[.int .i64 t469, .int .i64 0, .int .i64 0]) ?_ 1 _ rfl; (with_reducible repeat (first | refine blk_drewN ?_ _ | refine blk_drew ?_ | refine blk_alloc ?_ _)); refine blk_put (cs := #[.int .i64 0, .int .i64 0, .int .i64 0]) ?_ 0 _ rfl; (with_reducible repeat (first | refine blk_drewN ?_ _ | refine blk_drew ?_ | refine blk_alloc ?_ _)); refine blk_far ?_ NB456_462.out _; (with_reducible repeat (first | refine blk_drewN ?_ _ | refine blk_drew ?_ | refine blk_alloc ?_ _)); exact BK456.out) Try.underlying114 rfl (by kernel_rfl)) rfl ?_
    exact ⟨by first | rfl | (simp [errW_none, errW_some] <;> rfl) | (simp [*, errW_none, errW_some] <;> rfl), by repeat (first | (with_reducible first | exact HI0.out | apply IsS155.alloc | apply IsS155.drewN | apply IsS155.drew | apply IsS155.set_1 | apply IsS155.set_2 | refine IsS155.far ?_ NB0_456.out _ | refine IsS155.far ?_ NB0_462.out _) | exact HI0.out), by repeat (first | (with_reducible first | exact HB.out | apply below_alloc | apply pw_below_drewN | apply below_drew1 | refine below_set ?_ (IsS155.ge HI0.out) | refine below_set ?_ GE456.out | refine below_set ?_ GE462.out) | exact HB.out), by repeat (first | (with_reducible first | exact HK.out | apply KeepBut.set_ | apply keep_drewN | apply keep_drew | apply keep_alloc | refine keep_far ?_ GW456.out _ | refine keep_far ?_ GW462.out _) | exact HK.out)⟩
  · rw [if_neg c4] at H
    have c4b0 : (t463 == 0) = false := beq_eq_false_iff_ne.mpr c4
    have c4b1 : (t463 != 0) = true := bne_iff_ne.mpr c4
    by_cases c20 : t463 = 1
    · rw [if_pos c20] at H
      have c20b0 : (t463 == 1) = true := beq_iff_eq.mpr c20
      have c20b1 : (t463 != 1) = false := bne_eq_false_iff_eq.mpr c20
      clear c20
      obtain ⟨y472, hy472⟩ : ∃ y_ : List Int, y_ = (([(-1), 100, 99] : List Int)) := ⟨_, rfl⟩
      replace H : ((spec_l1PickInt.f s0_0 t464 t465 y472).bind fun bt475 => (some (t457, bt475.1, t459, bt475.2.1, bt475.2.2))) = some (r1, r2, r3, r4, r5) := by first | (rw [hy472]; with_reducible exact H) | (have H2_ := (Option.bind_some _ _).symm.trans H; rw [hy472]; with_reducible exact H2_) | (have H2_ := (Option.bind_some _ _).symm.trans H; with_reducible exact H2_) | with_reducible exact H | (rw [hy472]; exact H) | exact H
      have Ny472 := Aside0.mk hy472
      clear hy472
      replace H := Option.bind_eq_some_iff.mp H
      obtain ⟨⟨t475, t476, t477⟩, A210, H⟩ := H
      replace H : (some (t457, t475, t459, t476, t477)) = some (r1, r2, r3, r4, r5) := H
      have A21 := Aside0.mk A210
      clear A210
      simp only [Option.some.injEq, Prod.mk.injEq] at H
      obtain ⟨rfl, rfl, rfl, rfl, rfl⟩ := H
      go_enter Try.func147, Try.ntmps147
      go_wp2_with (first | ((with_reducible refine gate_dst (N := 2) rfl ?_); refine box_event ?hg (N := 2) ?hd (cs := #[.int .i64 0, .int .i64 0, .int .i64 0]) (t := 114) ?hr ?_; (case hd => rfl); (case hg => rfl); (case hr => first | (go_simp; done) | (go_simp; rfl)); intro gb456 hg w22 hbox hb; have n0_ := Aside0.mk (IsS155.below (by repeat (first | (with_reducible first | exact HI0.out | apply IsS155.alloc | apply IsS155.drewN | apply IsS155.drew | apply IsS155.set_1 | apply IsS155.set_2) | exact HI0.out)) hb); have n1_ := Aside0.mk (KeepBut.trans (by repeat (first | (with_reducible first | exact HK.out | apply KeepBut.set_ | apply keep_drewN | apply keep_drew | apply keep_alloc) | exact HK.out)) (KeepBut.of_below hb g none) (.inl rfl)); have n2_ := Aside0.mk (below_step (by repeat (first | (with_reducible first | exact HB.out | apply below_alloc | apply pw_below_drewN | apply below_drew1 | refine below_set ?_ (IsS155.ge HI0.out)) | exact HB.out)) hb); have n3_ := Aside0.mk (hbox); have n4_ := Aside0.mk ((by rw [hg]; exact (keep_size (w := w) (g := g) (row := none) (by repeat (first | (with_reducible first | exact HK.out | apply KeepBut.set_ | apply keep_drewN | apply keep_drew | apply keep_alloc) | exact HK.out))) : w.heap.size ≤ gb456)); have n5_ := Aside0.mk ((Nat.le_trans HW0.out (by rw [hg]; exact (keep_size (w := w) (g := g) (row := none) (by repeat (first | (with_reducible first | exact HK.out | apply KeepBut.set_ | apply keep_drewN | apply keep_drew | apply keep_alloc) | exact HK.out))) : w.heap.size ≤ gb456) : w0.heap.size ≤ gb456)); have n6_ := Aside0.mk ((by rw [hg]; exact Nat.ne_of_lt (IsS155.lt (show IsS155 w0 _ g s0_0 s0_1 s0_2 from by repeat (first | (with_reducible first | exact HI0.out | apply IsS155.alloc | apply IsS155.drewN | apply IsS155.drew | apply IsS155.set_1 | apply IsS155.set_2) | exact HI0.out))) : g ≠ gb456)); have n7_ := Aside0.mk ((by rw [hg]; exact Nat.ne_of_gt (IsS155.lt (show IsS155 w0 _ g s0_0 s0_1 s0_2 from by repeat (first | (with_reducible first | exact HI0.out | apply IsS155.alloc | apply IsS155.drewN | apply IsS155.drew | apply IsS155.set_1 | apply IsS155.set_2) | exact HI0.out))) : gb456 ≠ g)); clear HI0; clear HK; clear HB; have HI0 := n0_; have HK := n1_; have HB := n2_; have BK456 := n3_; have GW456 := n4_; have GE456 := n5_; have NB0_456 := n6_; have NB456_0 := n7_; clear n0_ n1_ n2_ n3_ n4_ n5_ n6_ n7_; clear hb hbox hg) | ((with_reducible refine gate_callee (f := 164) rfl ?_); refine goesL_ (some 5) rfl rfl Try.func164 (by kernel_rfl) rfl #[.pointer (some ⟨g, 0, none⟩), .int .i64 10] rfl (by (try simp only [List.map_toArray, List.map_cons, List.map_nil]); first | done | rfl | (simp only [List.length_drop, List.length_take]; rfl)) ?_; (with_reducible refine (spec_l2Row.calls g s0_0 s0_1 s0_2 10 t457 t458 t459 t460 t461 w0 _ ?side1 ?side2 A2.out).mono ?_); (case side1 => repeat (first | (with_reducible first | exact HI0.out | apply IsS155.alloc | apply IsS155.drewN | apply IsS155.drew | apply IsS155.set_1 | apply IsS155.set_2 | refine IsS155.far ?_ NB0_456.out _) | exact HI0.out)); (case side2 => repeat (first | (with_reducible first | exact HB.out | apply below_alloc | apply pw_below_drewN | apply below_drew1 | refine below_set ?_ (IsS155.ge HI0.out) | refine below_set ?_ GE456.out) | exact HB.out)); rintro e w23 ⟨rfl, hi, hb, hk⟩; refine ⟨_, rfl, ?_⟩; have n0_ := Aside0.mk (KeepBut.blk hk (g' := gb456) (o := .cells #[.int .i64 0, .int .i64 0, .int .i64 0] 114 (0, 0)) (by (with_reducible repeat (first | refine blk_drewN ?_ _ | refine blk_drew ?_ | refine blk_alloc ?_ _)); exact BK456.out) NB456_0.out (by simp)); have n1_ := Aside0.mk (KeepBut.trans (by repeat (first | (with_reducible first | exact HK.out | apply KeepBut.set_ | apply keep_drewN | apply keep_drew | apply keep_alloc | refine keep_far ?_ GW456.out _) | exact HK.out)) hk (.inl rfl)); have n2_ := Aside0.mk (hb); have n3_ := Aside0.mk (hi); clear BK456; clear HK; clear HB; clear HI0; have BK456 := n0_; have HK := n1_; have HB := n2_; have HI0 := n3_; clear n0_ n1_ n2_ n3_; (try clear hb); (try clear hk); (try clear hi)) | ((with_reducible refine gate_dst (N := 3) rfl ?_); refine box_event ?hg (N := 3) ?hd (cs := #[.int .i64 0, .int .i64 0, .int .i64 0]) (t := 114) ?hr ?_; (case hd => rfl); (case hg => rfl); (case hr => first | (go_simp; done) | (go_simp; rfl)); intro gb462 hg w24 hbox hb; have n0_ := Aside0.mk (IsS155.below (by repeat (first | (with_reducible first | exact HI0.out | apply IsS155.alloc | apply IsS155.drewN | apply IsS155.drew | apply IsS155.set_1 | apply IsS155.set_2 | refine IsS155.far ?_ NB0_456.out _) | exact HI0.out)) hb); have n1_ := Aside0.mk (blk_below (g := gb456) (o := .cells #[.int .i64 0, .int .i64 0, .int .i64 0] 114 (0, 0)) (by (with_reducible repeat (first | refine blk_drewN ?_ _ | refine blk_drew ?_ | refine blk_alloc ?_ _)); exact BK456.out) hb); have n2_ := Aside0.mk (KeepBut.trans (by repeat (first | (with_reducible first | exact HK.out | apply KeepBut.set_ | apply keep_drewN | apply keep_drew | apply keep_alloc | refine keep_far ?_ GW456.out _) | exact HK.out)) (KeepBut.of_below hb g none) (.inl rfl)); have n3_ := Aside0.mk (below_step (by repeat (first | (with_reducible first | exact HB.out | apply below_alloc | apply pw_below_drewN | apply below_drew1 | refine below_set ?_ (IsS155.ge HI0.out) | refine below_set ?_ GE456.out) | exact HB.out)) hb); have n4_ := Aside0.mk (hbox); have n5_ := Aside0.mk ((by rw [hg]; exact (keep_size (w := w) (g := g) (row := none) (by repeat (first | (with_reducible first | exact HK.out | apply KeepBut.set_ | apply keep_drewN | apply keep_drew | apply keep_alloc | refine keep_far ?_ GW456.out _) | exact HK.out))) : w.heap.size ≤ gb462)); have n6_ := Aside0.mk ((Nat.le_trans HW0.out (by rw [hg]; exact (keep_size (w := w) (g := g) (row := none) (by repeat (first | (with_reducible first | exact HK.out | apply KeepBut.set_ | apply keep_drewN | apply keep_drew | apply keep_alloc | refine keep_far ?_ GW456.out _) | exact HK.out))) : w.heap.size ≤ gb462) : w0.heap.size ≤ gb462)); have n7_ := Aside0.mk ((by rw [hg]; exact Nat.ne_of_lt (blk_lt (g := gb456) (o := .cells #[.int .i64 0, .int .i64 0, .int .i64 0] 114 (0, 0)) (by (with_reducible repeat (first | refine blk_drewN ?_ _ | refine blk_drew ?_ | refine blk_alloc ?_ _)); exact BK456.out)) : gb456 ≠ gb462)); have n8_ := Aside0.mk ((by rw [hg]; exact Nat.ne_of_gt (blk_lt (g := gb456) (o := .cells #[.int .i64 0, .int .i64 0, .int .i64 0] 114 (0, 0)) (by (with_reducible repeat (first | refine blk_drewN ?_ _ | refine blk_drew ?_ | refine blk_alloc ?_ _)); exact BK456.out)) : gb462 ≠ gb456)); have n9_ := Aside0.mk ((by rw [hg]; exact Nat.ne_of_lt (IsS155.lt (show IsS155 w0 _ g s0_0 t460 t461 from by repeat (first | (with_reducible first | exact HI0.out | apply IsS155.alloc | apply IsS155.drewN | apply IsS155.drew | apply IsS155.set_1 | apply IsS155.set_2 | refine IsS155.far ?_ NB0_456.out _) | exact HI0.out))) : g ≠ gb462)); have n10_ := Aside0.mk ((by rw [hg]; exact Nat.ne_of_gt (IsS155.lt (show IsS155 w0 _ g s0_0 t460 t461 from by repeat (first | (with_reducible first | exact HI0.out | apply IsS155.alloc | apply IsS155.drewN | apply IsS155.drew | apply IsS155.set_1 | apply IsS155.set_2 | refine IsS155.far ?_ NB0_456.out _) | exact HI0.out))) : gb462 ≠ g)); clear HI0; clear BK456; clear HK; clear HB; have HI0 := n0_; have BK456 := n1_; have HK := n2_; have HB := n3_; have BK462 := n4_; have GW462 := n5_; have GE462 := n6_; have NB456_462 := n7_; have NB462_456 := n8_; have NB0_462 := n9_; have NB462_0 := n10_; clear n0_ n1_ n2_ n3_ n4_ n5_ n6_ n7_ n8_ n9_ n10_; clear hb hbox hg; have hnb25 := NB462_456.out; have hnc25 := NB456_462.out; have hnb26 := NB462_0.out; have hnc26 := NB0_462.out; have hcz27_0 : w24.cell? ⟨gb462, 0, none⟩ = some (.int .i64 0) := (blk_cell BK462.out 0).trans rfl; have hcz27_1 : w24.cell? ⟨gb462, 1, none⟩ = some (.int .i64 0) := (blk_cell BK462.out 1).trans rfl; have hcz27_2 : w24.cell? ⟨gb462, 2, none⟩ = some (.int .i64 0) := (blk_cell BK462.out 2).trans rfl; have hfz27_0 := blk_frozen BK462.out 0; have hfz27_1 := blk_frozen BK462.out 1; have hfz27_2 := blk_frozen BK462.out 2) | ((with_reducible refine gate_callee (f := 102) rfl ?_); refine goesL_ (some 7) rfl rfl Try.func102 (by kernel_rfl) rfl #[.pointer (some ⟨g, 0, none⟩), .int .i64 8] rfl (by (try simp only [List.map_toArray, List.map_cons, List.map_nil]); first | done | rfl | (simp only [List.length_drop, List.length_take]; rfl)) ?_; (with_reducible refine (spec_l1Below.calls g s0_0 t460 t461 8 t463 t464 t465 w0 _ ?side1 ?side2 A3.out).mono ?_); (case side1 => repeat (first | (with_reducible first | exact HI0.out | apply IsS155.alloc | apply IsS155.drewN | apply IsS155.drew | apply IsS155.set_1 | apply IsS155.set_2 | refine IsS155.far ?_ NB0_456.out _ | refine IsS155.far ?_ NB0_462.out _) | exact HI0.out)); (case side2 => repeat (first | (with_reducible first | exact HB.out | apply below_alloc | apply pw_below_drewN | apply below_drew1 | refine below_set ?_ (IsS155.ge HI0.out) | refine below_set ?_ GE456.out | refine below_set ?_ GE462.out) | exact HB.out)); rintro e w28 ⟨rfl, hi, hb, hk⟩; refine ⟨_, rfl, ?_⟩; have n0_ := Aside0.mk (KeepBut.blk hk (g' := gb456) (o := .cells #[.int .i64 0, .int .i64 0, .int .i64 0] 114 (0, 0)) (by (with_reducible repeat (first | refine blk_drewN ?_ _ | refine blk_drew ?_ | refine blk_alloc ?_ _)); refine blk_far ?_ NB456_462.out _; (with_reducible repeat (first | refine blk_drewN ?_ _ | refine blk_drew ?_ | refine blk_alloc ?_ _)); refine blk_far ?_ NB456_462.out _; (with_reducible repeat (first | refine blk_drewN ?_ _ | refine blk_drew ?_ | refine blk_alloc ?_ _)); refine blk_far ?_ NB456_462.out _; (with_reducible repeat (first | refine blk_drewN ?_ _ | refine blk_drew ?_ | refine blk_alloc ?_ _)); exact BK456.out) NB456_0.out (by simp)); have n1_ := Aside0.mk (KeepBut.blk hk (g' := gb462) (o := .cells #[.int .i64 t457, .int .i64 t458, .int .i64 t459] 114 (0, 0)) (by (with_reducible repeat (first | refine blk_drewN ?_ _ | refine blk_drew ?_ | refine blk_alloc ?_ _)); refine blk_put (cs := #[.int .i64 t457, .int .i64 t458, .int .i64 0]) ?_ 2 _ rfl; (with_reducible repeat (first | refine blk_drewN ?_ _ | refine blk_drew ?_ | refine blk_alloc ?_ _)); refine blk_put (cs := #[.int .i64 t457, .int .i64 0, .int .i64 0]) ?_ 1 _ rfl; (with_reducible repeat (first | refine blk_drewN ?_ _ | refine blk_drew ?_ | refine blk_alloc ?_ _)); refine blk_put (cs := #[.int .i64 0, .int .i64 0, .int .i64 0]) ?_ 0 _ rfl; (with_reducible repeat (first | refine blk_drewN ?_ _ | refine blk_drew ?_ | refine blk_alloc ?_ _)); exact BK462.out) NB462_0.out (by simp)); have n2_ := Aside0.mk (KeepBut.trans (by repeat (first | (with_reducible first | exact HK.out | apply KeepBut.set_ | apply keep_drewN | apply keep_drew | apply keep_alloc | refine keep_far ?_ GW456.out _ | refine keep_far ?_ GW462.out _) | exact HK.out)) hk (.inl rfl)); have n3_ := Aside0.mk (hb); have n4_ := Aside0.mk (hi); clear BK456; clear BK462; clear HK; clear HB; clear HI0; have BK456 := n0_; have BK462 := n1_; have HK := n2_; have HB := n3_; have HI0 := n4_; clear n0_ n1_ n2_ n3_ n4_; (try clear hb); (try clear hk); (try clear hi)) | ((with_reducible refine gate_dst (N := 17) rfl ?_); refine Kd.R_lit (Kd.int .i64) _ 3 ?hg (N := 17) ?hd (xs := ([(-1), 100, 99] : List Int)) (inner := [.int .i64 (-1), .int .i64 100, .int .i64 99]) (ok := fun _ => True) (okp := fun _ => True) ?hr ?hp (fun _ hk => hk) trivial (Below.refl _ _) (Nat.le_refl _) (by simp) ?_; (case hd => rfl); (case hg => rfl); (case hr => first | (go_simp; done) | (go_simp; rfl)); (case hp => exact (Reps.one (show Kd.M (Kd.int .i64) _ _ _ (-1) [.int .i64 (-1)] from rfl) (Reps.one (show Kd.M (Kd.int .i64) _ _ _ 100 [.int .i64 100] from rfl) (Reps.one (show Kd.M (Kd.int .i64) _ _ _ 99 [.int .i64 99] from rfl) (Reps.none _ _))))); intro v473 w29 ho30 hb hg_ hnew_; clear hg_ hnew_; (first | rw [← Ny472.out] at ho30 | (simp only [Int.reduceToNat] at ho30; rw [← Ny472.out] at ho30)); have n0_ := Aside0.mk (Kd.R_lower ho30 (keep_size (w := w) (g := g) (row := none) (by repeat (first | (with_reducible first | exact HK.out | apply KeepBut.set_ | apply keep_drewN | apply keep_drew | apply keep_alloc | refine keep_far ?_ GW456.out _ | refine keep_far ?_ GW462.out _) | exact HK.out)))); have n1_ := Aside0.mk (IsS155.below (by repeat (first | (with_reducible first | exact HI0.out | apply IsS155.alloc | apply IsS155.drewN | apply IsS155.drew | apply IsS155.set_1 | apply IsS155.set_2 | refine IsS155.far ?_ NB0_456.out _ | refine IsS155.far ?_ NB0_462.out _) | exact HI0.out)) hb); have n2_ := Aside0.mk (blk_below (g := gb456) (o := .cells #[.int .i64 0, .int .i64 0, .int .i64 0] 114 (0, 0)) (by (with_reducible repeat (first | refine blk_drewN ?_ _ | refine blk_drew ?_ | refine blk_alloc ?_ _)); exact BK456.out) hb); have n3_ := Aside0.mk (blk_below (g := gb462) (o := .cells #[.int .i64 t457, .int .i64 t458, .int .i64 t459] 114 (0, 0)) (by (with_reducible repeat (first | refine blk_drewN ?_ _ | refine blk_drew ?_ | refine blk_alloc ?_ _)); exact BK462.out) hb); have n4_ := Aside0.mk (KeepBut.trans (by repeat (first | (with_reducible first | exact HK.out | apply KeepBut.set_ | apply keep_drewN | apply keep_drew | apply keep_alloc | refine keep_far ?_ GW456.out _ | refine keep_far ?_ GW462.out _) | exact HK.out)) (KeepBut.of_below hb g none) (.inl rfl)); have n5_ := Aside0.mk (below_step (by repeat (first | (with_reducible first | exact HB.out | apply below_alloc | apply pw_below_drewN | apply below_drew1 | refine below_set ?_ (IsS155.ge HI0.out) | refine below_set ?_ GE456.out | refine below_set ?_ GE462.out) | exact HB.out)) hb); clear HI0; clear BK456; clear BK462; clear HK; clear HB; have HO474 := n0_; have HI0 := n1_; have BK456 := n2_; have BK462 := n3_; have HK := n4_; have HB := n5_; clear n0_ n1_ n2_ n3_ n4_ n5_; clear hb ho30; obtain ⟨Ao31, co31, eo31⟩ := Kd.R_slice HO474.out; subst eo31) | ((with_reducible refine gate_callee (f := 150) rfl ?_); refine goesL_ (some 18) rfl rfl Try.func150 (by kernel_rfl) rfl #[.pointer (some ⟨g, 0, none⟩), .slice Ao31 y472.length co31] rfl (by (try simp only [List.map_toArray, List.map_cons, List.map_nil]); first | done | rfl | (simp only [List.length_drop, List.length_take]; rfl)) ?_; (with_reducible refine (spec_l1PickInt.calls g s0_0 t464 t465 _ _ y472 t475 t476 t477 w0 _ ?side1 ?side2 ?side3 ?side4 ?side5 A21.out).mono ?_); (case side1 => repeat (first | (with_reducible first | exact HI0.out | apply IsS155.alloc | apply IsS155.drewN | apply IsS155.drew | apply IsS155.set_1 | apply IsS155.set_2 | refine IsS155.far ?_ NB0_456.out _ | refine IsS155.far ?_ NB0_462.out _) | exact HI0.out)); (case side2 => repeat (first | (with_reducible first | exact HB.out | apply below_alloc | apply pw_below_drewN | apply below_drew1 | refine below_set ?_ (IsS155.ge HI0.out) | refine below_set ?_ GE456.out | refine below_set ?_ GE462.out) | exact HB.out)); (case side3 => repeat (first | exact (Kd.R_reads' HO474.out).2.2 | (with_reducible refine Kd.C_alloc ?_ _) | (with_reducible refine Kd.C_drewN ?_ _) | (with_reducible refine Kd.C_drew ?_))); (case side4 => exact (Kd.R_reads' HO474.out).2.1); (case side5 => exact far_slice (IsS155.own_ne HI0.out HO474.out (by decide))); rintro e w32 ⟨rfl, hi, hb, hk⟩; refine ⟨_, rfl, ?_⟩; have n0_ := Aside0.mk (KeepBut.blk hk (g' := gb456) (o := .cells #[.int .i64 0, .int .i64 0, .int .i64 0] 114 (0, 0)) (by (with_reducible repeat (first | refine blk_drewN ?_ _ | refine blk_drew ?_ | refine blk_alloc ?_ _)); exact BK456.out) NB456_0.out (by simp)); have n1_ := Aside0.mk (KeepBut.blk hk (g' := gb462) (o := .cells #[.int .i64 t457, .int .i64 t458, .int .i64 t459] 114 (0, 0)) (by (with_reducible repeat (first | refine blk_drewN ?_ _ | refine blk_drew ?_ | refine blk_alloc ?_ _)); exact BK462.out) NB462_0.out (by simp)); have n2_ := Aside0.mk (Kd.R_mono (Kd.R_keep (IsS155.apart (show IsS155 w0 _ g s0_0 t464 t465 from by repeat (first | (with_reducible first | exact HI0.out | apply IsS155.alloc | apply IsS155.drewN | apply IsS155.drew | apply IsS155.set_1 | apply IsS155.set_2 | refine IsS155.far ?_ NB0_456.out _ | refine IsS155.far ?_ NB0_462.out _) | exact HI0.out)) (by (with_reducible repeat (first | apply Kd.R_alloc | apply Kd.R_drewN | apply Kd.R_drew)); exact HO474.out) (by decide)) hk (fun _ h => h.2)) (fun _ h => h.1)); have n3_ := Aside0.mk (KeepBut.trans (by repeat (first | (with_reducible first | exact HK.out | apply KeepBut.set_ | apply keep_drewN | apply keep_drew | apply keep_alloc | refine keep_far ?_ GW456.out _ | refine keep_far ?_ GW462.out _) | exact HK.out)) hk (.inl rfl)); have n4_ := Aside0.mk (hb); have n5_ := Aside0.mk (hi); clear BK456; clear BK462; clear HO474; clear HK; clear HB; clear HI0; have BK456 := n0_; have BK462 := n1_; have HO474 := n2_; have HK := n3_; have HB := n4_; have HI0 := n5_; clear n0_ n1_ n2_ n3_ n4_ n5_; (try clear hb); (try clear hk); (try clear hi); have hcz33_0 : w32.cell? ⟨gb462, 0, none⟩ = some (.int .i64 t457) := (blk_cell BK462.out 0).trans rfl; have hcz33_1 : w32.cell? ⟨gb462, 1, none⟩ = some (.int .i64 t458) := (blk_cell BK462.out 1).trans rfl; have hcz33_2 : w32.cell? ⟨gb462, 2, none⟩ = some (.int .i64 t459) := (blk_cell BK462.out 2).trans rfl; have hfz33_0 := blk_frozen BK462.out 0; have hfz33_1 := blk_frozen BK462.out 1; have hfz33_2 := blk_frozen BK462.out 2; have hnb34 := NB456_0.out; have hnc34 := NB0_456.out; have hcz35_0 : w32.cell? ⟨gb456, 0, none⟩ = some (.int .i64 0) := (blk_cell BK456.out 0).trans rfl; have hcz35_1 : w32.cell? ⟨gb456, 1, none⟩ = some (.int .i64 0) := (blk_cell BK456.out 1).trans rfl; have hcz35_2 : w32.cell? ⟨gb456, 2, none⟩ = some (.int .i64 0) := (blk_cell BK456.out 2).trans rfl; have hfz35_0 := blk_frozen BK456.out 0; have hfz35_1 := blk_frozen BK456.out 1; have hfz35_2 := blk_frozen BK456.out 2))
      refine bodyPost_ret (results_cell_row rfl _ _ gb456 114 #[.int .i64 t457, .int .i64 t475, .int .i64 t459] (0, 0) _ rfl (by (with_reducible repeat (first | refine blk_drewN ?_ _ | refine blk_drew ?_ | refine blk_alloc ?_ _)); refine blk_put (cs := #[.int .i64 t457, .int .i64 t475, .int .i64 0]) ?_ 2 _ rfl; (with_reducible repeat (first | refine blk_drewN ?_ _ | refine blk_drew ?_ | refine blk_alloc ?_ _)); refine blk_put (cs := #[.int .i64 t457, .int .i64 0, .int .i64 0]) ?_ 1 _ rfl; (with_reducible repeat (first | refine blk_drewN ?_ _ | refine blk_drew ?_ | refine blk_alloc ?_ _)); refine blk_put (cs := #[.int .i64 0, .int .i64 0, .int .i64 0]) ?_ 0 _ rfl; (with_reducible repeat (first | refine blk_drewN ?_ _ | refine blk_drew ?_ | refine blk_alloc ?_ _)); refine blk_far ?_ NB456_462.out _; (with_reducible repeat (first | refine blk_drewN ?_ _ | refine blk_drew ?_ | refine blk_alloc ?_ _)); exact BK456.out) Try.underlying114 rfl (by kernel_rfl)) rfl ?_
      exact ⟨by first | rfl | (simp [errW_none, errW_some] <;> rfl) | (simp [*, errW_none, errW_some] <;> rfl), by repeat (first | (with_reducible first | exact HI0.out | apply IsS155.alloc | apply IsS155.drewN | apply IsS155.drew | apply IsS155.set_1 | apply IsS155.set_2 | refine IsS155.far ?_ NB0_456.out _ | refine IsS155.far ?_ NB0_462.out _) | exact HI0.out), by repeat (first | (with_reducible first | exact HB.out | apply below_alloc | apply pw_below_drewN | apply below_drew1 | refine below_set ?_ (IsS155.ge HI0.out) | refine below_set ?_ GE456.out | refine below_set ?_ GE462.out) | exact HB.out), by repeat (first | (with_reducible first | exact HK.out | apply KeepBut.set_ | apply keep_drewN | apply keep_drew | apply keep_alloc | refine keep_far ?_ GW456.out _ | refine keep_far ?_ GW462.out _) | exact HK.out)⟩
    · rw [if_neg c20] at H
      have c20b0 : (t463 == 1) = false := beq_eq_false_iff_ne.mpr c20
      have c20b1 : (t463 != 1) = true := bne_iff_ne.mpr c20
      by_cases c36 : t463 = 2
      · rw [if_pos c36] at H
        have c36b0 : (t463 == 2) = true := beq_iff_eq.mpr c36
        have c36b1 : (t463 != 2) = false := bne_eq_false_iff_eq.mpr c36
        clear c36
        obtain ⟨y478, hy478⟩ : ∃ y_ : List Int, y_ = (([(-1), 4] : List Int)) := ⟨_, rfl⟩
        replace H : ((spec_l1PickInt.f s0_0 t464 t465 y478).bind fun bt481 => (some (t457, t458, bt481.1, bt481.2.1, bt481.2.2))) = some (r1, r2, r3, r4, r5) := by first | (rw [hy478]; with_reducible exact H) | (have H2_ := (Option.bind_some _ _).symm.trans H; rw [hy478]; with_reducible exact H2_) | (have H2_ := (Option.bind_some _ _).symm.trans H; with_reducible exact H2_) | with_reducible exact H | (rw [hy478]; exact H) | exact H
        have Ny478 := Aside0.mk hy478
        clear hy478
        replace H := Option.bind_eq_some_iff.mp H
        obtain ⟨⟨t481, t482, t483⟩, A370, H⟩ := H
        replace H : (some (t457, t458, t481, t482, t483)) = some (r1, r2, r3, r4, r5) := H
        have A37 := Aside0.mk A370
        clear A370
        simp only [Option.some.injEq, Prod.mk.injEq] at H
        obtain ⟨rfl, rfl, rfl, rfl, rfl⟩ := H
        go_enter Try.func147, Try.ntmps147
        go_wp2_with (first | ((with_reducible refine gate_dst (N := 2) rfl ?_); refine box_event ?hg (N := 2) ?hd (cs := #[.int .i64 0, .int .i64 0, .int .i64 0]) (t := 114) ?hr ?_; (case hd => rfl); (case hg => rfl); (case hr => first | (go_simp; done) | (go_simp; rfl)); intro gb456 hg w38 hbox hb; have n0_ := Aside0.mk (IsS155.below (by repeat (first | (with_reducible first | exact HI0.out | apply IsS155.alloc | apply IsS155.drewN | apply IsS155.drew | apply IsS155.set_1 | apply IsS155.set_2) | exact HI0.out)) hb); have n1_ := Aside0.mk (KeepBut.trans (by repeat (first | (with_reducible first | exact HK.out | apply KeepBut.set_ | apply keep_drewN | apply keep_drew | apply keep_alloc) | exact HK.out)) (KeepBut.of_below hb g none) (.inl rfl)); have n2_ := Aside0.mk (below_step (by repeat (first | (with_reducible first | exact HB.out | apply below_alloc | apply pw_below_drewN | apply below_drew1 | refine below_set ?_ (IsS155.ge HI0.out)) | exact HB.out)) hb); have n3_ := Aside0.mk (hbox); have n4_ := Aside0.mk ((by rw [hg]; exact (keep_size (w := w) (g := g) (row := none) (by repeat (first | (with_reducible first | exact HK.out | apply KeepBut.set_ | apply keep_drewN | apply keep_drew | apply keep_alloc) | exact HK.out))) : w.heap.size ≤ gb456)); have n5_ := Aside0.mk ((Nat.le_trans HW0.out (by rw [hg]; exact (keep_size (w := w) (g := g) (row := none) (by repeat (first | (with_reducible first | exact HK.out | apply KeepBut.set_ | apply keep_drewN | apply keep_drew | apply keep_alloc) | exact HK.out))) : w.heap.size ≤ gb456) : w0.heap.size ≤ gb456)); have n6_ := Aside0.mk ((by rw [hg]; exact Nat.ne_of_lt (IsS155.lt (show IsS155 w0 _ g s0_0 s0_1 s0_2 from by repeat (first | (with_reducible first | exact HI0.out | apply IsS155.alloc | apply IsS155.drewN | apply IsS155.drew | apply IsS155.set_1 | apply IsS155.set_2) | exact HI0.out))) : g ≠ gb456)); have n7_ := Aside0.mk ((by rw [hg]; exact Nat.ne_of_gt (IsS155.lt (show IsS155 w0 _ g s0_0 s0_1 s0_2 from by repeat (first | (with_reducible first | exact HI0.out | apply IsS155.alloc | apply IsS155.drewN | apply IsS155.drew | apply IsS155.set_1 | apply IsS155.set_2) | exact HI0.out))) : gb456 ≠ g)); clear HI0; clear HK; clear HB; have HI0 := n0_; have HK := n1_; have HB := n2_; have BK456 := n3_; have GW456 := n4_; have GE456 := n5_; have NB0_456 := n6_; have NB456_0 := n7_; clear n0_ n1_ n2_ n3_ n4_ n5_ n6_ n7_; clear hb hbox hg) | ((with_reducible refine gate_callee (f := 164) rfl ?_); refine goesL_ (some 5) rfl rfl Try.func164 (by kernel_rfl) rfl #[.pointer (some ⟨g, 0, none⟩), .int .i64 10] rfl (by (try simp only [List.map_toArray, List.map_cons, List.map_nil]); first | done | rfl | (simp only [List.length_drop, List.length_take]; rfl)) ?_; (with_reducible refine (spec_l2Row.calls g s0_0 s0_1 s0_2 10 t457 t458 t459 t460 t461 w0 _ ?side1 ?side2 A2.out).mono ?_); (case side1 => repeat (first | (with_reducible first | exact HI0.out | apply IsS155.alloc | apply IsS155.drewN | apply IsS155.drew | apply IsS155.set_1 | apply IsS155.set_2 | refine IsS155.far ?_ NB0_456.out _) | exact HI0.out)); (case side2 => repeat (first | (with_reducible first | exact HB.out | apply below_alloc | apply pw_below_drewN | apply below_drew1 | refine below_set ?_ (IsS155.ge HI0.out) | refine below_set ?_ GE456.out) | exact HB.out)); rintro e w39 ⟨rfl, hi, hb, hk⟩; refine ⟨_, rfl, ?_⟩; have n0_ := Aside0.mk (KeepBut.blk hk (g' := gb456) (o := .cells #[.int .i64 0, .int .i64 0, .int .i64 0] 114 (0, 0)) (by (with_reducible repeat (first | refine blk_drewN ?_ _ | refine blk_drew ?_ | refine blk_alloc ?_ _)); exact BK456.out) NB456_0.out (by simp)); have n1_ := Aside0.mk (KeepBut.trans (by repeat (first | (with_reducible first | exact HK.out | apply KeepBut.set_ | apply keep_drewN | apply keep_drew | apply keep_alloc | refine keep_far ?_ GW456.out _) | exact HK.out)) hk (.inl rfl)); have n2_ := Aside0.mk (hb); have n3_ := Aside0.mk (hi); clear BK456; clear HK; clear HB; clear HI0; have BK456 := n0_; have HK := n1_; have HB := n2_; have HI0 := n3_; clear n0_ n1_ n2_ n3_; (try clear hb); (try clear hk); (try clear hi)) | ((with_reducible refine gate_dst (N := 3) rfl ?_); refine box_event ?hg (N := 3) ?hd (cs := #[.int .i64 0, .int .i64 0, .int .i64 0]) (t := 114) ?hr ?_; (case hd => rfl); (case hg => rfl); (case hr => first | (go_simp; done) | (go_simp; rfl)); intro gb462 hg w40 hbox hb; have n0_ := Aside0.mk (IsS155.below (by repeat (first | (with_reducible first | exact HI0.out | apply IsS155.alloc | apply IsS155.drewN | apply IsS155.drew | apply IsS155.set_1 | apply IsS155.set_2 | refine IsS155.far ?_ NB0_456.out _) | exact HI0.out)) hb); have n1_ := Aside0.mk (blk_below (g := gb456) (o := .cells #[.int .i64 0, .int .i64 0, .int .i64 0] 114 (0, 0)) (by (with_reducible repeat (first | refine blk_drewN ?_ _ | refine blk_drew ?_ | refine blk_alloc ?_ _)); exact BK456.out) hb); have n2_ := Aside0.mk (KeepBut.trans (by repeat (first | (with_reducible first | exact HK.out | apply KeepBut.set_ | apply keep_drewN | apply keep_drew | apply keep_alloc | refine keep_far ?_ GW456.out _) | exact HK.out)) (KeepBut.of_below hb g none) (.inl rfl)); have n3_ := Aside0.mk (below_step (by repeat (first | (with_reducible first | exact HB.out | apply below_alloc | apply pw_below_drewN | apply below_drew1 | refine below_set ?_ (IsS155.ge HI0.out) | refine below_set ?_ GE456.out) | exact HB.out)) hb); have n4_ := Aside0.mk (hbox); have n5_ := Aside0.mk ((by rw [hg]; exact (keep_size (w := w) (g := g) (row := none) (by repeat (first | (with_reducible first | exact HK.out | apply KeepBut.set_ | apply keep_drewN | apply keep_drew | apply keep_alloc | refine keep_far ?_ GW456.out _) | exact HK.out))) : w.heap.size ≤ gb462)); have n6_ := Aside0.mk ((Nat.le_trans HW0.out (by rw [hg]; exact (keep_size (w := w) (g := g) (row := none) (by repeat (first | (with_reducible first | exact HK.out | apply KeepBut.set_ | apply keep_drewN | apply keep_drew | apply keep_alloc | refine keep_far ?_ GW456.out _) | exact HK.out))) : w.heap.size ≤ gb462) : w0.heap.size ≤ gb462)); have n7_ := Aside0.mk ((by rw [hg]; exact Nat.ne_of_lt (blk_lt (g := gb456) (o := .cells #[.int .i64 0, .int .i64 0, .int .i64 0] 114 (0, 0)) (by (with_reducible repeat (first | refine blk_drewN ?_ _ | refine blk_drew ?_ | refine blk_alloc ?_ _)); exact BK456.out)) : gb456 ≠ gb462)); have n8_ := Aside0.mk ((by rw [hg]; exact Nat.ne_of_gt (blk_lt (g := gb456) (o := .cells #[.int .i64 0, .int .i64 0, .int .i64 0] 114 (0, 0)) (by (with_reducible repeat (first | refine blk_drewN ?_ _ | refine blk_drew ?_ | refine blk_alloc ?_ _)); exact BK456.out)) : gb462 ≠ gb456)); have n9_ := Aside0.mk ((by rw [hg]; exact Nat.ne_of_lt (IsS155.lt (show IsS155 w0 _ g s0_0 t460 t461 from by repeat (first | (with_reducible first | exact HI0.out | apply IsS155.alloc | apply IsS155.drewN | apply IsS155.drew | apply IsS155.set_1 | apply IsS155.set_2 | refine IsS155.far ?_ NB0_456.out _) | exact HI0.out))) : g ≠ gb462)); have n10_ := Aside0.mk ((by rw [hg]; exact Nat.ne_of_gt (IsS155.lt (show IsS155 w0 _ g s0_0 t460 t461 from by repeat (first | (with_reducible first | exact HI0.out | apply IsS155.alloc | apply IsS155.drewN | apply IsS155.drew | apply IsS155.set_1 | apply IsS155.set_2 | refine IsS155.far ?_ NB0_456.out _) | exact HI0.out))) : gb462 ≠ g)); clear HI0; clear BK456; clear HK; clear HB; have HI0 := n0_; have BK456 := n1_; have HK := n2_; have HB := n3_; have BK462 := n4_; have GW462 := n5_; have GE462 := n6_; have NB456_462 := n7_; have NB462_456 := n8_; have NB0_462 := n9_; have NB462_0 := n10_; clear n0_ n1_ n2_ n3_ n4_ n5_ n6_ n7_ n8_ n9_ n10_; clear hb hbox hg; have hnb41 := NB462_456.out; have hnc41 := NB456_462.out; have hnb42 := NB462_0.out; have hnc42 := NB0_462.out; have hcz43_0 : w40.cell? ⟨gb462, 0, none⟩ = some (.int .i64 0) := (blk_cell BK462.out 0).trans rfl; have hcz43_1 : w40.cell? ⟨gb462, 1, none⟩ = some (.int .i64 0) := (blk_cell BK462.out 1).trans rfl; have hcz43_2 : w40.cell? ⟨gb462, 2, none⟩ = some (.int .i64 0) := (blk_cell BK462.out 2).trans rfl; have hfz43_0 := blk_frozen BK462.out 0; have hfz43_1 := blk_frozen BK462.out 1; have hfz43_2 := blk_frozen BK462.out 2) | ((with_reducible refine gate_callee (f := 102) rfl ?_); refine goesL_ (some 7) rfl rfl Try.func102 (by kernel_rfl) rfl #[.pointer (some ⟨g, 0, none⟩), .int .i64 8] rfl (by (try simp only [List.map_toArray, List.map_cons, List.map_nil]); first | done | rfl | (simp only [List.length_drop, List.length_take]; rfl)) ?_; (with_reducible refine (spec_l1Below.calls g s0_0 t460 t461 8 t463 t464 t465 w0 _ ?side1 ?side2 A3.out).mono ?_); (case side1 => repeat (first | (with_reducible first | exact HI0.out | apply IsS155.alloc | apply IsS155.drewN | apply IsS155.drew | apply IsS155.set_1 | apply IsS155.set_2 | refine IsS155.far ?_ NB0_456.out _ | refine IsS155.far ?_ NB0_462.out _) | exact HI0.out)); (case side2 => repeat (first | (with_reducible first | exact HB.out | apply below_alloc | apply pw_below_drewN | apply below_drew1 | refine below_set ?_ (IsS155.ge HI0.out) | refine below_set ?_ GE456.out | refine below_set ?_ GE462.out) | exact HB.out)); rintro e w44 ⟨rfl, hi, hb, hk⟩; refine ⟨_, rfl, ?_⟩; have n0_ := Aside0.mk (KeepBut.blk hk (g' := gb456) (o := .cells #[.int .i64 0, .int .i64 0, .int .i64 0] 114 (0, 0)) (by (with_reducible repeat (first | refine blk_drewN ?_ _ | refine blk_drew ?_ | refine blk_alloc ?_ _)); refine blk_far ?_ NB456_462.out _; (with_reducible repeat (first | refine blk_drewN ?_ _ | refine blk_drew ?_ | refine blk_alloc ?_ _)); refine blk_far ?_ NB456_462.out _; (with_reducible repeat (first | refine blk_drewN ?_ _ | refine blk_drew ?_ | refine blk_alloc ?_ _)); refine blk_far ?_ NB456_462.out _; (with_reducible repeat (first | refine blk_drewN ?_ _ | refine blk_drew ?_ | refine blk_alloc ?_ _)); exact BK456.out) NB456_0.out (by simp)); have n1_ := Aside0.mk (KeepBut.blk hk (g' := gb462) (o := .cells #[.int .i64 t457, .int .i64 t458, .int .i64 t459] 114 (0, 0)) (by (with_reducible repeat (first | refine blk_drewN ?_ _ | refine blk_drew ?_ | refine blk_alloc ?_ _)); refine blk_put (cs := #[.int .i64 t457, .int .i64 t458, .int .i64 0]) ?_ 2 _ rfl; (with_reducible repeat (first | refine blk_drewN ?_ _ | refine blk_drew ?_ | refine blk_alloc ?_ _)); refine blk_put (cs := #[.int .i64 t457, .int .i64 0, .int .i64 0]) ?_ 1 _ rfl; (with_reducible repeat (first | refine blk_drewN ?_ _ | refine blk_drew ?_ | refine blk_alloc ?_ _)); refine blk_put (cs := #[.int .i64 0, .int .i64 0, .int .i64 0]) ?_ 0 _ rfl; (with_reducible repeat (first | refine blk_drewN ?_ _ | refine blk_drew ?_ | refine blk_alloc ?_ _)); exact BK462.out) NB462_0.out (by simp)); have n2_ := Aside0.mk (KeepBut.trans (by repeat (first | (with_reducible first | exact HK.out | apply KeepBut.set_ | apply keep_drewN | apply keep_drew | apply keep_alloc | refine keep_far ?_ GW456.out _ | refine keep_far ?_ GW462.out _) | exact HK.out)) hk (.inl rfl)); have n3_ := Aside0.mk (hb); have n4_ := Aside0.mk (hi); clear BK456; clear BK462; clear HK; clear HB; clear HI0; have BK456 := n0_; have BK462 := n1_; have HK := n2_; have HB := n3_; have HI0 := n4_; clear n0_ n1_ n2_ n3_ n4_; (try clear hb); (try clear hk); (try clear hi)) | ((with_reducible refine gate_dst (N := 23) rfl ?_); refine Kd.R_lit (Kd.int .i64) _ 3 ?hg (N := 23) ?hd (xs := ([(-1), 4] : List Int)) (inner := [.int .i64 (-1), .int .i64 4]) (ok := fun _ => True) (okp := fun _ => True) ?hr ?hp (fun _ hk => hk) trivial (Below.refl _ _) (Nat.le_refl _) (by simp) ?_; (case hd => rfl); (case hg => rfl); (case hr => first | (go_simp; done) | (go_simp; rfl)); (case hp => exact (Reps.one (show Kd.M (Kd.int .i64) _ _ _ (-1) [.int .i64 (-1)] from rfl) (Reps.one (show Kd.M (Kd.int .i64) _ _ _ 4 [.int .i64 4] from rfl) (Reps.none _ _)))); intro v479 w45 ho46 hb hg_ hnew_; clear hg_ hnew_; (first | rw [← Ny478.out] at ho46 | (simp only [Int.reduceToNat] at ho46; rw [← Ny478.out] at ho46)); have n0_ := Aside0.mk (Kd.R_lower ho46 (keep_size (w := w) (g := g) (row := none) (by repeat (first | (with_reducible first | exact HK.out | apply KeepBut.set_ | apply keep_drewN | apply keep_drew | apply keep_alloc | refine keep_far ?_ GW456.out _ | refine keep_far ?_ GW462.out _) | exact HK.out)))); have n1_ := Aside0.mk (IsS155.below (by repeat (first | (with_reducible first | exact HI0.out | apply IsS155.alloc | apply IsS155.drewN | apply IsS155.drew | apply IsS155.set_1 | apply IsS155.set_2 | refine IsS155.far ?_ NB0_456.out _ | refine IsS155.far ?_ NB0_462.out _) | exact HI0.out)) hb); have n2_ := Aside0.mk (blk_below (g := gb456) (o := .cells #[.int .i64 0, .int .i64 0, .int .i64 0] 114 (0, 0)) (by (with_reducible repeat (first | refine blk_drewN ?_ _ | refine blk_drew ?_ | refine blk_alloc ?_ _)); exact BK456.out) hb); have n3_ := Aside0.mk (blk_below (g := gb462) (o := .cells #[.int .i64 t457, .int .i64 t458, .int .i64 t459] 114 (0, 0)) (by (with_reducible repeat (first | refine blk_drewN ?_ _ | refine blk_drew ?_ | refine blk_alloc ?_ _)); exact BK462.out) hb); have n4_ := Aside0.mk (KeepBut.trans (by repeat (first | (with_reducible first | exact HK.out | apply KeepBut.set_ | apply keep_drewN | apply keep_drew | apply keep_alloc | refine keep_far ?_ GW456.out _ | refine keep_far ?_ GW462.out _) | exact HK.out)) (KeepBut.of_below hb g none) (.inl rfl)); have n5_ := Aside0.mk (below_step (by repeat (first | (with_reducible first | exact HB.out | apply below_alloc | apply pw_below_drewN | apply below_drew1 | refine below_set ?_ (IsS155.ge HI0.out) | refine below_set ?_ GE456.out | refine below_set ?_ GE462.out) | exact HB.out)) hb); clear HI0; clear BK456; clear BK462; clear HK; clear HB; have HO480 := n0_; have HI0 := n1_; have BK456 := n2_; have BK462 := n3_; have HK := n4_; have HB := n5_; clear n0_ n1_ n2_ n3_ n4_ n5_; clear hb ho46; obtain ⟨Ao47, co47, eo47⟩ := Kd.R_slice HO480.out; subst eo47) | ((with_reducible refine gate_callee (f := 150) rfl ?_); refine goesL_ (some 24) rfl rfl Try.func150 (by kernel_rfl) rfl #[.pointer (some ⟨g, 0, none⟩), .slice Ao47 y478.length co47] rfl (by (try simp only [List.map_toArray, List.map_cons, List.map_nil]); first | done | rfl | (simp only [List.length_drop, List.length_take]; rfl)) ?_; (with_reducible refine (spec_l1PickInt.calls g s0_0 t464 t465 _ _ y478 t481 t482 t483 w0 _ ?side1 ?side2 ?side3 ?side4 ?side5 A37.out).mono ?_); (case side1 => repeat (first | (with_reducible first | exact HI0.out | apply IsS155.alloc | apply IsS155.drewN | apply IsS155.drew | apply IsS155.set_1 | apply IsS155.set_2 | refine IsS155.far ?_ NB0_456.out _ | refine IsS155.far ?_ NB0_462.out _) | exact HI0.out)); (case side2 => repeat (first | (with_reducible first | exact HB.out | apply below_alloc | apply pw_below_drewN | apply below_drew1 | refine below_set ?_ (IsS155.ge HI0.out) | refine below_set ?_ GE456.out | refine below_set ?_ GE462.out) | exact HB.out)); (case side3 => repeat (first | exact (Kd.R_reads' HO480.out).2.2 | (with_reducible refine Kd.C_alloc ?_ _) | (with_reducible refine Kd.C_drewN ?_ _) | (with_reducible refine Kd.C_drew ?_))); (case side4 => exact (Kd.R_reads' HO480.out).2.1); (case side5 => exact far_slice (IsS155.own_ne HI0.out HO480.out (by decide))); rintro e w48 ⟨rfl, hi, hb, hk⟩; refine ⟨_, rfl, ?_⟩; have n0_ := Aside0.mk (KeepBut.blk hk (g' := gb456) (o := .cells #[.int .i64 0, .int .i64 0, .int .i64 0] 114 (0, 0)) (by (with_reducible repeat (first | refine blk_drewN ?_ _ | refine blk_drew ?_ | refine blk_alloc ?_ _)); exact BK456.out) NB456_0.out (by simp)); have n1_ := Aside0.mk (KeepBut.blk hk (g' := gb462) (o := .cells #[.int .i64 t457, .int .i64 t458, .int .i64 t459] 114 (0, 0)) (by (with_reducible repeat (first | refine blk_drewN ?_ _ | refine blk_drew ?_ | refine blk_alloc ?_ _)); exact BK462.out) NB462_0.out (by simp)); have n2_ := Aside0.mk (Kd.R_mono (Kd.R_keep (IsS155.apart (show IsS155 w0 _ g s0_0 t464 t465 from by repeat (first | (with_reducible first | exact HI0.out | apply IsS155.alloc | apply IsS155.drewN | apply IsS155.drew | apply IsS155.set_1 | apply IsS155.set_2 | refine IsS155.far ?_ NB0_456.out _ | refine IsS155.far ?_ NB0_462.out _) | exact HI0.out)) (by (with_reducible repeat (first | apply Kd.R_alloc | apply Kd.R_drewN | apply Kd.R_drew)); exact HO480.out) (by decide)) hk (fun _ h => h.2)) (fun _ h => h.1)); have n3_ := Aside0.mk (KeepBut.trans (by repeat (first | (with_reducible first | exact HK.out | apply KeepBut.set_ | apply keep_drewN | apply keep_drew | apply keep_alloc | refine keep_far ?_ GW456.out _ | refine keep_far ?_ GW462.out _) | exact HK.out)) hk (.inl rfl)); have n4_ := Aside0.mk (hb); have n5_ := Aside0.mk (hi); clear BK456; clear BK462; clear HO480; clear HK; clear HB; clear HI0; have BK456 := n0_; have BK462 := n1_; have HO480 := n2_; have HK := n3_; have HB := n4_; have HI0 := n5_; clear n0_ n1_ n2_ n3_ n4_ n5_; (try clear hb); (try clear hk); (try clear hi); have hcz49_0 : w48.cell? ⟨gb462, 0, none⟩ = some (.int .i64 t457) := (blk_cell BK462.out 0).trans rfl; have hcz49_1 : w48.cell? ⟨gb462, 1, none⟩ = some (.int .i64 t458) := (blk_cell BK462.out 1).trans rfl; have hcz49_2 : w48.cell? ⟨gb462, 2, none⟩ = some (.int .i64 t459) := (blk_cell BK462.out 2).trans rfl; have hfz49_0 := blk_frozen BK462.out 0; have hfz49_1 := blk_frozen BK462.out 1; have hfz49_2 := blk_frozen BK462.out 2; have hnb50 := NB456_0.out; have hnc50 := NB0_456.out; have hcz51_0 : w48.cell? ⟨gb456, 0, none⟩ = some (.int .i64 0) := (blk_cell BK456.out 0).trans rfl; have hcz51_1 : w48.cell? ⟨gb456, 1, none⟩ = some (.int .i64 0) := (blk_cell BK456.out 1).trans rfl; have hcz51_2 : w48.cell? ⟨gb456, 2, none⟩ = some (.int .i64 0) := (blk_cell BK456.out 2).trans rfl; have hfz51_0 := blk_frozen BK456.out 0; have hfz51_1 := blk_frozen BK456.out 1; have hfz51_2 := blk_frozen BK456.out 2))
        refine bodyPost_ret (results_cell_row rfl _ _ gb456 114 #[.int .i64 t457, .int .i64 t458, .int .i64 t481] (0, 0) _ rfl (by (with_reducible repeat (first | refine blk_drewN ?_ _ | refine blk_drew ?_ | refine blk_alloc ?_ _)); refine blk_put (cs := #[.int .i64 t457, .int .i64 t458, .int .i64 0]) ?_ 2 _ rfl; (with_reducible repeat (first | refine blk_drewN ?_ _ | refine blk_drew ?_ | refine blk_alloc ?_ _)); refine blk_put (cs := #[.int .i64 t457, .int .i64 0, .int .i64 0]) ?_ 1 _ rfl; (with_reducible repeat (first | refine blk_drewN ?_ _ | refine blk_drew ?_ | refine blk_alloc ?_ _)); refine blk_put (cs := #[.int .i64 0, .int .i64 0, .int .i64 0]) ?_ 0 _ rfl; (with_reducible repeat (first | refine blk_drewN ?_ _ | refine blk_drew ?_ | refine blk_alloc ?_ _)); refine blk_far ?_ NB456_462.out _; (with_reducible repeat (first | refine blk_drewN ?_ _ | refine blk_drew ?_ | refine blk_alloc ?_ _)); exact BK456.out) Try.underlying114 rfl (by kernel_rfl)) rfl ?_
        exact ⟨by first | rfl | (simp [errW_none, errW_some] <;> rfl) | (simp [*, errW_none, errW_some] <;> rfl), by repeat (first | (with_reducible first | exact HI0.out | apply IsS155.alloc | apply IsS155.drewN | apply IsS155.drew | apply IsS155.set_1 | apply IsS155.set_2 | refine IsS155.far ?_ NB0_456.out _ | refine IsS155.far ?_ NB0_462.out _) | exact HI0.out), by repeat (first | (with_reducible first | exact HB.out | apply below_alloc | apply pw_below_drewN | apply below_drew1 | refine below_set ?_ (IsS155.ge HI0.out) | refine below_set ?_ GE456.out | refine below_set ?_ GE462.out) | exact HB.out), by repeat (first | (with_reducible first | exact HK.out | apply KeepBut.set_ | apply keep_drewN | apply keep_drew | apply keep_alloc | refine keep_far ?_ GW456.out _ | refine keep_far ?_ GW462.out _) | exact HK.out)⟩
      · rw [if_neg c36] at H
        have c36b0 : (t463 == 2) = false := beq_eq_false_iff_ne.mpr c36
        have c36b1 : (t463 != 2) = true := bne_iff_ne.mpr c36
        simp only [Option.some.injEq, Prod.mk.injEq] at H
        obtain ⟨rfl, rfl, rfl, rfl, rfl⟩ := H
        go_enter Try.func147, Try.ntmps147
        go_wp2_with (first | ((with_reducible refine gate_dst (N := 2) rfl ?_); refine box_event ?hg (N := 2) ?hd (cs := #[.int .i64 0, .int .i64 0, .int .i64 0]) (t := 114) ?hr ?_; (case hd => rfl); (case hg => rfl); (case hr => first | (go_simp; done) | (go_simp; rfl)); intro gb456 hg w52 hbox hb; have n0_ := Aside0.mk (IsS155.below (by repeat (first | (with_reducible first | exact HI0.out | apply IsS155.alloc | apply IsS155.drewN | apply IsS155.drew | apply IsS155.set_1 | apply IsS155.set_2) | exact HI0.out)) hb); have n1_ := Aside0.mk (KeepBut.trans (by repeat (first | (with_reducible first | exact HK.out | apply KeepBut.set_ | apply keep_drewN | apply keep_drew | apply keep_alloc) | exact HK.out)) (KeepBut.of_below hb g none) (.inl rfl)); have n2_ := Aside0.mk (below_step (by repeat (first | (with_reducible first | exact HB.out | apply below_alloc | apply pw_below_drewN | apply below_drew1 | refine below_set ?_ (IsS155.ge HI0.out)) | exact HB.out)) hb); have n3_ := Aside0.mk (hbox); have n4_ := Aside0.mk ((by rw [hg]; exact (keep_size (w := w) (g := g) (row := none) (by repeat (first | (with_reducible first | exact HK.out | apply KeepBut.set_ | apply keep_drewN | apply keep_drew | apply keep_alloc) | exact HK.out))) : w.heap.size ≤ gb456)); have n5_ := Aside0.mk ((Nat.le_trans HW0.out (by rw [hg]; exact (keep_size (w := w) (g := g) (row := none) (by repeat (first | (with_reducible first | exact HK.out | apply KeepBut.set_ | apply keep_drewN | apply keep_drew | apply keep_alloc) | exact HK.out))) : w.heap.size ≤ gb456) : w0.heap.size ≤ gb456)); have n6_ := Aside0.mk ((by rw [hg]; exact Nat.ne_of_lt (IsS155.lt (show IsS155 w0 _ g s0_0 s0_1 s0_2 from by repeat (first | (with_reducible first | exact HI0.out | apply IsS155.alloc | apply IsS155.drewN | apply IsS155.drew | apply IsS155.set_1 | apply IsS155.set_2) | exact HI0.out))) : g ≠ gb456)); have n7_ := Aside0.mk ((by rw [hg]; exact Nat.ne_of_gt (IsS155.lt (show IsS155 w0 _ g s0_0 s0_1 s0_2 from by repeat (first | (with_reducible first | exact HI0.out | apply IsS155.alloc | apply IsS155.drewN | apply IsS155.drew | apply IsS155.set_1 | apply IsS155.set_2) | exact HI0.out))) : gb456 ≠ g)); clear HI0; clear HK; clear HB; have HI0 := n0_; have HK := n1_; have HB := n2_; have BK456 := n3_; have GW456 := n4_; have GE456 := n5_; have NB0_456 := n6_; have NB456_0 := n7_; clear n0_ n1_ n2_ n3_ n4_ n5_ n6_ n7_; clear hb hbox hg) | ((with_reducible refine gate_callee (f := 164) rfl ?_); refine goesL_ (some 5) rfl rfl Try.func164 (by kernel_rfl) rfl #[.pointer (some ⟨g, 0, none⟩), .int .i64 10] rfl (by (try simp only [List.map_toArray, List.map_cons, List.map_nil]); first | done | rfl | (simp only [List.length_drop, List.length_take]; rfl)) ?_; (with_reducible refine (spec_l2Row.calls g s0_0 s0_1 s0_2 10 t457 t458 t459 t460 t461 w0 _ ?side1 ?side2 A2.out).mono ?_); (case side1 => repeat (first | (with_reducible first | exact HI0.out | apply IsS155.alloc | apply IsS155.drewN | apply IsS155.drew | apply IsS155.set_1 | apply IsS155.set_2 | refine IsS155.far ?_ NB0_456.out _) | exact HI0.out)); (case side2 => repeat (first | (with_reducible first | exact HB.out | apply below_alloc | apply pw_below_drewN | apply below_drew1 | refine below_set ?_ (IsS155.ge HI0.out) | refine below_set ?_ GE456.out) | exact HB.out)); rintro e w53 ⟨rfl, hi, hb, hk⟩; refine ⟨_, rfl, ?_⟩; have n0_ := Aside0.mk (KeepBut.blk hk (g' := gb456) (o := .cells #[.int .i64 0, .int .i64 0, .int .i64 0] 114 (0, 0)) (by (with_reducible repeat (first | refine blk_drewN ?_ _ | refine blk_drew ?_ | refine blk_alloc ?_ _)); exact BK456.out) NB456_0.out (by simp)); have n1_ := Aside0.mk (KeepBut.trans (by repeat (first | (with_reducible first | exact HK.out | apply KeepBut.set_ | apply keep_drewN | apply keep_drew | apply keep_alloc | refine keep_far ?_ GW456.out _) | exact HK.out)) hk (.inl rfl)); have n2_ := Aside0.mk (hb); have n3_ := Aside0.mk (hi); clear BK456; clear HK; clear HB; clear HI0; have BK456 := n0_; have HK := n1_; have HB := n2_; have HI0 := n3_; clear n0_ n1_ n2_ n3_; (try clear hb); (try clear hk); (try clear hi)) | ((with_reducible refine gate_dst (N := 3) rfl ?_); refine box_event ?hg (N := 3) ?hd (cs := #[.int .i64 0, .int .i64 0, .int .i64 0]) (t := 114) ?hr ?_; (case hd => rfl); (case hg => rfl); (case hr => first | (go_simp; done) | (go_simp; rfl)); intro gb462 hg w54 hbox hb; have n0_ := Aside0.mk (IsS155.below (by repeat (first | (with_reducible first | exact HI0.out | apply IsS155.alloc | apply IsS155.drewN | apply IsS155.drew | apply IsS155.set_1 | apply IsS155.set_2 | refine IsS155.far ?_ NB0_456.out _) | exact HI0.out)) hb); have n1_ := Aside0.mk (blk_below (g := gb456) (o := .cells #[.int .i64 0, .int .i64 0, .int .i64 0] 114 (0, 0)) (by (with_reducible repeat (first | refine blk_drewN ?_ _ | refine blk_drew ?_ | refine blk_alloc ?_ _)); exact BK456.out) hb); have n2_ := Aside0.mk (KeepBut.trans (by repeat (first | (with_reducible first | exact HK.out | apply KeepBut.set_ | apply keep_drewN | apply keep_drew | apply keep_alloc | refine keep_far ?_ GW456.out _) | exact HK.out)) (KeepBut.of_below hb g none) (.inl rfl)); have n3_ := Aside0.mk (below_step (by repeat (first | (with_reducible first | exact HB.out | apply below_alloc | apply pw_below_drewN | apply below_drew1 | refine below_set ?_ (IsS155.ge HI0.out) | refine below_set ?_ GE456.out) | exact HB.out)) hb); have n4_ := Aside0.mk (hbox); have n5_ := Aside0.mk ((by rw [hg]; exact (keep_size (w := w) (g := g) (row := none) (by repeat (first | (with_reducible first | exact HK.out | apply KeepBut.set_ | apply keep_drewN | apply keep_drew | apply keep_alloc | refine keep_far ?_ GW456.out _) | exact HK.out))) : w.heap.size ≤ gb462)); have n6_ := Aside0.mk ((Nat.le_trans HW0.out (by rw [hg]; exact (keep_size (w := w) (g := g) (row := none) (by repeat (first | (with_reducible first | exact HK.out | apply KeepBut.set_ | apply keep_drewN | apply keep_drew | apply keep_alloc | refine keep_far ?_ GW456.out _) | exact HK.out))) : w.heap.size ≤ gb462) : w0.heap.size ≤ gb462)); have n7_ := Aside0.mk ((by rw [hg]; exact Nat.ne_of_lt (blk_lt (g := gb456) (o := .cells #[.int .i64 0, .int .i64 0, .int .i64 0] 114 (0, 0)) (by (with_reducible repeat (first | refine blk_drewN ?_ _ | refine blk_drew ?_ | refine blk_alloc ?_ _)); exact BK456.out)) : gb456 ≠ gb462)); have n8_ := Aside0.mk ((by rw [hg]; exact Nat.ne_of_gt (blk_lt (g := gb456) (o := .cells #[.int .i64 0, .int .i64 0, .int .i64 0] 114 (0, 0)) (by (with_reducible repeat (first | refine blk_drewN ?_ _ | refine blk_drew ?_ | refine blk_alloc ?_ _)); exact BK456.out)) : gb462 ≠ gb456)); have n9_ := Aside0.mk ((by rw [hg]; exact Nat.ne_of_lt (IsS155.lt (show IsS155 w0 _ g s0_0 t460 t461 from by repeat (first | (with_reducible first | exact HI0.out | apply IsS155.alloc | apply IsS155.drewN | apply IsS155.drew | apply IsS155.set_1 | apply IsS155.set_2 | refine IsS155.far ?_ NB0_456.out _) | exact HI0.out))) : g ≠ gb462)); have n10_ := Aside0.mk ((by rw [hg]; exact Nat.ne_of_gt (IsS155.lt (show IsS155 w0 _ g s0_0 t460 t461 from by repeat (first | (with_reducible first | exact HI0.out | apply IsS155.alloc | apply IsS155.drewN | apply IsS155.drew | apply IsS155.set_1 | apply IsS155.set_2 | refine IsS155.far ?_ NB0_456.out _) | exact HI0.out))) : gb462 ≠ g)); clear HI0; clear BK456; clear HK; clear HB; have HI0 := n0_; have BK456 := n1_; have HK := n2_; have HB := n3_; have BK462 := n4_; have GW462 := n5_; have GE462 := n6_; have NB456_462 := n7_; have NB462_456 := n8_; have NB0_462 := n9_; have NB462_0 := n10_; clear n0_ n1_ n2_ n3_ n4_ n5_ n6_ n7_ n8_ n9_ n10_; clear hb hbox hg; have hnb55 := NB462_456.out; have hnc55 := NB456_462.out; have hnb56 := NB462_0.out; have hnc56 := NB0_462.out; have hcz57_0 : w54.cell? ⟨gb462, 0, none⟩ = some (.int .i64 0) := (blk_cell BK462.out 0).trans rfl; have hcz57_1 : w54.cell? ⟨gb462, 1, none⟩ = some (.int .i64 0) := (blk_cell BK462.out 1).trans rfl; have hcz57_2 : w54.cell? ⟨gb462, 2, none⟩ = some (.int .i64 0) := (blk_cell BK462.out 2).trans rfl; have hfz57_0 := blk_frozen BK462.out 0; have hfz57_1 := blk_frozen BK462.out 1; have hfz57_2 := blk_frozen BK462.out 2) | ((with_reducible refine gate_callee (f := 102) rfl ?_); refine goesL_ (some 7) rfl rfl Try.func102 (by kernel_rfl) rfl #[.pointer (some ⟨g, 0, none⟩), .int .i64 8] rfl (by (try simp only [List.map_toArray, List.map_cons, List.map_nil]); first | done | rfl | (simp only [List.length_drop, List.length_take]; rfl)) ?_; (with_reducible refine (spec_l1Below.calls g s0_0 t460 t461 8 t463 t464 t465 w0 _ ?side1 ?side2 A3.out).mono ?_); (case side1 => repeat (first | (with_reducible first | exact HI0.out | apply IsS155.alloc | apply IsS155.drewN | apply IsS155.drew | apply IsS155.set_1 | apply IsS155.set_2 | refine IsS155.far ?_ NB0_456.out _ | refine IsS155.far ?_ NB0_462.out _) | exact HI0.out)); (case side2 => repeat (first | (with_reducible first | exact HB.out | apply below_alloc | apply pw_below_drewN | apply below_drew1 | refine below_set ?_ (IsS155.ge HI0.out) | refine below_set ?_ GE456.out | refine below_set ?_ GE462.out) | exact HB.out)); rintro e w58 ⟨rfl, hi, hb, hk⟩; refine ⟨_, rfl, ?_⟩; have n0_ := Aside0.mk (KeepBut.blk hk (g' := gb456) (o := .cells #[.int .i64 0, .int .i64 0, .int .i64 0] 114 (0, 0)) (by (with_reducible repeat (first | refine blk_drewN ?_ _ | refine blk_drew ?_ | refine blk_alloc ?_ _)); refine blk_far ?_ NB456_462.out _; (with_reducible repeat (first | refine blk_drewN ?_ _ | refine blk_drew ?_ | refine blk_alloc ?_ _)); refine blk_far ?_ NB456_462.out _; (with_reducible repeat (first | refine blk_drewN ?_ _ | refine blk_drew ?_ | refine blk_alloc ?_ _)); refine blk_far ?_ NB456_462.out _; (with_reducible repeat (first | refine blk_drewN ?_ _ | refine blk_drew ?_ | refine blk_alloc ?_ _)); exact BK456.out) NB456_0.out (by simp)); have n1_ := Aside0.mk (KeepBut.blk hk (g' := gb462) (o := .cells #[.int .i64 t457, .int .i64 t458, .int .i64 t459] 114 (0, 0)) (by (with_reducible repeat (first | refine blk_drewN ?_ _ | refine blk_drew ?_ | refine blk_alloc ?_ _)); refine blk_put (cs := #[.int .i64 t457, .int .i64 t458, .int .i64 0]) ?_ 2 _ rfl; (with_reducible repeat (first | refine blk_drewN ?_ _ | refine blk_drew ?_ | refine blk_alloc ?_ _)); refine blk_put (cs := #[.int .i64 t457, .int .i64 0, .int .i64 0]) ?_ 1 _ rfl; (with_reducible repeat (first | refine blk_drewN ?_ _ | refine blk_drew ?_ | refine blk_alloc ?_ _)); refine blk_put (cs := #[.int .i64 0, .int .i64 0, .int .i64 0]) ?_ 0 _ rfl; (with_reducible repeat (first | refine blk_drewN ?_ _ | refine blk_drew ?_ | refine blk_alloc ?_ _)); exact BK462.out) NB462_0.out (by simp)); have n2_ := Aside0.mk (KeepBut.trans (by repeat (first | (with_reducible first | exact HK.out | apply KeepBut.set_ | apply keep_drewN | apply keep_drew | apply keep_alloc | refine keep_far ?_ GW456.out _ | refine keep_far ?_ GW462.out _) | exact HK.out)) hk (.inl rfl)); have n3_ := Aside0.mk (hb); have n4_ := Aside0.mk (hi); clear BK456; clear BK462; clear HK; clear HB; clear HI0; have BK456 := n0_; have BK462 := n1_; have HK := n2_; have HB := n3_; have HI0 := n4_; clear n0_ n1_ n2_ n3_ n4_; (try clear hb); (try clear hk); (try clear hi); have hcz59_0 : w58.cell? ⟨gb462, 0, none⟩ = some (.int .i64 t457) := (blk_cell BK462.out 0).trans rfl; have hcz59_1 : w58.cell? ⟨gb462, 1, none⟩ = some (.int .i64 t458) := (blk_cell BK462.out 1).trans rfl; have hcz59_2 : w58.cell? ⟨gb462, 2, none⟩ = some (.int .i64 t459) := (blk_cell BK462.out 2).trans rfl; have hfz59_0 := blk_frozen BK462.out 0; have hfz59_1 := blk_frozen BK462.out 1; have hfz59_2 := blk_frozen BK462.out 2; have hnb60 := NB456_0.out; have hnc60 := NB0_456.out; have hcz61_0 : w58.cell? ⟨gb456, 0, none⟩ = some (.int .i64 0) := (blk_cell BK456.out 0).trans rfl; have hcz61_1 : w58.cell? ⟨gb456, 1, none⟩ = some (.int .i64 0) := (blk_cell BK456.out 1).trans rfl; have hcz61_2 : w58.cell? ⟨gb456, 2, none⟩ = some (.int .i64 0) := (blk_cell BK456.out 2).trans rfl; have hfz61_0 := blk_frozen BK456.out 0; have hfz61_1 := blk_frozen BK456.out 1; have hfz61_2 := blk_frozen BK456.out 2))
        refine bodyPost_ret (results_cell_row rfl _ _ gb456 114 #[.int .i64 t457, .int .i64 t458, .int .i64 t459] (0, 0) _ rfl (by (with_reducible repeat (first | refine blk_drewN ?_ _ | refine blk_drew ?_ | refine blk_alloc ?_ _)); refine blk_put (cs := #[.int .i64 t457, .int .i64 t458, .int .i64 0]) ?_ 2 _ rfl; (with_reducible repeat (first | refine blk_drewN ?_ _ | refine blk_drew ?_ | refine blk_alloc ?_ _)); refine blk_put (cs := #[.int .i64 t457, .int .i64 0, .int .i64 0]) ?_ 1 _ rfl; (with_reducible repeat (first | refine blk_drewN ?_ _ | refine blk_drew ?_ | refine blk_alloc ?_ _)); refine blk_put (cs := #[.int .i64 0, .int .i64 0, .int .i64 0]) ?_ 0 _ rfl; (with_reducible repeat (first | refine blk_drewN ?_ _ | refine blk_drew ?_ | refine blk_alloc ?_ _)); exact BK456.out) Try.underlying114 rfl (by kernel_rfl)) rfl ?_
        exact ⟨by first | rfl | (simp [errW_none, errW_some] <;> rfl) | (simp [*, errW_none, errW_some] <;> rfl), by repeat (first | (with_reducible first | exact HI0.out | apply IsS155.alloc | apply IsS155.drewN | apply IsS155.drew | apply IsS155.set_1 | apply IsS155.set_2 | refine IsS155.far ?_ NB0_456.out _ | refine IsS155.far ?_ NB0_462.out _) | exact HI0.out), by repeat (first | (with_reducible first | exact HB.out | apply below_alloc | apply pw_below_drewN | apply below_drew1 | refine below_set ?_ (IsS155.ge HI0.out) | refine below_set ?_ GE456.out | refine below_set ?_ GE462.out) | exact HB.out), by repeat (first | (with_reducible first | exact HK.out | apply KeepBut.set_ | apply keep_drewN | apply keep_drew | apply keep_alloc | refine keep_far ?_ GW456.out _ | refine keep_far ?_ GW462.out _) | exact HK.out)⟩

def spec_l2Bent.f (k : Nat) (s0_0 : List Int) (s0_1 : Int) (s0_2 : Int) (a1 : Int) : Option ((List (S114)) × Int × Int) := (spec_l2Rows.f k s0_0 s0_1 s0_2 a1).bind fun bt484 => ((spec_l1Once.f s0_0 bt484.2.1 bt484.2.2 14).bind fun bt489 => (if bt489.1 = true then ((spec_l2Any.f s0_0 bt489.2.1 bt489.2.2).bind fun bt492 => (if bt484.1.length < 5864062014805 then (some ((bt484.1 ++ [(⟨bt492.1, bt492.2.1, bt492.2.2.1⟩ : S114)]), bt492.2.2.2.1, bt492.2.2.2.2)) else (none))) else (some (bt484.1, bt489.2.1, bt489.2.2))))
theorem spec_l2Bent.calls (k : Nat) (g : Nat) (s0_0 : List Int) (s0_1 : Int) (s0_2 : Int) (a1 : Int) (r1 : List (S114)) (r2 : Int) (r3 : Int) (w0 w : World) (hI : IsS155 w0 w g s0_0 s0_1 s0_2) (hB : Below w0.heap.size w0 w) (h : spec_l2Bent.f k s0_0 s0_1 s0_2 a1 = some (r1, r2, r3)) :
    Calls Try.prog 99 #[.pointer (some ⟨g, 0, none⟩), .int .i64 a1] w fun e w' => ∃ v0_ : Value, e = .returned (v0_) ∧ Kd.R k114 114 w' w.heap.size (fun _ => True) v0_ r1 ∧ IsS155 w0 w' g s0_0 r2 r3 ∧ Below w0.heap.size w0 w' ∧ KeepBut w w' g none := by
  have HI0 := Aside0.mk hI
  have HK := Aside0.mk (KeepBut.refl w g none)
  have HL := Aside0.mk hB.size
  clear hI
  have HW0 := Aside0.mk hB.size
  have HB := Aside0.mk hB
  clear hB
  have H : ((spec_l2Rows.f k s0_0 s0_1 s0_2 a1).bind fun bt484 => ((spec_l1Once.f s0_0 bt484.2.1 bt484.2.2 14).bind fun bt489 => (if bt489.1 = true then ((spec_l2Any.f s0_0 bt489.2.1 bt489.2.2).bind fun bt492 => (if bt484.1.length < 5864062014805 then (some ((bt484.1 ++ [(⟨bt492.1, bt492.2.1, bt492.2.2.1⟩ : S114)]), bt492.2.2.2.1, bt492.2.2.2.2)) else (none))) else (some (bt484.1, bt489.2.1, bt489.2.2))))) = some (r1, r2, r3) := h
  clear h
  replace H := Option.bind_eq_some_iff.mp H
  obtain ⟨⟨t484, t487, t488⟩, A30, H⟩ := H
  replace H : ((spec_l1Once.f s0_0 t487 t488 14).bind fun bt489 => (if bt489.1 = true then ((spec_l2Any.f s0_0 bt489.2.1 bt489.2.2).bind fun bt492 => (if t484.length < 5864062014805 then (some ((t484 ++ [(⟨bt492.1, bt492.2.1, bt492.2.2.1⟩ : S114)]), bt492.2.2.2.1, bt492.2.2.2.2)) else (none))) else (some (t484, bt489.2.1, bt489.2.2)))) = some (r1, r2, r3) := H
  have A3 := Aside0.mk A30
  clear A30
  replace H := Option.bind_eq_some_iff.mp H
  obtain ⟨⟨t489, t490, t491⟩, A40, H⟩ := H
  replace H : (if t489 = true then ((spec_l2Any.f s0_0 t490 t491).bind fun bt492 => (if t484.length < 5864062014805 then (some ((t484 ++ [(⟨bt492.1, bt492.2.1, bt492.2.2.1⟩ : S114)]), bt492.2.2.2.1, bt492.2.2.2.2)) else (none))) else (some (t484, t490, t491))) = some (r1, r2, r3) := H
  have A4 := Aside0.mk A40
  clear A40
  by_cases c5 : t489 = true
  · subst c5
    have H1 : ((spec_l2Any.f s0_0 t490 t491).bind fun bt492 => (if t484.length < 5864062014805 then (some ((t484 ++ [(⟨bt492.1, bt492.2.1, bt492.2.2.1⟩ : S114)]), bt492.2.2.2.1, bt492.2.2.2.2)) else (none))) = some (r1, r2, r3) := by rw [if_pos rfl] at H; exact H
    clear H
    have H := H1
    clear H1
    replace H := Option.bind_eq_some_iff.mp H
    obtain ⟨⟨t492, t493, t494, t495, t496⟩, A60, H⟩ := H
    replace H : (if t484.length < 5864062014805 then (some ((t484 ++ [(⟨t492, t493, t494⟩ : S114)]), t495, t496)) else (none)) = some (r1, r2, r3) := H
    have A6 := Aside0.mk A60
    clear A60
    by_cases c7 : t484.length < 5864062014805
    · rw [if_pos c7] at H
      have LMc7 := Aside0.mk c7
      clear c7
      obtain ⟨y497, hy497⟩ : ∃ y_ : List (S114), y_ = (t484 ++ [(⟨t492, t493, t494⟩ : S114)]) := ⟨_, rfl⟩
      replace H : (some (y497, t495, t496)) = some (r1, r2, r3) := by first | (rw [hy497]; with_reducible exact H) | (have H2_ := (Option.bind_some _ _).symm.trans H; rw [hy497]; with_reducible exact H2_) | (have H2_ := (Option.bind_some _ _).symm.trans H; with_reducible exact H2_) | with_reducible exact H | (rw [hy497]; exact H) | exact H
      have Ny497 := Aside0.mk hy497
      clear hy497
      simp only [Option.some.injEq, Prod.mk.injEq] at H
      obtain ⟨rfl, rfl, rfl⟩ := H
      go_enter Try.func99, Try.ntmps99
      go_wp2_with (first | ((with_reducible refine gate_callee (f := 146) rfl ?_); refine goesL_ (some 8) rfl rfl Try.func146 (by kernel_rfl) rfl #[.pointer (some ⟨g, 0, none⟩), .int .i64 a1] rfl (by (try simp only [List.map_toArray, List.map_cons, List.map_nil]); first | done | rfl | (simp only [List.length_drop, List.length_take]; rfl)) ?_; (with_reducible refine (spec_l2Rows.calls k g s0_0 s0_1 s0_2 a1 t484 t487 t488 w0 _ ?side1 ?side2 A3.out).mono ?_); (case side1 => repeat (first | (with_reducible first | exact HI0.out | apply IsS155.alloc | apply IsS155.drewN | apply IsS155.drew | apply IsS155.set_1 | apply IsS155.set_2) | exact HI0.out)); (case side2 => repeat (first | (with_reducible first | exact HB.out | apply below_alloc | apply pw_below_drewN | apply below_drew1 | refine below_set ?_ (IsS155.ge HI0.out)) | exact HB.out)); rintro e w8 ⟨v485, rfl, ho0, hi, hb, hk⟩; refine ⟨_, rfl, ?_⟩; have n0_ := Aside0.mk (Kd.R_lower ho0 (keep_size (w := w) (g := g) (row := none) (by repeat (first | (with_reducible first | exact HK.out | apply KeepBut.set_ | apply keep_drewN | apply keep_drew | apply keep_alloc) | exact HK.out)))); have n1_ := Aside0.mk (KeepBut.trans (by repeat (first | (with_reducible first | exact HK.out | apply KeepBut.set_ | apply keep_drewN | apply keep_drew | apply keep_alloc) | exact HK.out)) hk (.inl rfl)); have n2_ := Aside0.mk (hb); have n3_ := Aside0.mk (hi); clear HK; clear HB; clear HI0; have HO486 := n0_; have HK := n1_; have HB := n2_; have HI0 := n3_; clear n0_ n1_ n2_ n3_; (try clear hb); (try clear hk); (try clear hi); (try clear ho0)) | ((with_reducible refine gate_callee (f := 111) rfl ?_); refine goesL_ (some 10) rfl rfl Try.func111 (by kernel_rfl) rfl #[.pointer (some ⟨g, 0, none⟩), .int .i64 14] rfl (by (try simp only [List.map_toArray, List.map_cons, List.map_nil]); first | done | rfl | (simp only [List.length_drop, List.length_take]; rfl)) ?_; (with_reducible refine (spec_l1Once.calls g s0_0 t487 t488 14 true t490 t491 w0 _ ?side1 ?side2 A4.out).mono ?_); (case side1 => repeat (first | (with_reducible first | exact HI0.out | apply IsS155.alloc | apply IsS155.drewN | apply IsS155.drew | apply IsS155.set_1 | apply IsS155.set_2) | exact HI0.out)); (case side2 => repeat (first | (with_reducible first | exact HB.out | apply below_alloc | apply pw_below_drewN | apply below_drew1 | refine below_set ?_ (IsS155.ge HI0.out)) | exact HB.out)); rintro e w9 ⟨rfl, hi, hb, hk⟩; refine ⟨_, rfl, ?_⟩; have n0_ := Aside0.mk (Kd.R_mono (Kd.R_keep (IsS155.apart (show IsS155 w0 _ g s0_0 t487 t488 from by repeat (first | (with_reducible first | exact HI0.out | apply IsS155.alloc | apply IsS155.drewN | apply IsS155.drew | apply IsS155.set_1 | apply IsS155.set_2) | exact HI0.out)) (by (with_reducible repeat (first | apply Kd.R_alloc | apply Kd.R_drewN | apply Kd.R_drew)); exact HO486.out) (by decide)) hk (fun _ h => h.2)) (fun _ h => h.1)); have n1_ := Aside0.mk (KeepBut.trans (by repeat (first | (with_reducible first | exact HK.out | apply KeepBut.set_ | apply keep_drewN | apply keep_drew | apply keep_alloc) | exact HK.out)) hk (.inl rfl)); have n2_ := Aside0.mk (hb); have n3_ := Aside0.mk (hi); clear HO486; clear HK; clear HB; clear HI0; have HO486 := n0_; have HK := n1_; have HB := n2_; have HI0 := n3_; clear n0_ n1_ n2_ n3_; (try clear hb); (try clear hk); (try clear hi)) | ((with_reducible refine gate_callee (f := 147) rfl ?_); refine goesL_ (some 13) rfl rfl Try.func147 (by kernel_rfl) rfl #[.pointer (some ⟨g, 0, none⟩)] rfl (by (try simp only [List.map_toArray, List.map_cons, List.map_nil]); first | done | rfl | (simp only [List.length_drop, List.length_take]; rfl)) ?_; (with_reducible refine (spec_l2Any.calls g s0_0 t490 t491 t492 t493 t494 t495 t496 w0 _ ?side1 ?side2 A6.out).mono ?_); (case side1 => repeat (first | (with_reducible first | exact HI0.out | apply IsS155.alloc | apply IsS155.drewN | apply IsS155.drew | apply IsS155.set_1 | apply IsS155.set_2) | exact HI0.out)); (case side2 => repeat (first | (with_reducible first | exact HB.out | apply below_alloc | apply pw_below_drewN | apply below_drew1 | refine below_set ?_ (IsS155.ge HI0.out)) | exact HB.out)); rintro e w10 ⟨rfl, hi, hb, hk⟩; refine ⟨_, rfl, ?_⟩; have n0_ := Aside0.mk (Kd.R_mono (Kd.R_keep (IsS155.apart (show IsS155 w0 _ g s0_0 t490 t491 from by repeat (first | (with_reducible first | exact HI0.out | apply IsS155.alloc | apply IsS155.drewN | apply IsS155.drew | apply IsS155.set_1 | apply IsS155.set_2) | exact HI0.out)) (by (with_reducible repeat (first | apply Kd.R_alloc | apply Kd.R_drewN | apply Kd.R_drew)); exact HO486.out) (by decide)) hk (fun _ h => h.2)) (fun _ h => h.1)); have n1_ := Aside0.mk (KeepBut.trans (by repeat (first | (with_reducible first | exact HK.out | apply KeepBut.set_ | apply keep_drewN | apply keep_drew | apply keep_alloc) | exact HK.out)) hk (.inl rfl)); have n2_ := Aside0.mk (hb); have n3_ := Aside0.mk (hi); clear HO486; clear HK; clear HB; clear HI0; have HO486 := n0_; have HK := n1_; have HB := n2_; have HI0 := n3_; clear n0_ n1_ n2_ n3_; (try clear hb); (try clear hk); (try clear hi)) | ((with_reducible refine gate_builtin (b := .append) (xs := #[.tmp 11, .tmp 14]) rfl ?_); at_builtin; refine Kd.R_append k114 w.heap.size rfl (.tmp 11) (.tmp 14) 44 114 (.agg #[(.int .i64 0), (.int .i64 0), (.int .i64 0)]) 24 rfl Try.underlying44 info114 rfl (by decide) (by omega) v485 t484 (⟨t492, t493, t494⟩ : S114) [.int .i64 t492, .int .i64 t493, .int .i64 t494] (fun _ => True) (fun _ => False) rfl rfl ?aP (fun _ hk => hk.elim) ?aF ?aO (Below.refl _ _) ?aS ?aL ?_; (case aP => exact k114_mkM _ _ _ (⟨t492, t493, t494⟩ : S114)); (case aF => exact (fun _ _ => trivial)); (case aO => exact (by (with_reducible repeat (first | apply Kd.R_alloc | apply Kd.R_drewN | apply Kd.R_drew)); exact HO486.out)); (case aS => exact (keep_size (w := w) (g := g) (row := none) (by repeat (first | (with_reducible first | exact HK.out | apply KeepBut.set_ | apply keep_drewN | apply keep_drew | apply keep_alloc) | exact HK.out)))); (case aL => have := LMc7.out; omega); intro v498 w11 ho hb hg hat; rw [← Ny497.out] at ho; have n0_ := Aside0.mk (IsS155.grown (by repeat (first | (with_reducible first | exact HI0.out | apply IsS155.alloc | apply IsS155.drewN | apply IsS155.drew | apply IsS155.set_1 | apply IsS155.set_2) | exact HI0.out)) hg (IsS155.own_ne HI0.out HO486.out (by decide))); have n1_ := Aside0.mk (below_weaken (by repeat (first | (with_reducible first | exact HB.out | apply below_alloc | apply pw_below_drewN | apply below_drew1 | refine below_set ?_ (IsS155.ge HI0.out)) | exact HB.out)) HL.out hb); have n2_ := Aside0.mk (KeepBut.trans (by repeat (first | (with_reducible first | exact HK.out | apply KeepBut.set_ | apply keep_drewN | apply keep_drew | apply keep_alloc) | exact HK.out)) (KeepBut.of_grown hg g) (Kd.R_base2 HO486.out)); have n3_ := Aside0.mk (ho); clear HI0; clear HB; clear HK; clear HO486; have HI0 := n0_; have HB := n1_; have HK := n2_; have HO499 := n3_; clear n0_ n1_ n2_ n3_; clear ho hb hg hat))
      go_ret
      exact ⟨_, by first | rfl | (simp [errW_none, errW_some] <;> rfl) | (simp [*, errW_none, errW_some] <;> rfl), by (with_reducible repeat (first | apply Kd.R_alloc | apply Kd.R_drewN | apply Kd.R_drew)); exact HO499.out, by repeat (first | (with_reducible first | exact HI0.out | apply IsS155.alloc | apply IsS155.drewN | apply IsS155.drew | apply IsS155.set_1 | apply IsS155.set_2) | exact HI0.out), by repeat (first | (with_reducible first | exact HB.out | apply below_alloc | apply pw_below_drewN | apply below_drew1 | refine below_set ?_ (IsS155.ge HI0.out)) | exact HB.out), by repeat (first | (with_reducible first | exact HK.out | apply KeepBut.set_ | apply keep_drewN | apply keep_drew | apply keep_alloc) | exact HK.out)⟩
    · rw [if_neg c7] at H
      exact absurd H (by simp)
  · replace c5 := Bool.eq_false_iff.mpr c5
    subst c5
    have H1 : (some (t484, t490, t491)) = some (r1, r2, r3) := by rw [if_neg (show ¬ (false = true) by decide)] at H; exact H
    clear H
    have H := H1
    clear H1
    simp only [Option.some.injEq, Prod.mk.injEq] at H
    obtain ⟨rfl, rfl, rfl⟩ := H
    go_enter Try.func99, Try.ntmps99
    go_wp2_with (first | ((with_reducible refine gate_callee (f := 146) rfl ?_); refine goesL_ (some 8) rfl rfl Try.func146 (by kernel_rfl) rfl #[.pointer (some ⟨g, 0, none⟩), .int .i64 a1] rfl (by (try simp only [List.map_toArray, List.map_cons, List.map_nil]); first | done | rfl | (simp only [List.length_drop, List.length_take]; rfl)) ?_; (with_reducible refine (spec_l2Rows.calls k g s0_0 s0_1 s0_2 a1 t484 t487 t488 w0 _ ?side1 ?side2 A3.out).mono ?_); (case side1 => repeat (first | (with_reducible first | exact HI0.out | apply IsS155.alloc | apply IsS155.drewN | apply IsS155.drew | apply IsS155.set_1 | apply IsS155.set_2) | exact HI0.out)); (case side2 => repeat (first | (with_reducible first | exact HB.out | apply below_alloc | apply pw_below_drewN | apply below_drew1 | refine below_set ?_ (IsS155.ge HI0.out)) | exact HB.out)); rintro e w12 ⟨v485, rfl, ho0, hi, hb, hk⟩; refine ⟨_, rfl, ?_⟩; have n0_ := Aside0.mk (Kd.R_lower ho0 (keep_size (w := w) (g := g) (row := none) (by repeat (first | (with_reducible first | exact HK.out | apply KeepBut.set_ | apply keep_drewN | apply keep_drew | apply keep_alloc) | exact HK.out)))); have n1_ := Aside0.mk (KeepBut.trans (by repeat (first | (with_reducible first | exact HK.out | apply KeepBut.set_ | apply keep_drewN | apply keep_drew | apply keep_alloc) | exact HK.out)) hk (.inl rfl)); have n2_ := Aside0.mk (hb); have n3_ := Aside0.mk (hi); clear HK; clear HB; clear HI0; have HO486 := n0_; have HK := n1_; have HB := n2_; have HI0 := n3_; clear n0_ n1_ n2_ n3_; (try clear hb); (try clear hk); (try clear hi); (try clear ho0)) | ((with_reducible refine gate_callee (f := 111) rfl ?_); refine goesL_ (some 10) rfl rfl Try.func111 (by kernel_rfl) rfl #[.pointer (some ⟨g, 0, none⟩), .int .i64 14] rfl (by (try simp only [List.map_toArray, List.map_cons, List.map_nil]); first | done | rfl | (simp only [List.length_drop, List.length_take]; rfl)) ?_; (with_reducible refine (spec_l1Once.calls g s0_0 t487 t488 14 false t490 t491 w0 _ ?side1 ?side2 A4.out).mono ?_); (case side1 => repeat (first | (with_reducible first | exact HI0.out | apply IsS155.alloc | apply IsS155.drewN | apply IsS155.drew | apply IsS155.set_1 | apply IsS155.set_2) | exact HI0.out)); (case side2 => repeat (first | (with_reducible first | exact HB.out | apply below_alloc | apply pw_below_drewN | apply below_drew1 | refine below_set ?_ (IsS155.ge HI0.out)) | exact HB.out)); rintro e w13 ⟨rfl, hi, hb, hk⟩; refine ⟨_, rfl, ?_⟩; have n0_ := Aside0.mk (Kd.R_mono (Kd.R_keep (IsS155.apart (show IsS155 w0 _ g s0_0 t487 t488 from by repeat (first | (with_reducible first | exact HI0.out | apply IsS155.alloc | apply IsS155.drewN | apply IsS155.drew | apply IsS155.set_1 | apply IsS155.set_2) | exact HI0.out)) (by (with_reducible repeat (first | apply Kd.R_alloc | apply Kd.R_drewN | apply Kd.R_drew)); exact HO486.out) (by decide)) hk (fun _ h => h.2)) (fun _ h => h.1)); have n1_ := Aside0.mk (KeepBut.trans (by repeat (first | (with_reducible first | exact HK.out | apply KeepBut.set_ | apply keep_drewN | apply keep_drew | apply keep_alloc) | exact HK.out)) hk (.inl rfl)); have n2_ := Aside0.mk (hb); have n3_ := Aside0.mk (hi); clear HO486; clear HK; clear HB; clear HI0; have HO486 := n0_; have HK := n1_; have HB := n2_; have HI0 := n3_; clear n0_ n1_ n2_ n3_; (try clear hb); (try clear hk); (try clear hi)))
    go_ret
    exact ⟨_, by first | rfl | (simp [errW_none, errW_some] <;> rfl) | (simp [*, errW_none, errW_some] <;> rfl), by (with_reducible repeat (first | apply Kd.R_alloc | apply Kd.R_drewN | apply Kd.R_drew)); exact HO486.out, by repeat (first | (with_reducible first | exact HI0.out | apply IsS155.alloc | apply IsS155.drewN | apply IsS155.drew | apply IsS155.set_1 | apply IsS155.set_2) | exact HI0.out), by repeat (first | (with_reducible first | exact HB.out | apply below_alloc | apply pw_below_drewN | apply below_drew1 | refine below_set ?_ (IsS155.ge HI0.out)) | exact HB.out), by repeat (first | (with_reducible first | exact HK.out | apply KeepBut.set_ | apply keep_drewN | apply keep_drew | apply keep_alloc) | exact HK.out)⟩

def spec_l1New.l0 : Nat → List Int → Int → Int → Option (List Int × Int × Int)
  | 0, _, _, _ => none
  | k + 1, x0, x3, x4 => if x4 < (x0.length : Int) then (if x4 < 4000 then (if 0 ≤ x4 then (spec_l1New.l0 k x0 (Go.bits .and .i64 (wrap64 ((wrap64 ((wrap64 (x3 * 131)) + (wrap64 (rd x0 x4)))) + 7)) 1073741823) (wrap64 (x4 + 1))) else (none)) else (some (x0, 0, x3))) else (some (x0, 0, x3))
def spec_l1New.f (k : Nat) (l0 : List Int) : Option (List Int × Int × Int) := spec_l1New.l0 k l0 (wrap64 (10101 + (l0.length : Int))) 0
theorem spec_l1New.calls (k : Nat) (A0 : Option Addr) (c0 : Nat) (l0 : List Int) (r1 : List Int) (r2 : Int) (r3 : Int) (w0 w : World) (hB : Below w0.heap.size w0 w) (hr0 : Kd.C (Kd.int .u8) w0 A0 l0.length l0) (hc0 : l0.length ≤ c0) (h : spec_l1New.f k l0 = some (r1, r2, r3)) :
    Calls Try.prog 100 #[.slice A0 l0.length c0] w fun e w' => ∃ g_ : Nat, e = .returned (.pointer (some ⟨g_, 0, none⟩)) ∧ IsS155 w0 w' g_ r1 r2 r3 ∧ Below w0.heap.size w0 w' ∧ Below w.heap.size w w' := by
  have hu155 := Try.underlying155
  have HR0 := Aside0.mk hr0
  have HC0 := Aside0.mk hc0
  clear hr0 hc0
  have HBW := Aside0.mk (Below.refl w.heap.size w)
  have HW0 := Aside0.mk hB.size
  have HB := Aside0.mk hB
  clear hB
  have H : (spec_l1New.l0 k l0 (wrap64 (10101 + (l0.length : Int))) 0) = some (r1, r2, r3) := h
  clear h
  have H' := Aside0.mk H
  clear H
  go_enter Try.func100, Try.ntmps100
  go_wp2
  go_loopg [3, 4] k (fun kq v3 v4 w' => ∃ (x3_1 : Int) (x4_1 : Int), v3 = .int .i64 x3_1 ∧ v4 = .int .i64 x4_1 ∧ Aside0 (spec_l1New.l0 kq l0 x3_1 x4_1 = some (r1, r2, r3)) ∧ Aside0 (kq ≤ k) ∧ Aside0 (Below w0.heap.size w0 w') ∧ Aside0 (Below w.heap.size w w'))
  case atStart => exact ⟨(wrap64 (10101 + (l0.length : Int))), (0), (by first | rfl | (simp; done) | (simp [*]; done) | (simp; exact isE_ _)), (by first | rfl | (simp; done) | (simp [*]; done) | (simp; exact isE_ _)), H', ⟨Nat.le_refl _⟩, ⟨by repeat (first | (with_reducible first | exact HB.out | apply below_alloc | apply pw_below_drewN | apply below_drew1) | exact HB.out)⟩, ⟨by repeat (first | (with_reducible first | exact HBW.out | apply below_alloc | apply pw_below_drewN | apply below_drew1) | exact HBW.out)⟩⟩
  case round =>
    clear H'
    try clear c1
    obtain ⟨x3_1, x4_1, rfl, rfl, HA, HK1, HB, HBW⟩ := hrel
    cases gk with
    | zero => exact absurd HA.out (by simp [spec_l1New.l0])
    | succ k1 =>
      have H := HA.out
      clear HA
      simp only [spec_l1New.l0] at H
      by_cases c2 : x4_1 < (l0.length : Int)
      · rw [if_pos c2] at H
        have c2b0 : decide (x4_1 < (l0.length : Int)) = true := decide_eq_true c2
        clear c2
        by_cases c3 : x4_1 < 4000
        · rw [if_pos c3] at H
          have c3b0 : decide (x4_1 < 4000) = true := decide_eq_true c3
          clear c3
          by_cases c4 : 0 ≤ x4_1
          · rw [if_pos c4] at H
            have c4b0 : decide (0 ≤ x4_1) = true := decide_eq_true c4
            clear c4
            have H' := Aside0.mk H
            clear H
            have p500 : 0 ≤ (x4_1 : Int) := of_decide_eq_true (by first | (with_reducible assumption) | assumption)
            have q500 : x4_1 < (l0.length : Int) := of_decide_eq_true (by first | (with_reducible assumption) | assumption)
            obtain ⟨ad500, e500, hx500_0⟩ := Kd.at_int HR0.out x4_1 p500 q500
            cases e500
            replace hx500_0 := pw_cell_below HB.out hx500_0
            replace p500 := eq_true p500
            replace q500 := eq_true q500
            go_wp2
            go_roundg k1
            case measure => have := HK1.out; omega
            case rel => exact ⟨(Go.bits .and .i64 (wrap64 ((wrap64 ((wrap64 (x3_1 * 131)) + (wrap64 (rd l0 x4_1)))) + 7)) 1073741823), (wrap64 (x4_1 + 1)), (by first | rfl | (simp; done) | (simp [*]; done) | (simp; exact isE_ _)), (by first | rfl | (simp; done) | (simp [*]; done) | (simp; exact isE_ _)), H', ⟨by have := HK1.out; omega⟩, ⟨by repeat (first | (with_reducible first | exact HB.out | apply below_alloc | apply pw_below_drewN | apply below_drew1) | exact HB.out)⟩, ⟨by repeat (first | (with_reducible first | exact HBW.out | apply below_alloc | apply pw_below_drewN | apply below_drew1) | exact HBW.out)⟩⟩
          · rw [if_neg c4] at H
            exact absurd H (by simp)
        · rw [if_neg c3] at H
          have c3b0 : decide (x4_1 < 4000) = false := decide_eq_false c3
          clear c3
          simp only [Option.some.injEq, Prod.mk.injEq] at H
          obtain ⟨rfl, rfl, rfl⟩ := H
          go_wp2_with (first | ((with_reducible refine gate_dst (N := 31) rfl ?_); refine box_event ?hg (N := 31) ?hd (cs := #[.slice A0 l0.length c0, .int .i64 0, .int .i64 x3_1]) (t := 155) ?hr ?_; (case hd => rfl); (case hg => rfl); (case hr => first | (go_simp; done) | (go_simp; rfl)); intro gb501 hg w5 hbox hb; have n0_ := Aside0.mk (below_step HBW.out hb); have n1_ := Aside0.mk (below_step (by repeat (first | (with_reducible first | exact HB.out | apply below_alloc | apply pw_below_drewN | apply below_drew1) | exact HB.out)) hb); have n2_ := Aside0.mk (hbox); have n3_ := Aside0.mk ((by rw [hg]; exact (below_size (by repeat (first | (with_reducible first | exact HBW.out | apply below_alloc | apply pw_below_drewN | apply below_drew1) | exact HBW.out))) : w.heap.size ≤ gb501)); have n4_ := Aside0.mk ((Nat.le_trans HW0.out (by rw [hg]; exact (below_size (by repeat (first | (with_reducible first | exact HBW.out | apply below_alloc | apply pw_below_drewN | apply below_drew1) | exact HBW.out))) : w.heap.size ≤ gb501) : w0.heap.size ≤ gb501)); clear HBW; clear HB; have HBW := n0_; have HB := n1_; have BK501 := n2_; have GW501 := n3_; have GE501 := n4_; clear n0_ n1_ n2_ n3_ n4_; clear hb hbox hg))
          go_ret
          exact ⟨_, rfl, (show IsS155 w0 _ gb501 l0 0 x3_1 from ⟨_, _, by (with_reducible repeat (first | refine blk_drewN ?_ _ | refine blk_drew ?_ | refine blk_alloc ?_ _)); exact BK501.out, GE501.out, HR0.out⟩), by repeat (first | (with_reducible first | exact HB.out | apply below_alloc | apply pw_below_drewN | apply below_drew1 | refine below_set ?_ GE501.out) | exact HB.out), by repeat (first | (with_reducible first | exact HBW.out | apply below_alloc | apply pw_below_drewN | apply below_drew1 | refine below_set ?_ GW501.out) | exact HBW.out)⟩
      · rw [if_neg c2] at H
        have c2b0 : decide (x4_1 < (l0.length : Int)) = false := decide_eq_false c2
        clear c2
        simp only [Option.some.injEq, Prod.mk.injEq] at H
        obtain ⟨rfl, rfl, rfl⟩ := H
        go_wp2_with (first | ((with_reducible refine gate_dst (N := 31) rfl ?_); refine box_event ?hg (N := 31) ?hd (cs := #[.slice A0 l0.length c0, .int .i64 0, .int .i64 x3_1]) (t := 155) ?hr ?_; (case hd => rfl); (case hg => rfl); (case hr => first | (go_simp; done) | (go_simp; rfl)); intro gb502 hg w6 hbox hb; have n0_ := Aside0.mk (below_step HBW.out hb); have n1_ := Aside0.mk (below_step (by repeat (first | (with_reducible first | exact HB.out | apply below_alloc | apply pw_below_drewN | apply below_drew1) | exact HB.out)) hb); have n2_ := Aside0.mk (hbox); have n3_ := Aside0.mk ((by rw [hg]; exact (below_size (by repeat (first | (with_reducible first | exact HBW.out | apply below_alloc | apply pw_below_drewN | apply below_drew1) | exact HBW.out))) : w.heap.size ≤ gb502)); have n4_ := Aside0.mk ((Nat.le_trans HW0.out (by rw [hg]; exact (below_size (by repeat (first | (with_reducible first | exact HBW.out | apply below_alloc | apply pw_below_drewN | apply below_drew1) | exact HBW.out))) : w.heap.size ≤ gb502) : w0.heap.size ≤ gb502)); clear HBW; clear HB; have HBW := n0_; have HB := n1_; have BK502 := n2_; have GW502 := n3_; have GE502 := n4_; clear n0_ n1_ n2_ n3_ n4_; clear hb hbox hg))
        go_ret
        exact ⟨_, rfl, (show IsS155 w0 _ gb502 l0 0 x3_1 from ⟨_, _, by (with_reducible repeat (first | refine blk_drewN ?_ _ | refine blk_drew ?_ | refine blk_alloc ?_ _)); exact BK502.out, GE502.out, HR0.out⟩), by repeat (first | (with_reducible first | exact HB.out | apply below_alloc | apply pw_below_drewN | apply below_drew1 | refine below_set ?_ GE502.out) | exact HB.out), by repeat (first | (with_reducible first | exact HBW.out | apply below_alloc | apply pw_below_drewN | apply below_drew1 | refine below_set ?_ GW502.out) | exact HBW.out)⟩

def spec_DrawRollupRows.f (k : Nat) (l0 : List Int) : Option ((List (S114))) := (spec_l1New.f k l0).bind fun bt503 => ((spec_l2Bent.f k bt503.1 bt503.2.1 bt503.2.2 12).bind fun bt507 => (some bt507.1))
theorem spec_DrawRollupRows.calls (k : Nat) (A0 : Option Addr) (c0 : Nat) (l0 : List Int) (r : List (S114)) (w : World) (hr0 : Kd.C (Kd.int .u8) w A0 l0.length l0) (hc0 : l0.length ≤ c0) (h : spec_DrawRollupRows.f k l0 = some r) :
    Calls Try.prog 33 #[.slice A0 l0.length c0] w fun e w' => ∃ v0_ : Value, e = .returned (v0_) ∧ Kd.R k114 114 w' w.heap.size (fun _ => True) v0_ r ∧ Below w.heap.size w w' := by
  have HR0 := Aside0.mk hr0
  have HC0 := Aside0.mk hc0
  clear hr0 hc0
  have HB := Aside0.mk (Below.refl w.heap.size w)
  have H : ((spec_l1New.f k l0).bind fun bt503 => ((spec_l2Bent.f k bt503.1 bt503.2.1 bt503.2.2 12).bind fun bt507 => (some bt507.1))) = some r := h
  clear h
  replace H := Option.bind_eq_some_iff.mp H
  obtain ⟨⟨t503, t504, t505⟩, A20, H⟩ := H
  replace H : ((spec_l2Bent.f k t503 t504 t505 12).bind fun bt507 => (some bt507.1)) = some r := H
  have A2 := Aside0.mk A20
  clear A20
  replace H := Option.bind_eq_some_iff.mp H
  obtain ⟨⟨t507, t510, t511⟩, A30, H⟩ := H
  replace H : (some t507) = some r := H
  have A3 := Aside0.mk A30
  clear A30
  obtain rfl := Option.some.inj H
  go_enter Try.func33, Try.ntmps33
  go_wp2_with (first | ((with_reducible refine gate_callee (f := 100) rfl ?_); refine goesL_ (some 4) rfl rfl Try.func100 (by kernel_rfl) rfl #[.slice A0 l0.length c0] rfl (by (try simp only [List.map_toArray, List.map_cons, List.map_nil]); first | done | rfl | (simp only [List.length_drop, List.length_take]; rfl)) ?_; (with_reducible refine (spec_l1New.calls k _ _ l0 t503 t504 t505 w _ ?side1 ?side2 ?side3 A2.out).mono ?_); (case side1 => repeat (first | (with_reducible first | exact HB.out | apply below_alloc | apply pw_below_drewN | apply below_drew1) | exact HB.out)); (case side2 => exact HR0.out); (case side3 => exact HC0.out); rintro e w4 ⟨g506, rfl, hi, hb, hb2⟩; refine ⟨_, rfl, ?_⟩; have n0_ := Aside0.mk (hb); have n1_ := Aside0.mk (hi); clear HB; have HB := n0_; have HI506 := n1_; clear n0_ n1_; (try clear hb); (try clear hb2); (try clear hk); (try clear hi)) | ((with_reducible refine gate_callee (f := 99) rfl ?_); refine goesL_ (some 5) rfl rfl Try.func99 (by kernel_rfl) rfl #[.pointer (some ⟨g506, 0, none⟩), .int .i64 12] rfl (by (try simp only [List.map_toArray, List.map_cons, List.map_nil]); first | done | rfl | (simp only [List.length_drop, List.length_take]; rfl)) ?_; (with_reducible refine (spec_l2Bent.calls k g506 t503 t504 t505 12 t507 t510 t511 w _ ?side1 ?side2 A3.out).mono ?_); (case side1 => repeat (first | (with_reducible first | exact HI506.out | apply IsS155.alloc | apply IsS155.drewN | apply IsS155.drew | apply IsS155.set_1 | apply IsS155.set_2) | exact HI506.out)); (case side2 => repeat (first | (with_reducible first | exact HB.out | apply below_alloc | apply pw_below_drewN | apply below_drew1 | refine below_set ?_ (IsS155.ge HI506.out)) | exact HB.out)); rintro e w5 ⟨v508, rfl, ho0, hi, hb, hk⟩; refine ⟨_, rfl, ?_⟩; have n0_ := Aside0.mk (Kd.R_lower ho0 (below_size (by repeat (first | (with_reducible first | exact HB.out | apply below_alloc | apply pw_below_drewN | apply below_drew1 | refine below_set ?_ (IsS155.ge HI506.out)) | exact HB.out)))); have n1_ := Aside0.mk (hb); have n2_ := Aside0.mk (hi); clear HB; clear HI506; have HO509 := n0_; have HB := n1_; have HI506 := n2_; clear n0_ n1_ n2_; (try clear hb); (try clear hb2); (try clear hk); (try clear hi); (try clear ho0)))
  go_ret
  exact ⟨_, by first | rfl | (simp [errW_none, errW_some] <;> rfl) | (simp [*, errW_none, errW_some] <;> rfl), by (with_reducible repeat (first | apply Kd.R_alloc | apply Kd.R_drewN | apply Kd.R_drew)); exact HO509.out, by repeat (first | (with_reducible first | exact HB.out | apply below_alloc | apply pw_below_drewN | apply below_drew1 | refine below_set ?_ (IsS155.ge HI506.out)) | exact HB.out)⟩

def spec_DrawRollupKey.f (k : Nat) (l0 : List Int) : Option (Int × Int) := (spec_l1New.f k l0).bind fun bt512 => ((spec_l1Below.f bt512.1 bt512.2.1 bt512.2.2 12).bind fun bt516 => ((spec_l1Below.f bt512.1 bt516.2.1 bt516.2.2 5).bind fun bt519 => (some (wrap64 (bt516.1 - 1), wrap64 (bt519.1 - 1)))))
theorem spec_DrawRollupKey.calls (k : Nat) (A0 : Option Addr) (c0 : Nat) (l0 : List Int) (r1 : Int) (r2 : Int) (w : World) (hr0 : Kd.C (Kd.int .u8) w A0 l0.length l0) (hc0 : l0.length ≤ c0) (h : spec_DrawRollupKey.f k l0 = some (r1, r2)) :
    Calls Try.prog 35 #[.slice A0 l0.length c0] w fun e w' => e = .returned (.tuple #[.int .i64 r1, .int .i64 r2]) ∧ Below w.heap.size w w' := by
  have HR0 := Aside0.mk hr0
  have HC0 := Aside0.mk hc0
  clear hr0 hc0
  have HB := Aside0.mk (Below.refl w.heap.size w)
  have H : ((spec_l1New.f k l0).bind fun bt512 => ((spec_l1Below.f bt512.1 bt512.2.1 bt512.2.2 12).bind fun bt516 => ((spec_l1Below.f bt512.1 bt516.2.1 bt516.2.2 5).bind fun bt519 => (some (wrap64 (bt516.1 - 1), wrap64 (bt519.1 - 1)))))) = some (r1, r2) := h
  clear h
  replace H := Option.bind_eq_some_iff.mp H
  obtain ⟨⟨t512, t513, t514⟩, A20, H⟩ := H
  replace H : ((spec_l1Below.f t512 t513 t514 12).bind fun bt516 => ((spec_l1Below.f t512 bt516.2.1 bt516.2.2 5).bind fun bt519 => (some (wrap64 (bt516.1 - 1), wrap64 (bt519.1 - 1))))) = some (r1, r2) := H
  have A2 := Aside0.mk A20
  clear A20
  replace H := Option.bind_eq_some_iff.mp H
  obtain ⟨⟨t516, t517, t518⟩, A30, H⟩ := H
  replace H : ((spec_l1Below.f t512 t517 t518 5).bind fun bt519 => (some (wrap64 (t516 - 1), wrap64 (bt519.1 - 1)))) = some (r1, r2) := H
  have A3 := Aside0.mk A30
  clear A30
  replace H := Option.bind_eq_some_iff.mp H
  obtain ⟨⟨t519, t520, t521⟩, A40, H⟩ := H
  replace H : (some (wrap64 (t516 - 1), wrap64 (t519 - 1))) = some (r1, r2) := H
  have A4 := Aside0.mk A40
  clear A40
  simp only [Option.some.injEq, Prod.mk.injEq] at H
  obtain ⟨rfl, rfl⟩ := H
  go_enter Try.func35, Try.ntmps35
  go_wp2_with (first | ((with_reducible refine gate_callee (f := 100) rfl ?_); refine goesL_ (some 6) rfl rfl Try.func100 (by kernel_rfl) rfl #[.slice A0 l0.length c0] rfl (by (try simp only [List.map_toArray, List.map_cons, List.map_nil]); first | done | rfl | (simp only [List.length_drop, List.length_take]; rfl)) ?_; (with_reducible refine (spec_l1New.calls k _ _ l0 t512 t513 t514 w _ ?side1 ?side2 ?side3 A2.out).mono ?_); (case side1 => repeat (first | (with_reducible first | exact HB.out | apply below_alloc | apply pw_below_drewN | apply below_drew1) | exact HB.out)); (case side2 => exact HR0.out); (case side3 => exact HC0.out); rintro e w5 ⟨g515, rfl, hi, hb, hb2⟩; refine ⟨_, rfl, ?_⟩; have n0_ := Aside0.mk (hb); have n1_ := Aside0.mk (hi); clear HB; have HB := n0_; have HI515 := n1_; clear n0_ n1_; (try clear hb); (try clear hb2); (try clear hk); (try clear hi)) | ((with_reducible refine gate_callee (f := 102) rfl ?_); refine goesL_ (some 8) rfl rfl Try.func102 (by kernel_rfl) rfl #[.pointer (some ⟨g515, 0, none⟩), .int .i64 12] rfl (by (try simp only [List.map_toArray, List.map_cons, List.map_nil]); first | done | rfl | (simp only [List.length_drop, List.length_take]; rfl)) ?_; (with_reducible refine (spec_l1Below.calls g515 t512 t513 t514 12 t516 t517 t518 w _ ?side1 ?side2 A3.out).mono ?_); (case side1 => repeat (first | (with_reducible first | exact HI515.out | apply IsS155.alloc | apply IsS155.drewN | apply IsS155.drew | apply IsS155.set_1 | apply IsS155.set_2) | exact HI515.out)); (case side2 => repeat (first | (with_reducible first | exact HB.out | apply below_alloc | apply pw_below_drewN | apply below_drew1 | refine below_set ?_ (IsS155.ge HI515.out)) | exact HB.out)); rintro e w6 ⟨rfl, hi, hb, hk⟩; refine ⟨_, rfl, ?_⟩; have n0_ := Aside0.mk (hb); have n1_ := Aside0.mk (hi); clear HB; clear HI515; have HB := n0_; have HI515 := n1_; clear n0_ n1_; (try clear hb); (try clear hb2); (try clear hk); (try clear hi)) | ((with_reducible refine gate_callee (f := 102) rfl ?_); refine goesL_ (some 11) rfl rfl Try.func102 (by kernel_rfl) rfl #[.pointer (some ⟨g515, 0, none⟩), .int .i64 5] rfl (by (try simp only [List.map_toArray, List.map_cons, List.map_nil]); first | done | rfl | (simp only [List.length_drop, List.length_take]; rfl)) ?_; (with_reducible refine (spec_l1Below.calls g515 t512 t517 t518 5 t519 t520 t521 w _ ?side1 ?side2 A4.out).mono ?_); (case side1 => repeat (first | (with_reducible first | exact HI515.out | apply IsS155.alloc | apply IsS155.drewN | apply IsS155.drew | apply IsS155.set_1 | apply IsS155.set_2) | exact HI515.out)); (case side2 => repeat (first | (with_reducible first | exact HB.out | apply below_alloc | apply pw_below_drewN | apply below_drew1 | refine below_set ?_ (IsS155.ge HI515.out)) | exact HB.out)); rintro e w7 ⟨rfl, hi, hb, hk⟩; refine ⟨_, rfl, ?_⟩; have n0_ := Aside0.mk (hb); have n1_ := Aside0.mk (hi); clear HB; clear HI515; have HB := n0_; have HI515 := n1_; clear n0_ n1_; (try clear hb); (try clear hb2); (try clear hk); (try clear hi)))
  go_ret2
  exact ⟨by first | rfl | (simp [errW_none, errW_some] <;> rfl) | (simp [*, errW_none, errW_some] <;> rfl), by repeat (first | (with_reducible first | exact HB.out | apply below_alloc | apply pw_below_drewN | apply below_drew1 | refine below_set ?_ (IsS155.ge HI515.out)) | exact HB.out)⟩

def spec_l8Groups.l0 : Nat → List (S60) → Int → List Int → Int → Int → Option ((List (S60)) × Int × Int)
  | 0, _, _, _, _, _ => none
  | k + 1, x3, x4, x1000, x1001, x1002 => if x4 > 0 then ((spec_l2Rows.f k x1000 x1001 x1002 3).bind fun bt528 => ((spec_ReferenceGroups.f k bt528.1).bind fun t533 => (if x3.length + t533.length < 3518437208883 then (spec_l8Groups.l0 k (x3 ++ t533) (wrap64 (x4 - 1)) x1000 bt528.2.1 bt528.2.2) else (none)))) else (some (x3, x1001, x1002))
def spec_l8Groups.f (k : Nat) (s0_0 : List Int) (s0_1 : Int) (s0_2 : Int) : Option ((List (S60)) × Int × Int) := (spec_l1Below.f s0_0 s0_1 s0_2 6).bind fun bt525 => (spec_l8Groups.l0 k (([] : List (S60))) bt525.1 s0_0 bt525.2.1 bt525.2.2)
theorem spec_l8Groups.calls (k : Nat) (g : Nat) (s0_0 : List Int) (s0_1 : Int) (s0_2 : Int) (r1 : List (S60)) (r2 : Int) (r3 : Int) (w0 w : World) (hI : IsS155 w0 w g s0_0 s0_1 s0_2) (hB : Below w0.heap.size w0 w) (h : spec_l8Groups.f k s0_0 s0_1 s0_2 = some (r1, r2, r3)) :
    Calls Try.prog 103 #[.pointer (some ⟨g, 0, none⟩)] w fun e w' => ∃ v0_ : Value, e = .returned (v0_) ∧ Kd.R k60 60 w' w.heap.size (fun _ => True) v0_ r1 ∧ IsS155 w0 w' g s0_0 r2 r3 ∧ Below w0.heap.size w0 w' ∧ KeepBut w w' g none := by
  have HI0 := Aside0.mk hI
  have HK := Aside0.mk (KeepBut.refl w g none)
  have HL := Aside0.mk hB.size
  clear hI
  have HW0 := Aside0.mk hB.size
  have HB := Aside0.mk hB
  clear hB
  have H : ((spec_l1Below.f s0_0 s0_1 s0_2 6).bind fun bt525 => (spec_l8Groups.l0 k (([] : List (S60))) bt525.1 s0_0 bt525.2.1 bt525.2.2)) = some (r1, r2, r3) := h
  clear h
  obtain ⟨y522, hy522⟩ : ∃ y_ : List (S60), y_ = (([] : List (S60))) := ⟨_, rfl⟩
  replace H : ((spec_l1Below.f s0_0 s0_1 s0_2 6).bind fun bt525 => (spec_l8Groups.l0 k y522 bt525.1 s0_0 bt525.2.1 bt525.2.2)) = some (r1, r2, r3) := by first | (rw [hy522]; with_reducible exact H) | (have H2_ := (Option.bind_some _ _).symm.trans H; rw [hy522]; with_reducible exact H2_) | (have H2_ := (Option.bind_some _ _).symm.trans H; with_reducible exact H2_) | with_reducible exact H | (rw [hy522]; exact H) | exact H
  have Ny522 := Aside0.mk hy522
  clear hy522
  replace H := Option.bind_eq_some_iff.mp H
  obtain ⟨⟨t525, t526, t527⟩, A20, H⟩ := H
  replace H : (spec_l8Groups.l0 k y522 t525 s0_0 t526 t527) = some (r1, r2, r3) := H
  have A2 := Aside0.mk A20
  clear A20
  have H' := Aside0.mk H
  clear H
  go_enter Try.func103, Try.ntmps103
  go_wp2_with (first | ((with_reducible refine gate_dst (N := 6) rfl ?_); refine Kd.R_lit k60 _ 60 ?hg (N := 6) ?hd (xs := ([] : List (S60))) (inner := []) (ok := fun _ => True) (okp := fun _ => True) ?hr ?hp (fun _ hk => hk) trivial (Below.refl _ _) (Nat.le_refl _) (by simp) ?_; (case hd => rfl); (case hg => rfl); (case hr => first | (go_simp; done) | (go_simp; rfl)); (case hp => exact (Reps.none _ _)); intro v523 w3 ho4 hb hg_ hnew_; clear hg_ hnew_; (first | rw [← Ny522.out] at ho4 | (simp only [Int.reduceToNat] at ho4; rw [← Ny522.out] at ho4)); have n0_ := Aside0.mk (Kd.R_lower ho4 (keep_size (w := w) (g := g) (row := none) (by repeat (first | (with_reducible first | exact HK.out | apply KeepBut.set_ | apply keep_drewN | apply keep_drew | apply keep_alloc) | exact HK.out)))); have n1_ := Aside0.mk (IsS155.below (by repeat (first | (with_reducible first | exact HI0.out | apply IsS155.alloc | apply IsS155.drewN | apply IsS155.drew | apply IsS155.set_1 | apply IsS155.set_2) | exact HI0.out)) hb); have n2_ := Aside0.mk (KeepBut.trans (by repeat (first | (with_reducible first | exact HK.out | apply KeepBut.set_ | apply keep_drewN | apply keep_drew | apply keep_alloc) | exact HK.out)) (KeepBut.of_below hb g none) (.inl rfl)); have n3_ := Aside0.mk (below_step (by repeat (first | (with_reducible first | exact HB.out | apply below_alloc | apply pw_below_drewN | apply below_drew1 | refine below_set ?_ (IsS155.ge HI0.out)) | exact HB.out)) hb); clear HI0; clear HK; clear HB; have HO524 := n0_; have HI0 := n1_; have HK := n2_; have HB := n3_; clear n0_ n1_ n2_ n3_; clear hb ho4) | ((with_reducible refine gate_callee (f := 102) rfl ?_); refine goesL_ (some 8) rfl rfl Try.func102 (by kernel_rfl) rfl #[.pointer (some ⟨g, 0, none⟩), .int .i64 6] rfl (by (try simp only [List.map_toArray, List.map_cons, List.map_nil]); first | done | rfl | (simp only [List.length_drop, List.length_take]; rfl)) ?_; (with_reducible refine (spec_l1Below.calls g s0_0 s0_1 s0_2 6 t525 t526 t527 w0 _ ?side1 ?side2 A2.out).mono ?_); (case side1 => repeat (first | (with_reducible first | exact HI0.out | apply IsS155.alloc | apply IsS155.drewN | apply IsS155.drew | apply IsS155.set_1 | apply IsS155.set_2) | exact HI0.out)); (case side2 => repeat (first | (with_reducible first | exact HB.out | apply below_alloc | apply pw_below_drewN | apply below_drew1 | refine below_set ?_ (IsS155.ge HI0.out)) | exact HB.out)); rintro e w5 ⟨rfl, hi, hb, hk⟩; refine ⟨_, rfl, ?_⟩; have n0_ := Aside0.mk (Kd.R_mono (Kd.R_keep (IsS155.apart (show IsS155 w0 _ g s0_0 s0_1 s0_2 from by repeat (first | (with_reducible first | exact HI0.out | apply IsS155.alloc | apply IsS155.drewN | apply IsS155.drew | apply IsS155.set_1 | apply IsS155.set_2) | exact HI0.out)) (by (with_reducible repeat (first | apply Kd.R_alloc | apply Kd.R_drewN | apply Kd.R_drew)); exact HO524.out) (by decide)) hk (fun _ h => h.2)) (fun _ h => h.1)); have n1_ := Aside0.mk (KeepBut.trans (by repeat (first | (with_reducible first | exact HK.out | apply KeepBut.set_ | apply keep_drewN | apply keep_drew | apply keep_alloc) | exact HK.out)) hk (.inl rfl)); have n2_ := Aside0.mk (hb); have n3_ := Aside0.mk (hi); clear HO524; clear HK; clear HB; clear HI0; have HO524 := n0_; have HK := n1_; have HB := n2_; have HI0 := n3_; clear n0_ n1_ n2_ n3_; (try clear hb); (try clear hk); (try clear hi)))
  go_loopg [3, 4] k (fun kq v3 v4 w' => ∃ (x3_1 : List (S60)) (x4_1 : Int) (x1001_1 : Int) (x1002_1 : Int), v4 = .int .i64 x4_1 ∧ Aside0 (spec_l8Groups.l0 kq x3_1 x4_1 s0_0 x1001_1 x1002_1 = some (r1, r2, r3)) ∧ Aside0 (kq ≤ k) ∧ Aside0 (Kd.R k60 60 w' w.heap.size (fun _ => True) v3 x3_1) ∧ Aside0 (IsS155 w0 w' g s0_0 x1001_1 x1002_1) ∧ Aside0 (KeepBut w w' g none) ∧ Aside0 (Below w0.heap.size w0 w'))
  case atStart => exact ⟨(y522), (t525), (t526), (t527), (by first | rfl | (simp; done) | (simp [*]; done) | (simp; exact isE_ _)), H', ⟨Nat.le_refl _⟩, ⟨by (with_reducible repeat (first | apply Kd.R_alloc | apply Kd.R_drewN | apply Kd.R_drew)); exact HO524.out⟩, ⟨by repeat (first | (with_reducible first | exact HI0.out | apply IsS155.alloc | apply IsS155.drewN | apply IsS155.drew | apply IsS155.set_1 | apply IsS155.set_2) | exact HI0.out)⟩, ⟨by repeat (first | (with_reducible first | exact HK.out | apply KeepBut.set_ | apply keep_drewN | apply keep_drew | apply keep_alloc) | exact HK.out)⟩, ⟨by repeat (first | (with_reducible first | exact HB.out | apply below_alloc | apply pw_below_drewN | apply below_drew1 | refine below_set ?_ (IsS155.ge HI0.out)) | exact HB.out)⟩⟩
  case round =>
    clear H'
    try clear c1
    try clear p2
    obtain ⟨x3_1, x4_1, x1001_1, x1002_1, rfl, HA, HK1, HO_3, HI0, HK, HB⟩ := hrel
    cases gk with
    | zero => exact absurd HA.out (by simp [spec_l8Groups.l0])
    | succ k1 =>
      have H := HA.out
      clear HA
      simp only [spec_l8Groups.l0] at H
      by_cases c6 : x4_1 > 0
      · rw [if_pos c6] at H
        have c6b0 : decide (0 < x4_1) = true := decide_eq_true c6
        clear c6
        replace H := Option.bind_eq_some_iff.mp H
        obtain ⟨⟨t528, t531, t532⟩, A70, H⟩ := H
        replace H : ((spec_ReferenceGroups.f k1 t528).bind fun t533 => (if x3_1.length + t533.length < 3518437208883 then (spec_l8Groups.l0 k1 (x3_1 ++ t533) (wrap64 (x4_1 - 1)) s0_0 t531 t532) else (none))) = some (r1, r2, r3) := H
        have A7 := Aside0.mk A70
        clear A70
        replace H := Option.bind_eq_some_iff.mp H
        obtain ⟨t533, A80, H⟩ := H
        replace H : (if x3_1.length + t533.length < 3518437208883 then (spec_l8Groups.l0 k1 (x3_1 ++ t533) (wrap64 (x4_1 - 1)) s0_0 t531 t532) else (none)) = some (r1, r2, r3) := H
        have A8 := Aside0.mk A80
        clear A80
        by_cases c9 : x3_1.length + t533.length < 3518437208883
        · rw [if_pos c9] at H
          have LMc9 := Aside0.mk c9
          clear c9
          obtain ⟨y536, hy536⟩ : ∃ y_ : List (S60), y_ = (x3_1 ++ t533) := ⟨_, rfl⟩
          replace H : (spec_l8Groups.l0 k1 y536 (wrap64 (x4_1 - 1)) s0_0 t531 t532) = some (r1, r2, r3) := by first | (rw [hy536]; with_reducible exact H) | (have H2_ := (Option.bind_some _ _).symm.trans H; rw [hy536]; with_reducible exact H2_) | (have H2_ := (Option.bind_some _ _).symm.trans H; with_reducible exact H2_) | with_reducible exact H | (rw [hy536]; exact H) | exact H
          have Ny536 := Aside0.mk hy536
          clear hy536
          have H' := Aside0.mk H
          clear H
          go_wp2_with (first | ((with_reducible refine gate_callee (f := 146) rfl ?_); refine goesL_ (some 14) rfl rfl Try.func146 (by kernel_rfl) rfl #[.pointer (some ⟨g, 0, none⟩), .int .i64 3] rfl (by (try simp only [List.map_toArray, List.map_cons, List.map_nil]); first | done | rfl | (simp only [List.length_drop, List.length_take]; rfl)) ?_; (with_reducible refine (spec_l2Rows.calls k1 g s0_0 x1001_1 x1002_1 3 t528 t531 t532 w0 _ ?side1 ?side2 A7.out).mono ?_); (case side1 => repeat (first | (with_reducible first | exact HI0.out | apply IsS155.alloc | apply IsS155.drewN | apply IsS155.drew | apply IsS155.set_1 | apply IsS155.set_2) | exact HI0.out)); (case side2 => repeat (first | (with_reducible first | exact HB.out | apply below_alloc | apply pw_below_drewN | apply below_drew1 | refine below_set ?_ (IsS155.ge HI0.out)) | exact HB.out)); rintro e w10 ⟨v529, rfl, ho0, hi, hb, hk⟩; refine ⟨_, rfl, ?_⟩; have n0_ := Aside0.mk (Kd.R_mono (Kd.R_keep (IsS155.apart (show IsS155 w0 _ g s0_0 x1001_1 x1002_1 from by repeat (first | (with_reducible first | exact HI0.out | apply IsS155.alloc | apply IsS155.drewN | apply IsS155.drew | apply IsS155.set_1 | apply IsS155.set_2) | exact HI0.out)) (by (with_reducible repeat (first | apply Kd.R_alloc | apply Kd.R_drewN | apply Kd.R_drew)); exact HO_3.out) (by decide)) hk (fun _ h => h.2)) (fun _ h => h.1)); have n1_ := Aside0.mk (Kd.R_lower ho0 (keep_size (w := w) (g := g) (row := none) (by repeat (first | (with_reducible first | exact HK.out | apply KeepBut.set_ | apply keep_drewN | apply keep_drew | apply keep_alloc) | exact HK.out)))); have n2_ := Aside0.mk (KeepBut.trans (by repeat (first | (with_reducible first | exact HK.out | apply KeepBut.set_ | apply keep_drewN | apply keep_drew | apply keep_alloc) | exact HK.out)) hk (.inl rfl)); have n3_ := Aside0.mk (hb); have n4_ := Aside0.mk (hi); clear HO_3; clear HK; clear HB; clear HI0; have HO_3 := n0_; have HO530 := n1_; have HK := n2_; have HB := n3_; have HI0 := n4_; clear n0_ n1_ n2_ n3_ n4_; (try clear hb); (try clear hk); (try clear hi); (try clear ho0); obtain ⟨Ao11, co11, eo11⟩ := Kd.R_slice HO530.out; subst eo11) | ((with_reducible refine gate_callee (f := 67) rfl ?_); refine goesL_ (some 15) rfl rfl Try.func67 (by kernel_rfl) rfl #[.slice Ao11 t528.length co11] rfl (by (try simp only [List.map_toArray, List.map_cons, List.map_nil]); first | done | rfl | (simp only [List.length_drop, List.length_take]; rfl)) ?_; (with_reducible refine (spec_ReferenceGroups.calls k1 _ _ t528 t533 _ ?side1 ?side2 A8.out).mono ?_); (case side1 => repeat (first | exact (Kd.R_reads' HO530.out).2.2 | (with_reducible refine Kd.C_alloc ?_ _) | (with_reducible refine Kd.C_drewN ?_ _) | (with_reducible refine Kd.C_drew ?_))); (case side2 => exact (Kd.R_reads' HO530.out).2.1); rintro e w12 ⟨v534, rfl, ho0, hb⟩; refine ⟨_, rfl, ?_⟩; have n0_ := Aside0.mk (Kd.R_elder' (by (with_reducible repeat (first | apply Kd.R_alloc | apply Kd.R_drewN | apply Kd.R_drew)); exact HO_3.out) (Kd.R_base ho0) hb); have n1_ := Aside0.mk (Kd.R_below (by (with_reducible repeat (first | apply Kd.R_alloc | apply Kd.R_drewN | apply Kd.R_drew)); exact HO530.out) hb); have n2_ := Aside0.mk (Kd.R_lower (Kd.R_new' ho0 (Kd.R_lt (by (with_reducible repeat (first | apply Kd.R_alloc | apply Kd.R_drewN | apply Kd.R_drew)); exact HO_3.out))) (keep_size (w := w) (g := g) (row := none) (by repeat (first | (with_reducible first | exact HK.out | apply KeepBut.set_ | apply keep_drewN | apply keep_drew | apply keep_alloc) | exact HK.out)))); have n3_ := Aside0.mk (IsS155.below (by repeat (first | (with_reducible first | exact HI0.out | apply IsS155.alloc | apply IsS155.drewN | apply IsS155.drew | apply IsS155.set_1 | apply IsS155.set_2) | exact HI0.out)) hb); have n4_ := Aside0.mk (KeepBut.trans (by repeat (first | (with_reducible first | exact HK.out | apply KeepBut.set_ | apply keep_drewN | apply keep_drew | apply keep_alloc) | exact HK.out)) (KeepBut.of_below hb g none) (.inl rfl)); have n5_ := Aside0.mk (below_step (by repeat (first | (with_reducible first | exact HB.out | apply below_alloc | apply pw_below_drewN | apply below_drew1 | refine below_set ?_ (IsS155.ge HI0.out)) | exact HB.out)) hb); clear HO_3; clear HO530; clear HI0; clear HK; clear HB; have HO_3 := n0_; have HO530 := n1_; have HO535 := n2_; have HI0 := n3_; have HK := n4_; have HB := n5_; clear n0_ n1_ n2_ n3_ n4_ n5_; (try clear hb); (try clear hk); (try clear hi); (try clear ho0); obtain ⟨Ao14, co14, eo14⟩ := Kd.R_slice HO535.out; subst eo14) | ((with_reducible refine gate_builtin (b := .append) (xs := #[.tmp 16, .tmp 17]) rfl ?_); at_builtin; refine Kd.R_append_rows k60 w.heap.size rfl (.tmp 16) (.tmp 17) 34 60 (.agg #[(.int .i64 0), (.int .i64 0), (.int .i64 0), (.int .i64 0), (.int .i64 0)]) 40 rfl Try.underlying34 info60 rfl (by decide) (by omega) u3 x3_1 t533 _ _ _ (fun k_ => some k_ ≠ (.slice Ao14 t533.length co14 : Value).ownBlock) (fun _ => False) rfl rfl ?aO ?aR (fun _ _ h => h) (fun _ h => h.elim) ?aF (Below.refl _ _) ?aS ?aL ?_; (case aR => repeat (first | exact (Kd.R_reads' HO535.out).2.2 | (with_reducible refine Kd.C_alloc ?_ _) | (with_reducible refine Kd.C_drewN ?_ _) | (with_reducible refine Kd.C_drew ?_))); (case aF => exact (fun k_ hk => Kd.fresh' (Kd.R_lt (by (with_reducible repeat (first | apply Kd.R_alloc | apply Kd.R_drewN | apply Kd.R_drew)); exact HO535.out)) k_ hk)); (case aO => exact (by (with_reducible repeat (first | apply Kd.R_alloc | apply Kd.R_drewN | apply Kd.R_drew)); exact Kd.R_mono HO_3.out (fun _ hk => hk.2))); (case aS => exact (keep_size (w := w) (g := g) (row := none) (by repeat (first | (with_reducible first | exact HK.out | apply KeepBut.set_ | apply keep_drewN | apply keep_drew | apply keep_alloc) | exact HK.out)))); (case aL => have := LMc9.out; omega); intro v537 w13 ho hb hg hat; rw [← Ny536.out] at ho; have n0_ := Aside0.mk (IsS155.grown (by repeat (first | (with_reducible first | exact HI0.out | apply IsS155.alloc | apply IsS155.drewN | apply IsS155.drew | apply IsS155.set_1 | apply IsS155.set_2) | exact HI0.out)) hg (IsS155.own_ne HI0.out HO_3.out (by decide))); have n1_ := Aside0.mk (Kd.R_over' (by (with_reducible repeat (first | apply Kd.R_alloc | apply Kd.R_drewN | apply Kd.R_drew)); exact HO530.out) (Kd.R_typed (by (with_reducible repeat (first | apply Kd.R_alloc | apply Kd.R_drewN | apply Kd.R_drew)); exact HO_3.out)) (by decide) hg); have n2_ := Aside0.mk (Kd.R_after (ok := (fun _ => True)) (by (with_reducible repeat (first | apply Kd.R_alloc | apply Kd.R_drewN | apply Kd.R_drew)); exact HO535.out) hg hat); have n3_ := Aside0.mk (below_weaken (by repeat (first | (with_reducible first | exact HB.out | apply below_alloc | apply pw_below_drewN | apply below_drew1 | refine below_set ?_ (IsS155.ge HI0.out)) | exact HB.out)) HL.out hb); have n4_ := Aside0.mk (KeepBut.trans (by repeat (first | (with_reducible first | exact HK.out | apply KeepBut.set_ | apply keep_drewN | apply keep_drew | apply keep_alloc) | exact HK.out)) (KeepBut.of_grown hg g) (Kd.R_base2 HO_3.out)); have n5_ := Aside0.mk (ho); clear HI0; clear HO530; clear HO535; clear HB; clear HK; clear HO_3; have HI0 := n0_; have HO530 := n1_; have HO535 := n2_; have HB := n3_; have HK := n4_; have HO538 := n5_; clear n0_ n1_ n2_ n3_ n4_ n5_; clear ho hb hg hat))
          go_roundg k1
          case measure => have := HK1.out; omega
          case rel => exact ⟨(y536), (wrap64 (x4_1 - 1)), (t531), (t532), (by first | rfl | (simp; done) | (simp [*]; done) | (simp; exact isE_ _)), H', ⟨by have := HK1.out; omega⟩, ⟨by (with_reducible repeat (first | apply Kd.R_alloc | apply Kd.R_drewN | apply Kd.R_drew)); exact Kd.R_mono HO538.out (fun _ hk => trivial)⟩, ⟨by repeat (first | (with_reducible first | exact HI0.out | apply IsS155.alloc | apply IsS155.drewN | apply IsS155.drew | apply IsS155.set_1 | apply IsS155.set_2) | exact HI0.out)⟩, ⟨by repeat (first | (with_reducible first | exact HK.out | apply KeepBut.set_ | apply keep_drewN | apply keep_drew | apply keep_alloc) | exact HK.out)⟩, ⟨by repeat (first | (with_reducible first | exact HB.out | apply below_alloc | apply pw_below_drewN | apply below_drew1 | refine below_set ?_ (IsS155.ge HI0.out)) | exact HB.out)⟩⟩
        · rw [if_neg c9] at H
          exact absurd H (by simp)
      · rw [if_neg c6] at H
        have c6b0 : decide (0 < x4_1) = false := decide_eq_false c6
        clear c6
        simp only [Option.some.injEq, Prod.mk.injEq] at H
        obtain ⟨rfl, rfl, rfl⟩ := H
        go_wp2
        go_ret
        exact ⟨_, by first | rfl | (simp [errW_none, errW_some] <;> rfl) | (simp [*, errW_none, errW_some] <;> rfl), by (with_reducible repeat (first | apply Kd.R_alloc | apply Kd.R_drewN | apply Kd.R_drew)); exact HO_3.out, by repeat (first | (with_reducible first | exact HI0.out | apply IsS155.alloc | apply IsS155.drewN | apply IsS155.drew | apply IsS155.set_1 | apply IsS155.set_2) | exact HI0.out), by repeat (first | (with_reducible first | exact HB.out | apply below_alloc | apply pw_below_drewN | apply below_drew1 | refine below_set ?_ (IsS155.ge HI0.out)) | exact HB.out), by repeat (first | (with_reducible first | exact HK.out | apply KeepBut.set_ | apply keep_drewN | apply keep_drew | apply keep_alloc) | exact HK.out)⟩

def spec_DrawRollupGroups.f (k : Nat) (l0 : List Int) : Option ((List (S60))) := (spec_l1New.f k l0).bind fun bt539 => ((spec_l8Groups.f k bt539.1 bt539.2.1 bt539.2.2).bind fun bt543 => (some bt543.1))
theorem spec_DrawRollupGroups.calls (k : Nat) (A0 : Option Addr) (c0 : Nat) (l0 : List Int) (r : List (S60)) (w : World) (hr0 : Kd.C (Kd.int .u8) w A0 l0.length l0) (hc0 : l0.length ≤ c0) (h : spec_DrawRollupGroups.f k l0 = some r) :
    Calls Try.prog 36 #[.slice A0 l0.length c0] w fun e w' => ∃ v0_ : Value, e = .returned (v0_) ∧ Kd.R k60 60 w' w.heap.size (fun _ => True) v0_ r ∧ Below w.heap.size w w' := by
  have HR0 := Aside0.mk hr0
  have HC0 := Aside0.mk hc0
  clear hr0 hc0
  have HB := Aside0.mk (Below.refl w.heap.size w)
  have H : ((spec_l1New.f k l0).bind fun bt539 => ((spec_l8Groups.f k bt539.1 bt539.2.1 bt539.2.2).bind fun bt543 => (some bt543.1))) = some r := h
  clear h
  replace H := Option.bind_eq_some_iff.mp H
  obtain ⟨⟨t539, t540, t541⟩, A20, H⟩ := H
  replace H : ((spec_l8Groups.f k t539 t540 t541).bind fun bt543 => (some bt543.1)) = some r := H
  have A2 := Aside0.mk A20
  clear A20
  replace H := Option.bind_eq_some_iff.mp H
  obtain ⟨⟨t543, t546, t547⟩, A30, H⟩ := H
  replace H : (some t543) = some r := H
  have A3 := Aside0.mk A30
  clear A30
  obtain rfl := Option.some.inj H
  go_enter Try.func36, Try.ntmps36
  go_wp2_with (first | ((with_reducible refine gate_callee (f := 100) rfl ?_); refine goesL_ (some 4) rfl rfl Try.func100 (by kernel_rfl) rfl #[.slice A0 l0.length c0] rfl (by (try simp only [List.map_toArray, List.map_cons, List.map_nil]); first | done | rfl | (simp only [List.length_drop, List.length_take]; rfl)) ?_; (with_reducible refine (spec_l1New.calls k _ _ l0 t539 t540 t541 w _ ?side1 ?side2 ?side3 A2.out).mono ?_); (case side1 => repeat (first | (with_reducible first | exact HB.out | apply below_alloc | apply pw_below_drewN | apply below_drew1) | exact HB.out)); (case side2 => exact HR0.out); (case side3 => exact HC0.out); rintro e w4 ⟨g542, rfl, hi, hb, hb2⟩; refine ⟨_, rfl, ?_⟩; have n0_ := Aside0.mk (hb); have n1_ := Aside0.mk (hi); clear HB; have HB := n0_; have HI542 := n1_; clear n0_ n1_; (try clear hb); (try clear hb2); (try clear hk); (try clear hi)) | ((with_reducible refine gate_callee (f := 103) rfl ?_); refine goesL_ (some 5) rfl rfl Try.func103 (by kernel_rfl) rfl #[.pointer (some ⟨g542, 0, none⟩)] rfl (by (try simp only [List.map_toArray, List.map_cons, List.map_nil]); first | done | rfl | (simp only [List.length_drop, List.length_take]; rfl)) ?_; (with_reducible refine (spec_l8Groups.calls k g542 t539 t540 t541 t543 t546 t547 w _ ?side1 ?side2 A3.out).mono ?_); (case side1 => repeat (first | (with_reducible first | exact HI542.out | apply IsS155.alloc | apply IsS155.drewN | apply IsS155.drew | apply IsS155.set_1 | apply IsS155.set_2) | exact HI542.out)); (case side2 => repeat (first | (with_reducible first | exact HB.out | apply below_alloc | apply pw_below_drewN | apply below_drew1 | refine below_set ?_ (IsS155.ge HI542.out)) | exact HB.out)); rintro e w5 ⟨v544, rfl, ho0, hi, hb, hk⟩; refine ⟨_, rfl, ?_⟩; have n0_ := Aside0.mk (Kd.R_lower ho0 (below_size (by repeat (first | (with_reducible first | exact HB.out | apply below_alloc | apply pw_below_drewN | apply below_drew1 | refine below_set ?_ (IsS155.ge HI542.out)) | exact HB.out)))); have n1_ := Aside0.mk (hb); have n2_ := Aside0.mk (hi); clear HB; clear HI542; have HO545 := n0_; have HB := n1_; have HI542 := n2_; clear n0_ n1_ n2_; (try clear hb); (try clear hb2); (try clear hk); (try clear hi); (try clear ho0)))
  go_ret
  exact ⟨_, by first | rfl | (simp [errW_none, errW_some] <;> rfl) | (simp [*, errW_none, errW_some] <;> rfl), by (with_reducible repeat (first | apply Kd.R_alloc | apply Kd.R_drewN | apply Kd.R_drew)); exact HO545.out, by repeat (first | (with_reducible first | exact HB.out | apply below_alloc | apply pw_below_drewN | apply below_drew1 | refine below_set ?_ (IsS155.ge HI542.out)) | exact HB.out)⟩

def impl_decimal.f : Nat → Int → Option (ByteArray)
  | 0, _ => none
  | k + 1, a0 => if a0 < 10 then (some (strOfNums (([(IntKind.u64.wrap (48 + a0)) % 256] : List Int)))) else ((impl_decimal.f k (IntKind.u64.wrap (Int.tdiv a0 10))).bind fun t551 => ((some (([(IntKind.u64.wrap (48 + (Int.tmod a0 10))) % 256] : List Int) : List Int)).bind fun y552 => (if t551.size + (strOfNums y552).size ≤ 9223372036854775807 then (some (t551 ++ (strOfNums y552))) else (none))))
def impl_decimal.T3 : Bool × List (List Nat × List Nat) := (true, [([], []), ([0], [0]), ([1], [1]), ([], []), ([3], [3]), ([4], [4]), ([5], [5]), ([6], [6]), ([7], [7]), ([2, 8], [2, 8]), ([9, 2, 0, 1, 2, 3, 4, 5, 6, 7, 8, 9], [9])])
def impl_decimal.B3 : List Nat := [0, 1, 3, 0, 8, 24, 56, 120, 248, 511, 1023]
theorem impl_decimal.tab3 : rtab .any (opsOf Try.f149 3) = impl_decimal.T3 := by kernel_rfl
theorem impl_decimal.bits3 : waitsOk impl_decimal.T3.2 impl_decimal.B3 = true := by kernel_rfl
theorem impl_decimal.calls (k : Nat) : ∀ (a0 : Int) (r : ByteArray) (w : World) (h : impl_decimal.f k a0 = some r),
    Calls Try.prog 149 #[.int .u64 a0] w fun e w' => e = .returned (.string r) ∧ Below w.heap.size w w' := by
  induction k using Nat.strongRecOn with
  | _ k ih =>
  intro a0 r w h
  cases k with
  | zero => exact absurd h (by simp [impl_decimal.f])
  | succ k =>
  simp only [impl_decimal.f] at h
  have HB := Aside0.mk (Below.refl w.heap.size w)
  have H : (if a0 < 10 then (some (strOfNums (([(IntKind.u64.wrap (48 + a0)) % 256] : List Int)))) else ((impl_decimal.f k (IntKind.u64.wrap (Int.tdiv a0 10))).bind fun t551 => ((some (([(IntKind.u64.wrap (48 + (Int.tmod a0 10))) % 256] : List Int) : List Int)).bind fun y552 => (if t551.size + (strOfNums y552).size ≤ 9223372036854775807 then (some (t551 ++ (strOfNums y552))) else (none))))) = some r := h
  clear h
  by_cases c2 : a0 < 10
  · rw [if_pos c2] at H
    have c2b0 : decide (a0 < 10) = true := decide_eq_true c2
    clear c2
    obtain ⟨y548, hy548⟩ : ∃ y_ : List Int, y_ = (([(IntKind.u64.wrap (48 + a0)) % 256] : List Int)) := ⟨_, rfl⟩
    replace H : (some (strOfNums y548)) = some r := by first | (rw [hy548]; with_reducible exact H) | (have H2_ := (Option.bind_some _ _).symm.trans H; rw [hy548]; with_reducible exact H2_) | (have H2_ := (Option.bind_some _ _).symm.trans H; with_reducible exact H2_) | with_reducible exact H | (rw [hy548]; exact H) | exact H
    have Ny548 := Aside0.mk hy548
    clear hy548
    obtain rfl := Option.some.inj H
    go_enter Try.func149, Try.ntmps149
    go_wp2_with (first | ((with_reducible refine gate_dst (N := 8) rfl ?_); refine Kd.R_lit (Kd.int .u8) _ 5 ?hg (N := 8) ?hd (xs := ([(IntKind.u64.wrap (48 + a0)) % 256] : List Int)) (inner := [.int .u8 ((IntKind.u64.wrap (48 + a0)) % 256)]) (ok := fun _ => True) (okp := fun _ => True) ?hr ?hp (fun _ hk => hk) trivial (Below.refl _ _) (Nat.le_refl _) (by simp) ?_; (case hd => rfl); (case hg => rfl); (case hr => first | (go_simp; done) | (go_simp; rfl)); (case hp => exact (Reps.one (show Kd.M (Kd.int .u8) _ _ _ ((IntKind.u64.wrap (48 + a0)) % 256) [.int .u8 ((IntKind.u64.wrap (48 + a0)) % 256)] from rfl) (Reps.none _ _))); intro v549 w3 ho4 hb hg_ hnew_; clear hg_ hnew_; (first | rw [← Ny548.out] at ho4 | (simp only [Int.reduceToNat] at ho4; rw [← Ny548.out] at ho4)); have n0_ := Aside0.mk (Kd.R_lower ho4 (below_size (by repeat (first | (with_reducible first | exact HB.out | apply below_alloc | apply pw_below_drewN | apply below_drew1) | exact HB.out)))); have n1_ := Aside0.mk (below_step (by repeat (first | (with_reducible first | exact HB.out | apply below_alloc | apply pw_below_drewN | apply below_drew1) | exact HB.out)) hb); clear HB; have HO550 := n0_; have HB := n1_; clear n0_ n1_; clear hb ho4; have hcv5 := own_string (P := Try.prog) Try.underlying49 Try.underlying5 Try.underlying9 (Kd.own_of_R HO550.out)))
    go_ret
    exact ⟨by first | rfl | (simp [errW_none, errW_some] <;> rfl) | (simp [*, errW_none, errW_some] <;> rfl), by repeat (first | (with_reducible first | exact HB.out | apply below_alloc | apply pw_below_drewN | apply below_drew1) | exact HB.out)⟩
  · rw [if_neg c2] at H
    have c2b0 : decide (a0 < 10) = false := decide_eq_false c2
    clear c2
    replace H := Option.bind_eq_some_iff.mp H
    obtain ⟨t551, A60, H⟩ := H
    replace H : ((some (([(IntKind.u64.wrap (48 + (Int.tmod a0 10))) % 256] : List Int) : List Int)).bind fun y552 => (if t551.size + (strOfNums y552).size ≤ 9223372036854775807 then (some (t551 ++ (strOfNums y552))) else (none))) = some r := H
    have A6 := Aside0.mk A60
    clear A60
    obtain ⟨y552, hy552⟩ : ∃ y_ : List Int, y_ = (([(IntKind.u64.wrap (48 + (Int.tmod a0 10))) % 256] : List Int)) := ⟨_, rfl⟩
    replace H : (if t551.size + (strOfNums y552).size ≤ 9223372036854775807 then (some (t551 ++ (strOfNums y552))) else (none)) = some r := by first | (rw [hy552]; with_reducible exact H) | (have H2_ := (Option.bind_some _ _).symm.trans H; rw [hy552]; with_reducible exact H2_) | (have H2_ := (Option.bind_some _ _).symm.trans H; with_reducible exact H2_) | with_reducible exact H | (rw [hy552]; exact H) | exact H
    have Ny552 := Aside0.mk hy552
    clear hy552
    by_cases c7 : t551.size + (strOfNums y552).size ≤ 9223372036854775807
    · rw [if_pos c7] at H
      have c7b0 := eq_true c7
      have c7b1 : decide (t551.size + (strOfNums y552).size ≤ 9223372036854775807) = true := decide_eq_true c7
      try have c7b2 : (9223372036854775807 < t551.size + (strOfNums y552).size) = False := eq_false (Nat.not_lt.2 c7)
      obtain rfl := Option.some.inj H
      go_enter Try.func149, Try.ntmps149
      try go_wp2
      have n0_ := Aside0.mk (below_drew1 HB.out)
      clear HB
      have HB := n0_
      clear n0_
      refine start_ (n := 11) (S := fun w' => True) (ds := []) #[false, false, false, false, false, false, false, false, false, false, false] (by kernel_rfl) rfl rfl trivial (fun hHeld => ?_); refine with_tabW impl_decimal.tab3 impl_decimal.bits3 (fun HT_ HW_ => ?_)
      generalize w.drew = w8 at HB hHeld ⊢
      refine pure_ (i := 0) (N := some 10) (v := ?_) (a' := ?_) #[true, false, false, false, false, false, false, false, false, false, false] rfl rfl (any_of HT_.out (by kernel_rfl)) (fun _ _ _ h => h) (Or.inl ⟨by rfl, ?_⟩) ?_ ?_
      rotate_left
      · intro w'
        go_simp
        with_reducible rfl
      rotate_left
      · simp only [Act.put, List.setIfInBounds_toArray, List.set_cons_zero, List.set_cons_succ, i64_w, i32_w]
        rfl
      refine pure_ (i := 1) (N := some 11) (v := ?_) (a' := ?_) #[true, true, false, false, false, false, false, false, false, false, false] rfl rfl (any_of HT_.out (by kernel_rfl)) (fun _ _ _ h => h) (Or.inl ⟨by rfl, ?_⟩) ?_ ?_
      rotate_left
      · intro w'
        go_simp
        with_reducible rfl
      rotate_left
      · simp only [Act.put, List.setIfInBounds_toArray, List.set_cons_zero, List.set_cons_succ, i64_w, i32_w]
        rfl
      refine pure_ (i := 3) (N := some 13) (v := ?_) (a' := ?_) #[true, true, false, true, false, false, false, false, false, false, false] rfl rfl (any_of HT_.out (by kernel_rfl)) (fun _ _ _ h => h) (Or.inl ⟨by rfl, ?_⟩) ?_ ?_
      rotate_left
      · intro w'
        go_simp
        with_reducible rfl
      rotate_left
      · simp only [Act.put, List.setIfInBounds_toArray, List.set_cons_zero, List.set_cons_succ, i64_w, i32_w]
        rfl
      refine pure_ (i := 4) (N := some 14) (v := ?_) (a' := ?_) #[true, true, false, true, true, false, false, false, false, false, false] rfl rfl (any_of HT_.out (by kernel_rfl)) (fun _ _ _ h => h) (Or.inl ⟨by rfl, ?_⟩) ?_ ?_
      rotate_left
      · intro w'
        go_simp
        with_reducible rfl
      rotate_left
      · simp only [Act.put, List.setIfInBounds_toArray, List.set_cons_zero, List.set_cons_succ, i64_w, i32_w]
        rfl
      refine pure_ (i := 5) (N := some 15) (v := ?_) (a' := ?_) #[true, true, false, true, true, true, false, false, false, false, false] rfl rfl (any_of HT_.out (by kernel_rfl)) (fun _ _ _ h => h) (Or.inl ⟨by rfl, ?_⟩) ?_ ?_
      rotate_left
      · intro w'
        go_simp
        with_reducible rfl
      rotate_left
      · simp only [Act.put, List.setIfInBounds_toArray, List.set_cons_zero, List.set_cons_succ, i64_w, i32_w]
        rfl
      refine pure_ (i := 6) (N := some 16) (v := ?_) (a' := ?_) #[true, true, false, true, true, true, true, false, false, false, false] rfl rfl (any_of HT_.out (by kernel_rfl)) (fun _ _ _ h => h) (Or.inl ⟨by rfl, ?_⟩) ?_ ?_
      rotate_left
      · intro w'
        go_simp
        with_reducible rfl
      rotate_left
      · simp only [Act.put, List.setIfInBounds_toArray, List.set_cons_zero, List.set_cons_succ, i64_w, i32_w]
        rfl
      refine join_ (σ := Value) 2 #[true, true, true, true, true, true, true, true, true, false, false] (fun s_ => [(12, .string t551), (17, s_), (18, .string (strOfNums y552))]) (fun s_ w' => (Kd.R (Kd.int .u8) 5 w' w.heap.size (fun _ => True) s_ y552) ∧ (Below w.heap.size w w')) ?_ ?_
      rotate_left
      · intro hCont
        refine two_ (i := 2) (j := 7) (Ni := some 12) (Nj := some 17) #[true, true, true, true, true, true, true, false, false, false, false] #[true, true, false, true, true, true, true, true, false, false, false] rfl rfl rfl rfl (two_of HT_.out (by kernel_rfl)) (by decide) (by decide) (fun K hK => ?_) (fun K hK => ?_)
        · skip
          refine goes_ Try.func149 (by kernel_rfl) rfl #[.int .u64 (IntKind.u64.wrap (Int.tdiv a0 10))] (by rfl) rfl rfl (by (try simp only [List.map_toArray, List.map_cons, List.map_nil]); first | done | rfl | (simp only [List.length_drop, List.length_take]; rfl)) ?_
          with_reducible refine (ih k (by omega) (IntKind.u64.wrap (Int.tdiv a0 10)) t551 _ A6.out).mono ?_
          rintro e w9 ⟨rfl, hb⟩
          refine ⟨_, rfl, ?_⟩
          have n0_ := Aside0.mk (below_step (by repeat (first | (with_reducible first | exact HB.out | apply below_alloc | apply pw_below_drewN | apply below_drew1) | exact HB.out)) hb)
          clear HB
          have HB := n0_
          clear n0_
          (try clear hb)
          (try clear hb2)
          (try clear hk)
          (try clear hi)
          refine hK.out _ _ trivial (fun hHeld => ?_)
          clear hK K
          refine norm_ (a' := ?_) ?_ ?_
          rotate_left
          · show Act.put _ (some 12) _ = _
            simp only [Act.put, List.setIfInBounds_toArray, List.set_cons_zero, List.set_cons_succ, i64_w, i32_w]
            rfl
          refine one_ (i := 7) (N := some 17) #[true, true, true, true, true, true, true, true, false, false, false] rfl rfl (one_of HT_.out (by kernel_rfl)) (by decide) (fun K hK => ?_)
          refine Kd.R_lit_step (Kd.int .u8) _ 5 ?hg (N := 17) ?hd (xs := ([(IntKind.u64.wrap (48 + (Int.tmod a0 10))) % 256] : List Int)) (inner := [.int .u8 ((IntKind.u64.wrap (48 + (Int.tmod a0 10))) % 256)]) (ok := fun _ => True) (okp := fun _ => True) ?hr ?hp (fun _ hk => hk) trivial (Below.refl _ _) (Nat.le_refl _) (by simp) ?_; (case hd => rfl); (case hg => rfl); (case hr => first | (go_simp; done) | (go_simp; rfl)); (case hp => exact (Reps.one (show Kd.M (Kd.int .u8) _ _ _ ((IntKind.u64.wrap (48 + (Int.tmod a0 10))) % 256) [.int .u8 ((IntKind.u64.wrap (48 + (Int.tmod a0 10))) % 256)] from rfl) (Reps.none _ _)))
          intro v553 w10 ho11 hb hg_ hnew_
          clear hg_ hnew_
          (first | rw [← Ny552.out] at ho11 | (simp only [Int.reduceToNat] at ho11; rw [← Ny552.out] at ho11))
          have n0_ := Aside0.mk (Kd.R_lower ho11 (below_size (by repeat (first | (with_reducible first | exact HB.out | apply below_alloc | apply pw_below_drewN | apply below_drew1) | exact HB.out))))
          have n1_ := Aside0.mk (below_step (by repeat (first | (with_reducible first | exact HB.out | apply below_alloc | apply pw_below_drewN | apply below_drew1) | exact HB.out)) hb)
          clear HB
          have HO554 := n0_
          have HB := n1_
          clear n0_ n1_
          clear hb ho11
          refine hK.out _ _ trivial (fun hHeld => ?_)
          clear hK K
          refine norm_ (a' := ?_) ?_ ?_
          rotate_left
          · show Act.put _ (some 17) _ = _
            simp only [Act.put, List.setIfInBounds_toArray, List.set_cons_zero, List.set_cons_succ, i64_w, i32_w]
            rfl
          refine one_ (i := 8) (N := some 18) #[true, true, true, true, true, true, true, true, true, false, false] rfl rfl (one_of HT_.out (by kernel_rfl)) (by decide) (fun K hK => ?_)
          have hcv12 := own_string (P := Try.prog) Try.underlying49 Try.underlying5 Try.underlying9 (Kd.own_of_R HO554.out)
          refine value_ (w1 := ?_) (v := ?_) (by rfl) rfl ?_ ?_
          rotate_left 2
          · go_simp
            constructor
            · rfl
            · rfl
          clear hcv12
          refine hK.out _ _ trivial (fun hHeld => ?_)
          clear hK K
          refine norm_ (a' := ?_) ?_ ?_
          rotate_left
          · show Act.put _ (some 18) _ = _
            simp only [Act.put, List.setIfInBounds_toArray, List.set_cons_zero, List.set_cons_succ, i64_w, i32_w]
            rfl
          exact norm_ (by simp only [putAll, Act.put, List.setIfInBounds_toArray, List.set_cons_zero, List.set_cons_succ]) (hCont (v553) _ ⟨(by (with_reducible repeat (first | apply Kd.R_alloc | apply Kd.R_drewN | apply Kd.R_drew)); exact HO554.out), (by repeat (first | (with_reducible first | exact HB.out | apply below_alloc | apply pw_below_drewN | apply below_drew1) | exact HB.out))⟩)
        · skip
          refine Kd.R_lit_step (Kd.int .u8) _ 5 ?hg (N := 17) ?hd (xs := ([(IntKind.u64.wrap (48 + (Int.tmod a0 10))) % 256] : List Int)) (inner := [.int .u8 ((IntKind.u64.wrap (48 + (Int.tmod a0 10))) % 256)]) (ok := fun _ => True) (okp := fun _ => True) ?hr ?hp (fun _ hk => hk) trivial (Below.refl _ _) (Nat.le_refl _) (by simp) ?_; (case hd => rfl); (case hg => rfl); (case hr => first | (go_simp; done) | (go_simp; rfl)); (case hp => exact (Reps.one (show Kd.M (Kd.int .u8) _ _ _ ((IntKind.u64.wrap (48 + (Int.tmod a0 10))) % 256) [.int .u8 ((IntKind.u64.wrap (48 + (Int.tmod a0 10))) % 256)] from rfl) (Reps.none _ _)))
          intro v553 w9 ho10 hb hg_ hnew_
          clear hg_ hnew_
          (first | rw [← Ny552.out] at ho10 | (simp only [Int.reduceToNat] at ho10; rw [← Ny552.out] at ho10))
          have n0_ := Aside0.mk (Kd.R_lower ho10 (below_size (by repeat (first | (with_reducible first | exact HB.out | apply below_alloc | apply pw_below_drewN | apply below_drew1) | exact HB.out))))
          have n1_ := Aside0.mk (below_step (by repeat (first | (with_reducible first | exact HB.out | apply below_alloc | apply pw_below_drewN | apply below_drew1) | exact HB.out)) hb)
          clear HB
          have HO554 := n0_
          have HB := n1_
          clear n0_ n1_
          clear hb ho10
          refine hK.out _ _ trivial (fun hHeld => ?_)
          clear hK K
          refine norm_ (a' := ?_) ?_ ?_
          rotate_left
          · show Act.put _ (some 17) _ = _
            simp only [Act.put, List.setIfInBounds_toArray, List.set_cons_zero, List.set_cons_succ, i64_w, i32_w]
            rfl
          refine two_ (i := 2) (j := 8) (Ni := some 12) (Nj := some 18) #[true, true, true, true, true, true, true, true, false, false, false] #[true, true, false, true, true, true, true, true, true, false, false] rfl rfl rfl rfl (two_of HT_.out (by kernel_rfl)) (by decide) (by decide) (fun K hK => ?_) (fun K hK => ?_)
          · skip
            refine goes_ Try.func149 (by kernel_rfl) rfl #[.int .u64 (IntKind.u64.wrap (Int.tdiv a0 10))] (by rfl) rfl rfl (by (try simp only [List.map_toArray, List.map_cons, List.map_nil]); first | done | rfl | (simp only [List.length_drop, List.length_take]; rfl)) ?_
            with_reducible refine (ih k (by omega) (IntKind.u64.wrap (Int.tdiv a0 10)) t551 _ A6.out).mono ?_
            rintro e w11 ⟨rfl, hb⟩
            refine ⟨_, rfl, ?_⟩
            have n0_ := Aside0.mk (Kd.R_below (by (with_reducible repeat (first | apply Kd.R_alloc | apply Kd.R_drewN | apply Kd.R_drew)); exact HO554.out) hb)
            have n1_ := Aside0.mk (below_step (by repeat (first | (with_reducible first | exact HB.out | apply below_alloc | apply pw_below_drewN | apply below_drew1) | exact HB.out)) hb)
            clear HO554
            clear HB
            have HO554 := n0_
            have HB := n1_
            clear n0_ n1_
            (try clear hb)
            (try clear hb2)
            (try clear hk)
            (try clear hi)
            refine hK.out _ _ trivial (fun hHeld => ?_)
            clear hK K
            refine norm_ (a' := ?_) ?_ ?_
            rotate_left
            · show Act.put _ (some 12) _ = _
              simp only [Act.put, List.setIfInBounds_toArray, List.set_cons_zero, List.set_cons_succ, i64_w, i32_w]
              rfl
            refine one_ (i := 8) (N := some 18) #[true, true, true, true, true, true, true, true, true, false, false] rfl rfl (one_of HT_.out (by kernel_rfl)) (by decide) (fun K hK => ?_)
            have hcv12 := own_string (P := Try.prog) Try.underlying49 Try.underlying5 Try.underlying9 (Kd.own_of_R HO554.out)
            refine value_ (w1 := ?_) (v := ?_) (by rfl) rfl ?_ ?_
            rotate_left 2
            · go_simp
              constructor
              · rfl
              · rfl
            clear hcv12
            refine hK.out _ _ trivial (fun hHeld => ?_)
            clear hK K
            refine norm_ (a' := ?_) ?_ ?_
            rotate_left
            · show Act.put _ (some 18) _ = _
              simp only [Act.put, List.setIfInBounds_toArray, List.set_cons_zero, List.set_cons_succ, i64_w, i32_w]
              rfl
            exact norm_ (by simp only [putAll, Act.put, List.setIfInBounds_toArray, List.set_cons_zero, List.set_cons_succ]) (hCont (v553) _ ⟨(by (with_reducible repeat (first | apply Kd.R_alloc | apply Kd.R_drewN | apply Kd.R_drew)); exact HO554.out), (by repeat (first | (with_reducible first | exact HB.out | apply below_alloc | apply pw_below_drewN | apply below_drew1) | exact HB.out))⟩)
          · skip
            have hcv11 := own_string (P := Try.prog) Try.underlying49 Try.underlying5 Try.underlying9 (Kd.own_of_R HO554.out)
            refine value_ (w1 := ?_) (v := ?_) (by rfl) rfl ?_ ?_
            rotate_left 2
            · go_simp
              constructor
              · rfl
              · rfl
            clear hcv11
            refine hK.out _ _ trivial (fun hHeld => ?_)
            clear hK K
            refine norm_ (a' := ?_) ?_ ?_
            rotate_left
            · show Act.put _ (some 18) _ = _
              simp only [Act.put, List.setIfInBounds_toArray, List.set_cons_zero, List.set_cons_succ, i64_w, i32_w]
              rfl
            refine one_ (i := 2) (N := some 12) #[true, true, true, true, true, true, true, true, true, false, false] rfl rfl (one_of HT_.out (by kernel_rfl)) (by decide) (fun K hK => ?_)
            refine goes_ Try.func149 (by kernel_rfl) rfl #[.int .u64 (IntKind.u64.wrap (Int.tdiv a0 10))] (by rfl) rfl rfl (by (try simp only [List.map_toArray, List.map_cons, List.map_nil]); first | done | rfl | (simp only [List.length_drop, List.length_take]; rfl)) ?_
            with_reducible refine (ih k (by omega) (IntKind.u64.wrap (Int.tdiv a0 10)) t551 _ A6.out).mono ?_
            rintro e w12 ⟨rfl, hb⟩
            refine ⟨_, rfl, ?_⟩
            have n0_ := Aside0.mk (Kd.R_below (by (with_reducible repeat (first | apply Kd.R_alloc | apply Kd.R_drewN | apply Kd.R_drew)); exact HO554.out) hb)
            have n1_ := Aside0.mk (below_step (by repeat (first | (with_reducible first | exact HB.out | apply below_alloc | apply pw_below_drewN | apply below_drew1) | exact HB.out)) hb)
            clear HO554
            clear HB
            have HO554 := n0_
            have HB := n1_
            clear n0_ n1_
            (try clear hb)
            (try clear hb2)
            (try clear hk)
            (try clear hi)
            refine hK.out _ _ trivial (fun hHeld => ?_)
            clear hK K
            refine norm_ (a' := ?_) ?_ ?_
            rotate_left
            · show Act.put _ (some 12) _ = _
              simp only [Act.put, List.setIfInBounds_toArray, List.set_cons_zero, List.set_cons_succ, i64_w, i32_w]
              rfl
            exact norm_ (by simp only [putAll, Act.put, List.setIfInBounds_toArray, List.set_cons_zero, List.set_cons_succ]) (hCont (v553) _ ⟨(by (with_reducible repeat (first | apply Kd.R_alloc | apply Kd.R_drewN | apply Kd.R_drew)); exact HO554.out), (by repeat (first | (with_reducible first | exact HB.out | apply below_alloc | apply pw_below_drewN | apply below_drew1) | exact HB.out))⟩)
      rintro v553 w13 ⟨h0_, h1_⟩
      have n0_ : Aside0 (Kd.R (Kd.int .u8) 5 w13 w.heap.size (fun _ => True) v553 y552) := ⟨h0_⟩
      have n1_ : Aside0 (Below w.heap.size w w13) := ⟨h1_⟩
      clear HB
      clear h0_ h1_
      have HO554 := n0_
      have HB := n1_
      clear n0_ n1_
      have hHeld := trivial
      refine norm_ (a' := ?_) ?_ ?_
      rotate_left
      · simp only [putAll, Act.put, List.setIfInBounds_toArray, List.set_cons_zero, List.set_cons_succ]
        rfl
      refine pure_ (i := 9) (N := some 19) (v := ?_) (a' := ?_) #[true, true, true, true, true, true, true, true, true, true, false] rfl rfl (any_of HT_.out (by kernel_rfl)) (fun _ _ _ h => h) (Or.inl ⟨by rfl, ?_⟩) ?_ ?_
      rotate_left
      · intro w'
        go_simp
        with_reducible rfl
      rotate_left
      · simp only [Act.put, List.setIfInBounds_toArray, List.set_cons_zero, List.set_cons_succ, i64_w, i32_w]
        rfl
      refine pure_ (i := 10) (N := some 2) (v := ?_) (a' := ?_) #[true, true, true, true, true, true, true, true, true, true, true] rfl rfl (any_of HT_.out (by kernel_rfl)) (fun _ _ _ h => h) (Or.inl ⟨by rfl, ?_⟩) ?_ ?_
      rotate_left
      · intro w'
        go_simp
        with_reducible rfl
      rotate_left
      · simp only [Act.put, List.setIfInBounds_toArray, List.set_cons_zero, List.set_cons_succ, i64_w, i32_w]
        rfl
      refine done_ (done_of HT_.out (by kernel_rfl)) ?_
      try go_wp2
      go_ret
      exact ⟨by first | rfl | (simp [errW_none, errW_some] <;> rfl) | (simp [*, errW_none, errW_some] <;> rfl), by repeat (first | (with_reducible first | exact HB.out | apply below_alloc | apply pw_below_drewN | apply below_drew1) | exact HB.out)⟩
    · rw [if_neg c7] at H
      exact absurd H (by simp)

def impl_FormatInt.f (k : Nat) (a0 : Int) : Option (ByteArray) := if a0 < 0 then ((impl_decimal.f k (IntKind.u64.wrap (-(IntKind.u64.wrap (a0))))).bind fun t555 => (if 1 + t555.size ≤ 9223372036854775807 then (some ((⟨#[45]⟩ : ByteArray) ++ t555)) else (none))) else ((impl_decimal.f k (IntKind.u64.wrap (a0))).bind fun t556 => (some t556))
theorem impl_FormatInt.calls (k : Nat) (a0 : Int) (r : ByteArray) (w : World) (h : impl_FormatInt.f k a0 = some r) :
    Calls Try.prog 104 #[.int .i64 a0] w fun e w' => e = .returned (.string r) ∧ Below w.heap.size w w' := by
  have HB := Aside0.mk (Below.refl w.heap.size w)
  have H : (if a0 < 0 then ((impl_decimal.f k (IntKind.u64.wrap (-(IntKind.u64.wrap (a0))))).bind fun t555 => (if 1 + t555.size ≤ 9223372036854775807 then (some ((⟨#[45]⟩ : ByteArray) ++ t555)) else (none))) else ((impl_decimal.f k (IntKind.u64.wrap (a0))).bind fun t556 => (some t556))) = some r := h
  clear h
  by_cases c2 : a0 < 0
  · rw [if_pos c2] at H
    have c2b0 : decide (a0 < 0) = true := decide_eq_true c2
    clear c2
    replace H := Option.bind_eq_some_iff.mp H
    obtain ⟨t555, A30, H⟩ := H
    replace H : (if 1 + t555.size ≤ 9223372036854775807 then (some ((⟨#[45]⟩ : ByteArray) ++ t555)) else (none)) = some r := H
    have A3 := Aside0.mk A30
    clear A30
    by_cases c4 : 1 + t555.size ≤ 9223372036854775807
    · rw [if_pos c4] at H
      have c4b0 := eq_true c4
      have c4b1 : decide (1 + t555.size ≤ 9223372036854775807) = true := decide_eq_true c4
      try have c4b2 : (9223372036854775807 < 1 + t555.size) = False := eq_false (Nat.not_lt.2 c4)
      obtain rfl := Option.some.inj H
      go_enter Try.func104, Try.ntmps104
      go_wp2_with (first | ((with_reducible refine gate_callee (f := 149) rfl ?_); refine goesL_ (some 8) rfl rfl Try.func149 (by kernel_rfl) rfl #[.int .u64 (IntKind.u64.wrap (-(IntKind.u64.wrap (a0))))] rfl (by (try simp only [List.map_toArray, List.map_cons, List.map_nil]); first | done | rfl | (simp only [List.length_drop, List.length_take]; rfl)) ?_; (with_reducible refine (impl_decimal.calls k (IntKind.u64.wrap (-(IntKind.u64.wrap (a0)))) t555 _ A3.out).mono ?_); rintro e w5 ⟨rfl, hb⟩; refine ⟨_, rfl, ?_⟩; have n0_ := Aside0.mk (below_step (by repeat (first | (with_reducible first | exact HB.out | apply below_alloc | apply pw_below_drewN | apply below_drew1) | exact HB.out)) hb); clear HB; have HB := n0_; clear n0_; (try clear hb)))
      go_ret
      exact ⟨by first | rfl | (simp [errW_none, errW_some] <;> rfl) | (simp [*, errW_none, errW_some] <;> rfl), by repeat (first | (with_reducible first | exact HB.out | apply below_alloc | apply pw_below_drewN | apply below_drew1) | exact HB.out)⟩
    · rw [if_neg c4] at H
      exact absurd H (by simp)
  · rw [if_neg c2] at H
    have c2b0 : decide (a0 < 0) = false := decide_eq_false c2
    clear c2
    replace H := Option.bind_eq_some_iff.mp H
    obtain ⟨t556, A60, H⟩ := H
    replace H : (some t556) = some r := H
    have A6 := Aside0.mk A60
    clear A60
    obtain rfl := Option.some.inj H
    go_enter Try.func104, Try.ntmps104
    go_wp2_with (first | ((with_reducible refine gate_callee (f := 149) rfl ?_); refine goesL_ (some 12) rfl rfl Try.func149 (by kernel_rfl) rfl #[.int .u64 (IntKind.u64.wrap (a0))] rfl (by (try simp only [List.map_toArray, List.map_cons, List.map_nil]); first | done | rfl | (simp only [List.length_drop, List.length_take]; rfl)) ?_; (with_reducible refine (impl_decimal.calls k (IntKind.u64.wrap (a0)) t556 _ A6.out).mono ?_); rintro e w7 ⟨rfl, hb⟩; refine ⟨_, rfl, ?_⟩; have n0_ := Aside0.mk (below_step (by repeat (first | (with_reducible first | exact HB.out | apply below_alloc | apply pw_below_drewN | apply below_drew1) | exact HB.out)) hb); clear HB; have HB := n0_; clear n0_; (try clear hb)))
    go_ret
    exact ⟨by first | rfl | (simp [errW_none, errW_some] <;> rfl) | (simp [*, errW_none, errW_some] <;> rfl), by repeat (first | (with_reducible first | exact HB.out | apply below_alloc | apply pw_below_drewN | apply below_drew1) | exact HB.out)⟩

def impl_groupText.f (k : Nat) (a0_0 : Int) (a0_1 : Int) (a0_2 : Int) (a0_3 : Int) (a0_4 : Int) : Option (ByteArray) := (impl_FormatInt.f k a0_0).bind fun t558 => (if t558.size + 1 ≤ 9223372036854775807 then ((impl_FormatInt.f k a0_1).bind fun t559 => (if (t558 ++ (⟨#[58]⟩ : ByteArray)).size + t559.size ≤ 9223372036854775807 then (if ((t558 ++ (⟨#[58]⟩ : ByteArray)) ++ t559).size + 1 ≤ 9223372036854775807 then ((impl_FormatInt.f k a0_2).bind fun t560 => (if (((t558 ++ (⟨#[58]⟩ : ByteArray)) ++ t559) ++ (⟨#[44]⟩ : ByteArray)).size + t560.size ≤ 9223372036854775807 then (if ((((t558 ++ (⟨#[58]⟩ : ByteArray)) ++ t559) ++ (⟨#[44]⟩ : ByteArray)) ++ t560).size + 1 ≤ 9223372036854775807 then ((impl_FormatInt.f k a0_3).bind fun t561 => (if (((((t558 ++ (⟨#[58]⟩ : ByteArray)) ++ t559) ++ (⟨#[44]⟩ : ByteArray)) ++ t560) ++ (⟨#[44]⟩ : ByteArray)).size + t561.size ≤ 9223372036854775807 then (if ((((((t558 ++ (⟨#[58]⟩ : ByteArray)) ++ t559) ++ (⟨#[44]⟩ : ByteArray)) ++ t560) ++ (⟨#[44]⟩ : ByteArray)) ++ t561).size + 1 ≤ 9223372036854775807 then ((impl_FormatInt.f k a0_4).bind fun t562 => (if (((((((t558 ++ (⟨#[58]⟩ : ByteArray)) ++ t559) ++ (⟨#[44]⟩ : ByteArray)) ++ t560) ++ (⟨#[44]⟩ : ByteArray)) ++ t561) ++ (⟨#[44]⟩ : ByteArray)).size + t562.size ≤ 9223372036854775807 then (some ((((((((t558 ++ (⟨#[58]⟩ : ByteArray)) ++ t559) ++ (⟨#[44]⟩ : ByteArray)) ++ t560) ++ (⟨#[44]⟩ : ByteArray)) ++ t561) ++ (⟨#[44]⟩ : ByteArray)) ++ t562)) else (none))) else (none)) else (none))) else (none)) else (none))) else (none)) else (none))) else (none))
def impl_groupText.T1 : Bool × List (List Nat × List Nat) := (true, [([], []), ([0], [0]), ([1], [1]), ([2], [2]), ([], []), ([4], [4]), ([5, 2], [5]), ([3, 6], [3, 6]), ([7], [7]), ([], []), ([9], [9]), ([10, 6], [10]), ([8, 11], [8, 11]), ([12], [12]), ([], []), ([14], [14]), ([15, 11], [15]), ([13, 16], [13, 16]), ([17], [17]), ([], []), ([19], [19]), ([20, 16], [20]), ([18, 21], [18, 21]), ([22, 21, 0, 1, 2, 3, 4, 5, 6, 7, 8, 9, 10, 11, 12, 13, 14, 15, 16, 17, 18, 19, 20, 21, 22], [22])])
def impl_groupText.B1 : List Nat := [0, 1, 3, 7, 0, 16, 55, 127, 255, 0, 512, 1655, 4095, 8191, 0, 16384, 52855, 131071, 262143, 0, 524288, 1691255, 4194303, 8388607]
theorem impl_groupText.tab1 : rtab .any (opsOf Try.f105 1) = impl_groupText.T1 := by kernel_rfl
theorem impl_groupText.bits1 : waitsOk impl_groupText.T1.2 impl_groupText.B1 = true := by kernel_rfl
theorem impl_groupText.calls (k : Nat) (a0_0 : Int) (a0_1 : Int) (a0_2 : Int) (a0_3 : Int) (a0_4 : Int) (r : ByteArray) (w : World) (h : impl_groupText.f k a0_0 a0_1 a0_2 a0_3 a0_4 = some r) :
    Calls Try.prog 105 #[.agg #[.int .i64 a0_0, .int .i64 a0_1, .int .i64 a0_2, .int .i64 a0_3, .int .i64 a0_4]] w fun e w' => e = .returned (.string r) ∧ Below w.heap.size w w' := by
  have hu60 := Try.underlying60
  have HB := Aside0.mk (Below.refl w.heap.size w)
  have H : ((impl_FormatInt.f k a0_0).bind fun t558 => (if t558.size + 1 ≤ 9223372036854775807 then ((impl_FormatInt.f k a0_1).bind fun t559 => (if (t558 ++ (⟨#[58]⟩ : ByteArray)).size + t559.size ≤ 9223372036854775807 then (if ((t558 ++ (⟨#[58]⟩ : ByteArray)) ++ t559).size + 1 ≤ 9223372036854775807 then ((impl_FormatInt.f k a0_2).bind fun t560 => (if (((t558 ++ (⟨#[58]⟩ : ByteArray)) ++ t559) ++ (⟨#[44]⟩ : ByteArray)).size + t560.size ≤ 9223372036854775807 then (if ((((t558 ++ (⟨#[58]⟩ : ByteArray)) ++ t559) ++ (⟨#[44]⟩ : ByteArray)) ++ t560).size + 1 ≤ 9223372036854775807 then ((impl_FormatInt.f k a0_3).bind fun t561 => (if (((((t558 ++ (⟨#[58]⟩ : ByteArray)) ++ t559) ++ (⟨#[44]⟩ : ByteArray)) ++ t560) ++ (⟨#[44]⟩ : ByteArray)).size + t561.size ≤ 9223372036854775807 then (if ((((((t558 ++ (⟨#[58]⟩ : ByteArray)) ++ t559) ++ (⟨#[44]⟩ : ByteArray)) ++ t560) ++ (⟨#[44]⟩ : ByteArray)) ++ t561).size + 1 ≤ 9223372036854775807 then ((impl_FormatInt.f k a0_4).bind fun t562 => (if (((((((t558 ++ (⟨#[58]⟩ : ByteArray)) ++ t559) ++ (⟨#[44]⟩ : ByteArray)) ++ t560) ++ (⟨#[44]⟩ : ByteArray)) ++ t561) ++ (⟨#[44]⟩ : ByteArray)).size + t562.size ≤ 9223372036854775807 then (some ((((((((t558 ++ (⟨#[58]⟩ : ByteArray)) ++ t559) ++ (⟨#[44]⟩ : ByteArray)) ++ t560) ++ (⟨#[44]⟩ : ByteArray)) ++ t561) ++ (⟨#[44]⟩ : ByteArray)) ++ t562)) else (none))) else (none)) else (none))) else (none)) else (none))) else (none)) else (none))) else (none))) = some r := h
  clear h
  replace H := Option.bind_eq_some_iff.mp H
  obtain ⟨t558, A20, H⟩ := H
  replace H : (if t558.size + 1 ≤ 9223372036854775807 then ((impl_FormatInt.f k a0_1).bind fun t559 => (if (t558 ++ (⟨#[58]⟩ : ByteArray)).size + t559.size ≤ 9223372036854775807 then (if ((t558 ++ (⟨#[58]⟩ : ByteArray)) ++ t559).size + 1 ≤ 9223372036854775807 then ((impl_FormatInt.f k a0_2).bind fun t560 => (if (((t558 ++ (⟨#[58]⟩ : ByteArray)) ++ t559) ++ (⟨#[44]⟩ : ByteArray)).size + t560.size ≤ 9223372036854775807 then (if ((((t558 ++ (⟨#[58]⟩ : ByteArray)) ++ t559) ++ (⟨#[44]⟩ : ByteArray)) ++ t560).size + 1 ≤ 9223372036854775807 then ((impl_FormatInt.f k a0_3).bind fun t561 => (if (((((t558 ++ (⟨#[58]⟩ : ByteArray)) ++ t559) ++ (⟨#[44]⟩ : ByteArray)) ++ t560) ++ (⟨#[44]⟩ : ByteArray)).size + t561.size ≤ 9223372036854775807 then (if ((((((t558 ++ (⟨#[58]⟩ : ByteArray)) ++ t559) ++ (⟨#[44]⟩ : ByteArray)) ++ t560) ++ (⟨#[44]⟩ : ByteArray)) ++ t561).size + 1 ≤ 9223372036854775807 then ((impl_FormatInt.f k a0_4).bind fun t562 => (if (((((((t558 ++ (⟨#[58]⟩ : ByteArray)) ++ t559) ++ (⟨#[44]⟩ : ByteArray)) ++ t560) ++ (⟨#[44]⟩ : ByteArray)) ++ t561) ++ (⟨#[44]⟩ : ByteArray)).size + t562.size ≤ 9223372036854775807 then (some ((((((((t558 ++ (⟨#[58]⟩ : ByteArray)) ++ t559) ++ (⟨#[44]⟩ : ByteArray)) ++ t560) ++ (⟨#[44]⟩ : ByteArray)) ++ t561) ++ (⟨#[44]⟩ : ByteArray)) ++ t562)) else (none))) else (none)) else (none))) else (none)) else (none))) else (none)) else (none))) else (none)) = some r := H
  have A2 := Aside0.mk A20
  clear A20
  by_cases c3 : t558.size + 1 ≤ 9223372036854775807
  · rw [if_pos c3] at H
    have c3b0 := eq_true c3
    have c3b1 : decide (t558.size + 1 ≤ 9223372036854775807) = true := decide_eq_true c3
    try have c3b2 : (9223372036854775807 < t558.size + 1) = False := eq_false (Nat.not_lt.2 c3)
    replace H := Option.bind_eq_some_iff.mp H
    obtain ⟨t559, A40, H⟩ := H
    replace H : (if (t558 ++ (⟨#[58]⟩ : ByteArray)).size + t559.size ≤ 9223372036854775807 then (if ((t558 ++ (⟨#[58]⟩ : ByteArray)) ++ t559).size + 1 ≤ 9223372036854775807 then ((impl_FormatInt.f k a0_2).bind fun t560 => (if (((t558 ++ (⟨#[58]⟩ : ByteArray)) ++ t559) ++ (⟨#[44]⟩ : ByteArray)).size + t560.size ≤ 9223372036854775807 then (if ((((t558 ++ (⟨#[58]⟩ : ByteArray)) ++ t559) ++ (⟨#[44]⟩ : ByteArray)) ++ t560).size + 1 ≤ 9223372036854775807 then ((impl_FormatInt.f k a0_3).bind fun t561 => (if (((((t558 ++ (⟨#[58]⟩ : ByteArray)) ++ t559) ++ (⟨#[44]⟩ : ByteArray)) ++ t560) ++ (⟨#[44]⟩ : ByteArray)).size + t561.size ≤ 9223372036854775807 then (if ((((((t558 ++ (⟨#[58]⟩ : ByteArray)) ++ t559) ++ (⟨#[44]⟩ : ByteArray)) ++ t560) ++ (⟨#[44]⟩ : ByteArray)) ++ t561).size + 1 ≤ 9223372036854775807 then ((impl_FormatInt.f k a0_4).bind fun t562 => (if (((((((t558 ++ (⟨#[58]⟩ : ByteArray)) ++ t559) ++ (⟨#[44]⟩ : ByteArray)) ++ t560) ++ (⟨#[44]⟩ : ByteArray)) ++ t561) ++ (⟨#[44]⟩ : ByteArray)).size + t562.size ≤ 9223372036854775807 then (some ((((((((t558 ++ (⟨#[58]⟩ : ByteArray)) ++ t559) ++ (⟨#[44]⟩ : ByteArray)) ++ t560) ++ (⟨#[44]⟩ : ByteArray)) ++ t561) ++ (⟨#[44]⟩ : ByteArray)) ++ t562)) else (none))) else (none)) else (none))) else (none)) else (none))) else (none)) else (none)) = some r := H
    have A4 := Aside0.mk A40
    clear A40
    by_cases c5 : (t558 ++ (⟨#[58]⟩ : ByteArray)).size + t559.size ≤ 9223372036854775807
    · rw [if_pos c5] at H
      have c5b0 := eq_true c5
      have c5b1 : decide ((t558 ++ (⟨#[58]⟩ : ByteArray)).size + t559.size ≤ 9223372036854775807) = true := decide_eq_true c5
      try have c5b3 : (9223372036854775807 < t558.size + 1 + t559.size) = False := eq_false (by have h_ := c5; simp only [ByteArray.size_append] at h_; (first | exact Nat.not_lt.2 h_ | omega))
      try have c5b2 : (9223372036854775807 < (t558 ++ (⟨#[58]⟩ : ByteArray)).size + t559.size) = False := eq_false (Nat.not_lt.2 c5)
      by_cases c6 : ((t558 ++ (⟨#[58]⟩ : ByteArray)) ++ t559).size + 1 ≤ 9223372036854775807
      · rw [if_pos c6] at H
        have c6b0 := eq_true c6
        have c6b1 : decide (((t558 ++ (⟨#[58]⟩ : ByteArray)) ++ t559).size + 1 ≤ 9223372036854775807) = true := decide_eq_true c6
        try have c6b3 : (9223372036854775807 < t558.size + 1 + t559.size + 1) = False := eq_false (by have h_ := c6; simp only [ByteArray.size_append] at h_; (first | exact Nat.not_lt.2 h_ | omega))
        try have c6b2 : (9223372036854775807 < ((t558 ++ (⟨#[58]⟩ : ByteArray)) ++ t559).size + 1) = False := eq_false (Nat.not_lt.2 c6)
        replace H := Option.bind_eq_some_iff.mp H
        obtain ⟨t560, A70, H⟩ := H
        replace H : (if (((t558 ++ (⟨#[58]⟩ : ByteArray)) ++ t559) ++ (⟨#[44]⟩ : ByteArray)).size + t560.size ≤ 9223372036854775807 then (if ((((t558 ++ (⟨#[58]⟩ : ByteArray)) ++ t559) ++ (⟨#[44]⟩ : ByteArray)) ++ t560).size + 1 ≤ 9223372036854775807 then ((impl_FormatInt.f k a0_3).bind fun t561 => (if (((((t558 ++ (⟨#[58]⟩ : ByteArray)) ++ t559) ++ (⟨#[44]⟩ : ByteArray)) ++ t560) ++ (⟨#[44]⟩ : ByteArray)).size + t561.size ≤ 9223372036854775807 then (if ((((((t558 ++ (⟨#[58]⟩ : ByteArray)) ++ t559) ++ (⟨#[44]⟩ : ByteArray)) ++ t560) ++ (⟨#[44]⟩ : ByteArray)) ++ t561).size + 1 ≤ 9223372036854775807 then ((impl_FormatInt.f k a0_4).bind fun t562 => (if (((((((t558 ++ (⟨#[58]⟩ : ByteArray)) ++ t559) ++ (⟨#[44]⟩ : ByteArray)) ++ t560) ++ (⟨#[44]⟩ : ByteArray)) ++ t561) ++ (⟨#[44]⟩ : ByteArray)).size + t562.size ≤ 9223372036854775807 then (some ((((((((t558 ++ (⟨#[58]⟩ : ByteArray)) ++ t559) ++ (⟨#[44]⟩ : ByteArray)) ++ t560) ++ (⟨#[44]⟩ : ByteArray)) ++ t561) ++ (⟨#[44]⟩ : ByteArray)) ++ t562)) else (none))) else (none)) else (none))) else (none)) else (none)) = some r := H
        have A7 := Aside0.mk A70
        clear A70
        by_cases c8 : (((t558 ++ (⟨#[58]⟩ : ByteArray)) ++ t559) ++ (⟨#[44]⟩ : ByteArray)).size + t560.size ≤ 9223372036854775807
        · rw [if_pos c8] at H
          have c8b0 := eq_true c8
          have c8b1 : decide ((((t558 ++ (⟨#[58]⟩ : ByteArray)) ++ t559) ++ (⟨#[44]⟩ : ByteArray)).size + t560.size ≤ 9223372036854775807) = true := decide_eq_true c8
          try have c8b3 : (9223372036854775807 < t558.size + 1 + t559.size + 1 + t560.size) = False := eq_false (by have h_ := c8; simp only [ByteArray.size_append] at h_; (first | exact Nat.not_lt.2 h_ | omega))
          try have c8b2 : (9223372036854775807 < (((t558 ++ (⟨#[58]⟩ : ByteArray)) ++ t559) ++ (⟨#[44]⟩ : ByteArray)).size + t560.size) = False := eq_false (Nat.not_lt.2 c8)
          by_cases c9 : ((((t558 ++ (⟨#[58]⟩ : ByteArray)) ++ t559) ++ (⟨#[44]⟩ : ByteArray)) ++ t560).size + 1 ≤ 9223372036854775807
          · rw [if_pos c9] at H
            have c9b0 := eq_true c9
            have c9b1 : decide (((((t558 ++ (⟨#[58]⟩ : ByteArray)) ++ t559) ++ (⟨#[44]⟩ : ByteArray)) ++ t560).size + 1 ≤ 9223372036854775807) = true := decide_eq_true c9
            try have c9b3 : (9223372036854775807 < t558.size + 1 + t559.size + 1 + t560.size + 1) = False := eq_false (by have h_ := c9; simp only [ByteArray.size_append] at h_; (first | exact Nat.not_lt.2 h_ | omega))
            try have c9b2 : (9223372036854775807 < ((((t558 ++ (⟨#[58]⟩ : ByteArray)) ++ t559) ++ (⟨#[44]⟩ : ByteArray)) ++ t560).size + 1) = False := eq_false (Nat.not_lt.2 c9)
            replace H := Option.bind_eq_some_iff.mp H
            obtain ⟨t561, A100, H⟩ := H
            replace H : (if (((((t558 ++ (⟨#[58]⟩ : ByteArray)) ++ t559) ++ (⟨#[44]⟩ : ByteArray)) ++ t560) ++ (⟨#[44]⟩ : ByteArray)).size + t561.size ≤ 9223372036854775807 then (if ((((((t558 ++ (⟨#[58]⟩ : ByteArray)) ++ t559) ++ (⟨#[44]⟩ : ByteArray)) ++ t560) ++ (⟨#[44]⟩ : ByteArray)) ++ t561).size + 1 ≤ 9223372036854775807 then ((impl_FormatInt.f k a0_4).bind fun t562 => (if (((((((t558 ++ (⟨#[58]⟩ : ByteArray)) ++ t559) ++ (⟨#[44]⟩ : ByteArray)) ++ t560) ++ (⟨#[44]⟩ : ByteArray)) ++ t561) ++ (⟨#[44]⟩ : ByteArray)).size + t562.size ≤ 9223372036854775807 then (some ((((((((t558 ++ (⟨#[58]⟩ : ByteArray)) ++ t559) ++ (⟨#[44]⟩ : ByteArray)) ++ t560) ++ (⟨#[44]⟩ : ByteArray)) ++ t561) ++ (⟨#[44]⟩ : ByteArray)) ++ t562)) else (none))) else (none)) else (none)) = some r := H
            have A10 := Aside0.mk A100
            clear A100
            by_cases c11 : (((((t558 ++ (⟨#[58]⟩ : ByteArray)) ++ t559) ++ (⟨#[44]⟩ : ByteArray)) ++ t560) ++ (⟨#[44]⟩ : ByteArray)).size + t561.size ≤ 9223372036854775807
            · rw [if_pos c11] at H
              have c11b0 := eq_true c11
              have c11b1 : decide ((((((t558 ++ (⟨#[58]⟩ : ByteArray)) ++ t559) ++ (⟨#[44]⟩ : ByteArray)) ++ t560) ++ (⟨#[44]⟩ : ByteArray)).size + t561.size ≤ 9223372036854775807) = true := decide_eq_true c11
              try have c11b3 : (9223372036854775807 < t558.size + 1 + t559.size + 1 + t560.size + 1 + t561.size) = False := eq_false (by have h_ := c11; simp only [ByteArray.size_append] at h_; (first | exact Nat.not_lt.2 h_ | omega))
              try have c11b2 : (9223372036854775807 < (((((t558 ++ (⟨#[58]⟩ : ByteArray)) ++ t559) ++ (⟨#[44]⟩ : ByteArray)) ++ t560) ++ (⟨#[44]⟩ : ByteArray)).size + t561.size) = False := eq_false (Nat.not_lt.2 c11)
              by_cases c12 : ((((((t558 ++ (⟨#[58]⟩ : ByteArray)) ++ t559) ++ (⟨#[44]⟩ : ByteArray)) ++ t560) ++ (⟨#[44]⟩ : ByteArray)) ++ t561).size + 1 ≤ 9223372036854775807
              · rw [if_pos c12] at H
                have c12b0 := eq_true c12
                have c12b1 : decide (((((((t558 ++ (⟨#[58]⟩ : ByteArray)) ++ t559) ++ (⟨#[44]⟩ : ByteArray)) ++ t560) ++ (⟨#[44]⟩ : ByteArray)) ++ t561).size + 1 ≤ 9223372036854775807) = true := decide_eq_true c12
                try have c12b3 : (9223372036854775807 < t558.size + 1 + t559.size + 1 + t560.size + 1 + t561.size + 1) = False := eq_false (by have h_ := c12; simp only [ByteArray.size_append] at h_; (first | exact Nat.not_lt.2 h_ | omega))
                try have c12b2 : (9223372036854775807 < ((((((t558 ++ (⟨#[58]⟩ : ByteArray)) ++ t559) ++ (⟨#[44]⟩ : ByteArray)) ++ t560) ++ (⟨#[44]⟩ : ByteArray)) ++ t561).size + 1) = False := eq_false (Nat.not_lt.2 c12)
                replace H := Option.bind_eq_some_iff.mp H
                obtain ⟨t562, A130, H⟩ := H
                replace H : (if (((((((t558 ++ (⟨#[58]⟩ : ByteArray)) ++ t559) ++ (⟨#[44]⟩ : ByteArray)) ++ t560) ++ (⟨#[44]⟩ : ByteArray)) ++ t561) ++ (⟨#[44]⟩ : ByteArray)).size + t562.size ≤ 9223372036854775807 then (some ((((((((t558 ++ (⟨#[58]⟩ : ByteArray)) ++ t559) ++ (⟨#[44]⟩ : ByteArray)) ++ t560) ++ (⟨#[44]⟩ : ByteArray)) ++ t561) ++ (⟨#[44]⟩ : ByteArray)) ++ t562)) else (none)) = some r := H
                have A13 := Aside0.mk A130
                clear A130
                by_cases c14 : (((((((t558 ++ (⟨#[58]⟩ : ByteArray)) ++ t559) ++ (⟨#[44]⟩ : ByteArray)) ++ t560) ++ (⟨#[44]⟩ : ByteArray)) ++ t561) ++ (⟨#[44]⟩ : ByteArray)).size + t562.size ≤ 9223372036854775807
                · rw [if_pos c14] at H
                  have c14b0 := eq_true c14
                  have c14b1 : decide ((((((((t558 ++ (⟨#[58]⟩ : ByteArray)) ++ t559) ++ (⟨#[44]⟩ : ByteArray)) ++ t560) ++ (⟨#[44]⟩ : ByteArray)) ++ t561) ++ (⟨#[44]⟩ : ByteArray)).size + t562.size ≤ 9223372036854775807) = true := decide_eq_true c14
                  try have c14b3 : (9223372036854775807 < t558.size + 1 + t559.size + 1 + t560.size + 1 + t561.size + 1 + t562.size) = False := eq_false (by have h_ := c14; simp only [ByteArray.size_append] at h_; (first | exact Nat.not_lt.2 h_ | omega))
                  try have c14b2 : (9223372036854775807 < (((((((t558 ++ (⟨#[58]⟩ : ByteArray)) ++ t559) ++ (⟨#[44]⟩ : ByteArray)) ++ t560) ++ (⟨#[44]⟩ : ByteArray)) ++ t561) ++ (⟨#[44]⟩ : ByteArray)).size + t562.size) = False := eq_false (Nat.not_lt.2 c14)
                  obtain rfl := Option.some.inj H
                  go_enter Try.func105, Try.ntmps105
                  try go_wp2_with (first | ((with_reducible refine gate_dst (N := 1) rfl ?_); refine box_event ?hg (N := 1) ?hd (cs := #[.int .i64 a0_0, .int .i64 a0_1, .int .i64 a0_2, .int .i64 a0_3, .int .i64 a0_4]) (t := 60) ?hr ?_; (case hd => rfl); (case hg => rfl); (case hr => first | (go_simp; done) | (go_simp; rfl)); intro gb557 hg w15 hbox hb; have n0_ := Aside0.mk (below_step (by repeat (first | (with_reducible first | exact HB.out | apply below_alloc | apply pw_below_drewN | apply below_drew1) | exact HB.out)) hb); have n1_ := Aside0.mk (hbox); have n2_ := Aside0.mk ((by rw [hg]; exact (below_size (by repeat (first | (with_reducible first | exact HB.out | apply below_alloc | apply pw_below_drewN | apply below_drew1) | exact HB.out))) : w.heap.size ≤ gb557)); have n3_ := Aside0.mk ((by rw [hg]; exact (below_size (by repeat (first | (with_reducible first | exact HB.out | apply below_alloc | apply pw_below_drewN | apply below_drew1) | exact HB.out))) : w.heap.size ≤ gb557)); clear HB; have HB := n0_; have BK557 := n1_; have GW557 := n2_; have GE557 := n3_; clear n0_ n1_ n2_ n3_; clear hb hbox hg))
                  have n0_ := Aside0.mk (blk_drew BK557.out)
                  have n1_ := Aside0.mk (below_drew1 HB.out)
                  clear BK557
                  clear HB
                  have BK557 := n0_
                  have HB := n1_
                  clear n0_ n1_
                  refine start_ (n := 24) (S := fun w' => w'.cell? ⟨gb557, 0, none⟩ = some (.int .i64 a0_0) ∧ w'.cell? ⟨gb557, 1, none⟩ = some (.int .i64 a0_1) ∧ w'.cell? ⟨gb557, 2, none⟩ = some (.int .i64 a0_2) ∧ w'.cell? ⟨gb557, 3, none⟩ = some (.int .i64 a0_3) ∧ w'.cell? ⟨gb557, 4, none⟩ = some (.int .i64 a0_4)) (ds := []) #[false, false, false, false, false, false, false, false, false, false, false, false, false, false, false, false, false, false, false, false, false, false, false, false] (by kernel_rfl) rfl rfl ⟨(blk_cell BK557.out 0).trans rfl, (blk_cell BK557.out 1).trans rfl, (blk_cell BK557.out 2).trans rfl, (blk_cell BK557.out 3).trans rfl, (blk_cell BK557.out 4).trans rfl⟩ (fun hHeld => ?_); refine with_tabW impl_groupText.tab1 impl_groupText.bits1 (fun HT_ HW_ => ?_)
                  generalize w15.drew = w16 at BK557 HB hHeld ⊢
                  refine pure_ (i := 0) (N := some 3) (v := ?_) (a' := ?_) #[true, false, false, false, false, false, false, false, false, false, false, false, false, false, false, false, false, false, false, false, false, false, false, false] rfl rfl (any_of HT_.out (by kernel_rfl)) (fun _ _ _ h => h) (Or.inl ⟨by rfl, ?_⟩) ?_ ?_
                  rotate_left
                  · intro w'
                    go_simp
                    with_reducible rfl
                  rotate_left
                  · simp only [Act.put, List.setIfInBounds_toArray, List.set_cons_zero, List.set_cons_succ, i64_w, i32_w]
                    rfl
                  refine pure_ (i := 4) (N := some 7) (v := ?_) (a' := ?_) #[true, false, false, false, true, false, false, false, false, false, false, false, false, false, false, false, false, false, false, false, false, false, false, false] rfl rfl (any_of HT_.out (by kernel_rfl)) (fun _ _ _ h => h) (Or.inl ⟨by rfl, ?_⟩) ?_ ?_
                  rotate_left
                  · intro w'
                    go_simp
                    with_reducible rfl
                  rotate_left
                  · simp only [Act.put, List.setIfInBounds_toArray, List.set_cons_zero, List.set_cons_succ, i64_w, i32_w]
                    rfl
                  refine pure_ (i := 9) (N := some 12) (v := ?_) (a' := ?_) #[true, false, false, false, true, false, false, false, false, true, false, false, false, false, false, false, false, false, false, false, false, false, false, false] rfl rfl (any_of HT_.out (by kernel_rfl)) (fun _ _ _ h => h) (Or.inl ⟨by rfl, ?_⟩) ?_ ?_
                  rotate_left
                  · intro w'
                    go_simp
                    with_reducible rfl
                  rotate_left
                  · simp only [Act.put, List.setIfInBounds_toArray, List.set_cons_zero, List.set_cons_succ, i64_w, i32_w]
                    rfl
                  refine pure_ (i := 14) (N := some 17) (v := ?_) (a' := ?_) #[true, false, false, false, true, false, false, false, false, true, false, false, false, false, true, false, false, false, false, false, false, false, false, false] rfl rfl (any_of HT_.out (by kernel_rfl)) (fun _ _ _ h => h) (Or.inl ⟨by rfl, ?_⟩) ?_ ?_
                  rotate_left
                  · intro w'
                    go_simp
                    with_reducible rfl
                  rotate_left
                  · simp only [Act.put, List.setIfInBounds_toArray, List.set_cons_zero, List.set_cons_succ, i64_w, i32_w]
                    rfl
                  refine pure_ (i := 19) (N := some 22) (v := ?_) (a' := ?_) #[true, false, false, false, true, false, false, false, false, true, false, false, false, false, true, false, false, false, false, true, false, false, false, false] rfl rfl (any_of HT_.out (by kernel_rfl)) (fun _ _ _ h => h) (Or.inl ⟨by rfl, ?_⟩) ?_ ?_
                  rotate_left
                  · intro w'
                    go_simp
                    with_reducible rfl
                  rotate_left
                  · simp only [Act.put, List.setIfInBounds_toArray, List.set_cons_zero, List.set_cons_succ, i64_w, i32_w]
                    rfl
                  refine take_ (i := 1) (N := some 4) (v := ?_) (a' := ?_) #[true, true, false, false, true, false, false, false, false, true, false, false, false, false, true, false, false, false, false, true, false, false, false, false] rfl rfl (take_ofW HT_.out HW_.out (by kernel_rfl)) (fun _ _ _ h => h) (Or.inl ⟨by rfl, ?_⟩) hHeld ?_ ?_
                  rotate_left
                  · rintro w' ⟨s0, s1, s2, s3, s4⟩
                    go_simp
                    with_reducible rfl
                  rotate_left
                  · simp only [Act.put, List.setIfInBounds_toArray, List.set_cons_zero, List.set_cons_succ, i64_w, i32_w]
                    rfl
                  refine take_ (i := 5) (N := some 8) (v := ?_) (a' := ?_) #[true, true, false, false, true, true, false, false, false, true, false, false, false, false, true, false, false, false, false, true, false, false, false, false] rfl rfl (take_ofW HT_.out HW_.out (by kernel_rfl)) (fun _ _ _ h => h) (Or.inl ⟨by rfl, ?_⟩) hHeld ?_ ?_
                  rotate_left
                  · rintro w' ⟨s0, s1, s2, s3, s4⟩
                    go_simp
                    with_reducible rfl
                  rotate_left
                  · simp only [Act.put, List.setIfInBounds_toArray, List.set_cons_zero, List.set_cons_succ, i64_w, i32_w]
                    rfl
                  refine take_ (i := 10) (N := some 13) (v := ?_) (a' := ?_) #[true, true, false, false, true, true, false, false, false, true, true, false, false, false, true, false, false, false, false, true, false, false, false, false] rfl rfl (take_ofW HT_.out HW_.out (by kernel_rfl)) (fun _ _ _ h => h) (Or.inl ⟨by rfl, ?_⟩) hHeld ?_ ?_
                  rotate_left
                  · rintro w' ⟨s0, s1, s2, s3, s4⟩
                    go_simp
                    with_reducible rfl
                  rotate_left
                  · simp only [Act.put, List.setIfInBounds_toArray, List.set_cons_zero, List.set_cons_succ, i64_w, i32_w]
                    rfl
                  refine take_ (i := 15) (N := some 18) (v := ?_) (a' := ?_) #[true, true, false, false, true, true, false, false, false, true, true, false, false, false, true, true, false, false, false, true, false, false, false, false] rfl rfl (take_ofW HT_.out HW_.out (by kernel_rfl)) (fun _ _ _ h => h) (Or.inl ⟨by rfl, ?_⟩) hHeld ?_ ?_
                  rotate_left
                  · rintro w' ⟨s0, s1, s2, s3, s4⟩
                    go_simp
                    with_reducible rfl
                  rotate_left
                  · simp only [Act.put, List.setIfInBounds_toArray, List.set_cons_zero, List.set_cons_succ, i64_w, i32_w]
                    rfl
                  refine take_ (i := 20) (N := some 23) (v := ?_) (a' := ?_) #[true, true, false, false, true, true, false, false, false, true, true, false, false, false, true, true, false, false, false, true, true, false, false, false] rfl rfl (take_ofW HT_.out HW_.out (by kernel_rfl)) (fun _ _ _ h => h) (Or.inl ⟨by rfl, ?_⟩) hHeld ?_ ?_
                  rotate_left
                  · rintro w' ⟨s0, s1, s2, s3, s4⟩
                    go_simp
                    with_reducible rfl
                  rotate_left
                  · simp only [Act.put, List.setIfInBounds_toArray, List.set_cons_zero, List.set_cons_succ, i64_w, i32_w]
                    rfl
                  refine one_ (i := 2) (N := some 5) #[true, true, true, false, true, true, false, false, false, true, true, false, false, false, true, true, false, false, false, true, true, false, false, false] rfl rfl (one_of HT_.out (by kernel_rfl)) (by decide) (fun K hK => ?_)
                  refine goes_ Try.func104 (by kernel_rfl) rfl #[.int .i64 a0_0] (by rfl) rfl rfl (by (try simp only [List.map_toArray, List.map_cons, List.map_nil]); first | done | rfl | (simp only [List.length_drop, List.length_take]; rfl)) ?_
                  with_reducible refine (impl_FormatInt.calls k a0_0 t558 _ A2.out).mono ?_
                  rintro e w17 ⟨rfl, hb⟩
                  refine ⟨_, rfl, ?_⟩
                  have n0_ := Aside0.mk (blk_below (g := gb557) (o := .cells #[.int .i64 a0_0, .int .i64 a0_1, .int .i64 a0_2, .int .i64 a0_3, .int .i64 a0_4] 60 (0, 0)) (by (with_reducible repeat (first | refine blk_drewN ?_ _ | refine blk_drew ?_ | refine blk_alloc ?_ _)); exact BK557.out) hb)
                  have n1_ := Aside0.mk (below_step (by repeat (first | (with_reducible first | exact HB.out | apply below_alloc | apply pw_below_drewN | apply below_drew1 | refine below_set ?_ GE557.out) | exact HB.out)) hb)
                  clear BK557
                  clear HB
                  have BK557 := n0_
                  have HB := n1_
                  clear n0_ n1_
                  (try clear hb)
                  (try clear hb2)
                  (try clear hk)
                  (try clear hi)
                  refine hK.out _ _ ⟨(blk_cell BK557.out 0).trans rfl, (blk_cell BK557.out 1).trans rfl, (blk_cell BK557.out 2).trans rfl, (blk_cell BK557.out 3).trans rfl, (blk_cell BK557.out 4).trans rfl⟩ (fun hHeld => ?_)
                  clear hK K
                  refine norm_ (a' := ?_) ?_ ?_
                  rotate_left
                  · show Act.put _ (some 5) _ = _
                    simp only [Act.put, List.setIfInBounds_toArray, List.set_cons_zero, List.set_cons_succ, i64_w, i32_w]
                    rfl
                  refine pure_ (i := 3) (N := some 6) (v := ?_) (a' := ?_) #[true, true, true, true, true, true, false, false, false, true, true, false, false, false, true, true, false, false, false, true, true, false, false, false] rfl rfl (any_of HT_.out (by kernel_rfl)) (fun _ _ _ h => h) (Or.inl ⟨by rfl, ?_⟩) ?_ ?_
                  rotate_left
                  · intro w'
                    go_simp
                    with_reducible rfl
                  rotate_left
                  · simp only [Act.put, List.setIfInBounds_toArray, List.set_cons_zero, List.set_cons_succ, i64_w, i32_w]
                    rfl
                  refine one_ (i := 6) (N := some 9) #[true, true, true, true, true, true, true, false, false, true, true, false, false, false, true, true, false, false, false, true, true, false, false, false] rfl rfl (one_of HT_.out (by kernel_rfl)) (by decide) (fun K hK => ?_)
                  refine goes_ Try.func104 (by kernel_rfl) rfl #[.int .i64 a0_1] (by rfl) rfl rfl (by (try simp only [List.map_toArray, List.map_cons, List.map_nil]); first | done | rfl | (simp only [List.length_drop, List.length_take]; rfl)) ?_
                  with_reducible refine (impl_FormatInt.calls k a0_1 t559 _ A4.out).mono ?_
                  rintro e w18 ⟨rfl, hb⟩
                  refine ⟨_, rfl, ?_⟩
                  have n0_ := Aside0.mk (blk_below (g := gb557) (o := .cells #[.int .i64 a0_0, .int .i64 a0_1, .int .i64 a0_2, .int .i64 a0_3, .int .i64 a0_4] 60 (0, 0)) (by (with_reducible repeat (first | refine blk_drewN ?_ _ | refine blk_drew ?_ | refine blk_alloc ?_ _)); exact BK557.out) hb)
                  have n1_ := Aside0.mk (below_step (by repeat (first | (with_reducible first | exact HB.out | apply below_alloc | apply pw_below_drewN | apply below_drew1 | refine below_set ?_ GE557.out) | exact HB.out)) hb)
                  clear BK557
                  clear HB
                  have BK557 := n0_
                  have HB := n1_
                  clear n0_ n1_
                  (try clear hb)
                  (try clear hb2)
                  (try clear hk)
                  (try clear hi)
                  refine hK.out _ _ ⟨(blk_cell BK557.out 0).trans rfl, (blk_cell BK557.out 1).trans rfl, (blk_cell BK557.out 2).trans rfl, (blk_cell BK557.out 3).trans rfl, (blk_cell BK557.out 4).trans rfl⟩ (fun hHeld => ?_)
                  clear hK K
                  refine norm_ (a' := ?_) ?_ ?_
                  rotate_left
                  · show Act.put _ (some 9) _ = _
                    simp only [Act.put, List.setIfInBounds_toArray, List.set_cons_zero, List.set_cons_succ, i64_w, i32_w]
                    rfl
                  refine pure_ (i := 7) (N := some 10) (v := ?_) (a' := ?_) #[true, true, true, true, true, true, true, true, false, true, true, false, false, false, true, true, false, false, false, true, true, false, false, false] rfl rfl (any_of HT_.out (by kernel_rfl)) (fun _ _ _ h => h) (Or.inl ⟨by rfl, ?_⟩) ?_ ?_
                  rotate_left
                  · intro w'
                    go_simp
                    with_reducible rfl
                  rotate_left
                  · simp only [Act.put, List.setIfInBounds_toArray, List.set_cons_zero, List.set_cons_succ, i64_w, i32_w]
                    rfl
                  refine pure_ (i := 8) (N := some 11) (v := ?_) (a' := ?_) #[true, true, true, true, true, true, true, true, true, true, true, false, false, false, true, true, false, false, false, true, true, false, false, false] rfl rfl (any_of HT_.out (by kernel_rfl)) (fun _ _ _ h => h) (Or.inl ⟨by rfl, ?_⟩) ?_ ?_
                  rotate_left
                  · intro w'
                    go_simp
                    with_reducible rfl
                  rotate_left
                  · simp only [Act.put, List.setIfInBounds_toArray, List.set_cons_zero, List.set_cons_succ, i64_w, i32_w]
                    rfl
                  refine one_ (i := 11) (N := some 14) #[true, true, true, true, true, true, true, true, true, true, true, true, false, false, true, true, false, false, false, true, true, false, false, false] rfl rfl (one_of HT_.out (by kernel_rfl)) (by decide) (fun K hK => ?_)
                  refine goes_ Try.func104 (by kernel_rfl) rfl #[.int .i64 a0_2] (by rfl) rfl rfl (by (try simp only [List.map_toArray, List.map_cons, List.map_nil]); first | done | rfl | (simp only [List.length_drop, List.length_take]; rfl)) ?_
                  with_reducible refine (impl_FormatInt.calls k a0_2 t560 _ A7.out).mono ?_
                  rintro e w19 ⟨rfl, hb⟩
                  refine ⟨_, rfl, ?_⟩
                  have n0_ := Aside0.mk (blk_below (g := gb557) (o := .cells #[.int .i64 a0_0, .int .i64 a0_1, .int .i64 a0_2, .int .i64 a0_3, .int .i64 a0_4] 60 (0, 0)) (by (with_reducible repeat (first | refine blk_drewN ?_ _ | refine blk_drew ?_ | refine blk_alloc ?_ _)); exact BK557.out) hb)
                  have n1_ := Aside0.mk (below_step (by repeat (first | (with_reducible first | exact HB.out | apply below_alloc | apply pw_below_drewN | apply below_drew1 | refine below_set ?_ GE557.out) | exact HB.out)) hb)
                  clear BK557
                  clear HB
                  have BK557 := n0_
                  have HB := n1_
                  clear n0_ n1_
                  (try clear hb)
                  (try clear hb2)
                  (try clear hk)
                  (try clear hi)
                  refine hK.out _ _ ⟨(blk_cell BK557.out 0).trans rfl, (blk_cell BK557.out 1).trans rfl, (blk_cell BK557.out 2).trans rfl, (blk_cell BK557.out 3).trans rfl, (blk_cell BK557.out 4).trans rfl⟩ (fun hHeld => ?_)
                  clear hK K
                  refine norm_ (a' := ?_) ?_ ?_
                  rotate_left
                  · show Act.put _ (some 14) _ = _
                    simp only [Act.put, List.setIfInBounds_toArray, List.set_cons_zero, List.set_cons_succ, i64_w, i32_w]
                    rfl
                  refine pure_ (i := 12) (N := some 15) (v := ?_) (a' := ?_) #[true, true, true, true, true, true, true, true, true, true, true, true, true, false, true, true, false, false, false, true, true, false, false, false] rfl rfl (any_of HT_.out (by kernel_rfl)) (fun _ _ _ h => h) (Or.inl ⟨by rfl, ?_⟩) ?_ ?_
                  rotate_left
                  · intro w'
                    go_simp
                    with_reducible rfl
                  rotate_left
                  · simp only [Act.put, List.setIfInBounds_toArray, List.set_cons_zero, List.set_cons_succ, i64_w, i32_w]
                    rfl
                  refine pure_ (i := 13) (N := some 16) (v := ?_) (a' := ?_) #[true, true, true, true, true, true, true, true, true, true, true, true, true, true, true, true, false, false, false, true, true, false, false, false] rfl rfl (any_of HT_.out (by kernel_rfl)) (fun _ _ _ h => h) (Or.inl ⟨by rfl, ?_⟩) ?_ ?_
                  rotate_left
                  · intro w'
                    go_simp
                    with_reducible rfl
                  rotate_left
                  · simp only [Act.put, List.setIfInBounds_toArray, List.set_cons_zero, List.set_cons_succ, i64_w, i32_w]
                    rfl
                  refine one_ (i := 16) (N := some 19) #[true, true, true, true, true, true, true, true, true, true, true, true, true, true, true, true, true, false, false, true, true, false, false, false] rfl rfl (one_of HT_.out (by kernel_rfl)) (by decide) (fun K hK => ?_)
                  refine goes_ Try.func104 (by kernel_rfl) rfl #[.int .i64 a0_3] (by rfl) rfl rfl (by (try simp only [List.map_toArray, List.map_cons, List.map_nil]); first | done | rfl | (simp only [List.length_drop, List.length_take]; rfl)) ?_
                  with_reducible refine (impl_FormatInt.calls k a0_3 t561 _ A10.out).mono ?_
                  rintro e w20 ⟨rfl, hb⟩
                  refine ⟨_, rfl, ?_⟩
                  have n0_ := Aside0.mk (blk_below (g := gb557) (o := .cells #[.int .i64 a0_0, .int .i64 a0_1, .int .i64 a0_2, .int .i64 a0_3, .int .i64 a0_4] 60 (0, 0)) (by (with_reducible repeat (first | refine blk_drewN ?_ _ | refine blk_drew ?_ | refine blk_alloc ?_ _)); exact BK557.out) hb)
                  have n1_ := Aside0.mk (below_step (by repeat (first | (with_reducible first | exact HB.out | apply below_alloc | apply pw_below_drewN | apply below_drew1 | refine below_set ?_ GE557.out) | exact HB.out)) hb)
                  clear BK557
                  clear HB
                  have BK557 := n0_
                  have HB := n1_
                  clear n0_ n1_
                  (try clear hb)
                  (try clear hb2)
                  (try clear hk)
                  (try clear hi)
                  refine hK.out _ _ ⟨(blk_cell BK557.out 0).trans rfl, (blk_cell BK557.out 1).trans rfl, (blk_cell BK557.out 2).trans rfl, (blk_cell BK557.out 3).trans rfl, (blk_cell BK557.out 4).trans rfl⟩ (fun hHeld => ?_)
                  clear hK K
                  refine norm_ (a' := ?_) ?_ ?_
                  rotate_left
                  · show Act.put _ (some 19) _ = _
                    simp only [Act.put, List.setIfInBounds_toArray, List.set_cons_zero, List.set_cons_succ, i64_w, i32_w]
                    rfl
                  refine pure_ (i := 17) (N := some 20) (v := ?_) (a' := ?_) #[true, true, true, true, true, true, true, true, true, true, true, true, true, true, true, true, true, true, false, true, true, false, false, false] rfl rfl (any_of HT_.out (by kernel_rfl)) (fun _ _ _ h => h) (Or.inl ⟨by rfl, ?_⟩) ?_ ?_
                  rotate_left
                  · intro w'
                    go_simp
                    with_reducible rfl
                  rotate_left
                  · simp only [Act.put, List.setIfInBounds_toArray, List.set_cons_zero, List.set_cons_succ, i64_w, i32_w]
                    rfl
                  refine pure_ (i := 18) (N := some 21) (v := ?_) (a' := ?_) #[true, true, true, true, true, true, true, true, true, true, true, true, true, true, true, true, true, true, true, true, true, false, false, false] rfl rfl (any_of HT_.out (by kernel_rfl)) (fun _ _ _ h => h) (Or.inl ⟨by rfl, ?_⟩) ?_ ?_
                  rotate_left
                  · intro w'
                    go_simp
                    with_reducible rfl
                  rotate_left
                  · simp only [Act.put, List.setIfInBounds_toArray, List.set_cons_zero, List.set_cons_succ, i64_w, i32_w]
                    rfl
                  refine one_ (i := 21) (N := some 24) #[true, true, true, true, true, true, true, true, true, true, true, true, true, true, true, true, true, true, true, true, true, true, false, false] rfl rfl (one_of HT_.out (by kernel_rfl)) (by decide) (fun K hK => ?_)
                  refine goes_ Try.func104 (by kernel_rfl) rfl #[.int .i64 a0_4] (by rfl) rfl rfl (by (try simp only [List.map_toArray, List.map_cons, List.map_nil]); first | done | rfl | (simp only [List.length_drop, List.length_take]; rfl)) ?_
                  with_reducible refine (impl_FormatInt.calls k a0_4 t562 _ A13.out).mono ?_
                  rintro e w21 ⟨rfl, hb⟩
                  refine ⟨_, rfl, ?_⟩
                  have n0_ := Aside0.mk (blk_below (g := gb557) (o := .cells #[.int .i64 a0_0, .int .i64 a0_1, .int .i64 a0_2, .int .i64 a0_3, .int .i64 a0_4] 60 (0, 0)) (by (with_reducible repeat (first | refine blk_drewN ?_ _ | refine blk_drew ?_ | refine blk_alloc ?_ _)); exact BK557.out) hb)
                  have n1_ := Aside0.mk (below_step (by repeat (first | (with_reducible first | exact HB.out | apply below_alloc | apply pw_below_drewN | apply below_drew1 | refine below_set ?_ GE557.out) | exact HB.out)) hb)
                  clear BK557
                  clear HB
                  have BK557 := n0_
                  have HB := n1_
                  clear n0_ n1_
                  (try clear hb)
                  (try clear hb2)
                  (try clear hk)
                  (try clear hi)
                  refine hK.out _ _ ⟨(blk_cell BK557.out 0).trans rfl, (blk_cell BK557.out 1).trans rfl, (blk_cell BK557.out 2).trans rfl, (blk_cell BK557.out 3).trans rfl, (blk_cell BK557.out 4).trans rfl⟩ (fun hHeld => ?_)
                  clear hK K
                  refine norm_ (a' := ?_) ?_ ?_
                  rotate_left
                  · show Act.put _ (some 24) _ = _
                    simp only [Act.put, List.setIfInBounds_toArray, List.set_cons_zero, List.set_cons_succ, i64_w, i32_w]
                    rfl
                  refine pure_ (i := 22) (N := some 25) (v := ?_) (a' := ?_) #[true, true, true, true, true, true, true, true, true, true, true, true, true, true, true, true, true, true, true, true, true, true, true, false] rfl rfl (any_of HT_.out (by kernel_rfl)) (fun _ _ _ h => h) (Or.inl ⟨by rfl, ?_⟩) ?_ ?_
                  rotate_left
                  · intro w'
                    go_simp
                    with_reducible rfl
                  rotate_left
                  · simp only [Act.put, List.setIfInBounds_toArray, List.set_cons_zero, List.set_cons_succ, i64_w, i32_w]
                    rfl
                  refine pure_ (i := 23) (N := some 2) (v := ?_) (a' := ?_) #[true, true, true, true, true, true, true, true, true, true, true, true, true, true, true, true, true, true, true, true, true, true, true, true] rfl rfl (any_of HT_.out (by kernel_rfl)) (fun _ _ _ h => h) (Or.inl ⟨by rfl, ?_⟩) ?_ ?_
                  rotate_left
                  · intro w'
                    go_simp
                    with_reducible rfl
                  rotate_left
                  · simp only [Act.put, List.setIfInBounds_toArray, List.set_cons_zero, List.set_cons_succ, i64_w, i32_w]
                    rfl
                  refine done_ (done_of HT_.out (by kernel_rfl)) ?_
                  try go_wp2
                  go_ret
                  exact ⟨by first | rfl | (simp [errW_none, errW_some] <;> rfl) | (simp [*, errW_none, errW_some] <;> rfl), by repeat (first | (with_reducible first | exact HB.out | apply below_alloc | apply pw_below_drewN | apply below_drew1 | refine below_set ?_ GE557.out) | exact HB.out)⟩
                · rw [if_neg c14] at H
                  exact absurd H (by simp)
              · rw [if_neg c12] at H
                exact absurd H (by simp)
            · rw [if_neg c11] at H
              exact absurd H (by simp)
          · rw [if_neg c9] at H
            exact absurd H (by simp)
        · rw [if_neg c8] at H
          exact absurd H (by simp)
      · rw [if_neg c6] at H
        exact absurd H (by simp)
    · rw [if_neg c5] at H
      exact absurd H (by simp)
  · rw [if_neg c3] at H
    exact absurd H (by simp)

def impl_joined.l0 : Nat → ByteArray → ByteArray → List ByteArray → Int → Int → Option (ByteArray)
  | 0, _, _, _, _, _ => none
  | k + 1, x1, x5, x8, x9, x10 => if x10 < x9 then (if 0 ≤ x10 then (if x10 < (x8.length : Int) then (if x10 > 0 then (if x5.size + x1.size ≤ 9223372036854775807 then (if (x5 ++ x1).size + (rdOf ByteArray.empty x8 x10).size ≤ 9223372036854775807 then (impl_joined.l0 k x1 ((x5 ++ x1) ++ (rdOf ByteArray.empty x8 x10)) x8 x9 (wrap64 (x10 + 1))) else (none)) else (none)) else (if x5.size + (rdOf ByteArray.empty x8 x10).size ≤ 9223372036854775807 then (impl_joined.l0 k x1 (x5 ++ (rdOf ByteArray.empty x8 x10)) x8 x9 (wrap64 (x10 + 1))) else (none))) else (none)) else (none)) else (some x5)
def impl_joined.f (k : Nat) (l0 : List ByteArray) (a1 : ByteArray) : Option (ByteArray) := impl_joined.l0 k a1 (⟨#[]⟩ : ByteArray) l0 (l0.length : Int) 0
theorem impl_joined.calls (k : Nat) (A0 : Option Addr) (c0 : Nat) (l0 : List ByteArray) (a1 : ByteArray) (r : ByteArray) (w : World) (hr0 : Kd.C Kd.string w A0 l0.length l0) (hc0 : l0.length ≤ c0) (h : impl_joined.f k l0 a1 = some r) :
    Calls Try.prog 106 #[.slice A0 l0.length c0, .string a1] w fun e w' => e = .returned (.string r) ∧ Drawn0 w w' := by
  have HR0 := Aside0.mk hr0
  have HC0 := Aside0.mk hc0
  clear hr0 hc0
  have H : (impl_joined.l0 k a1 (⟨#[]⟩ : ByteArray) l0 (l0.length : Int) 0) = some r := h
  clear h
  have H' := Aside0.mk H
  clear H
  go_enter Try.func106, Try.ntmps106
  go_wp2
  go_loopg [5, 10] k (fun kq v5 v10 w' => ∃ (x5_1 : ByteArray) (x10_1 : Int), v5 = .string x5_1 ∧ v10 = .int .i64 x10_1 ∧ Aside0 (impl_joined.l0 kq a1 x5_1 l0 (l0.length : Int) x10_1 = some r) ∧ Aside0 (kq ≤ k) ∧ Drawn0 w w')
  case atStart => exact ⟨((⟨#[]⟩ : ByteArray)), (0), (by first | rfl | (simp; done) | (simp [*]; done) | (simp; exact isE_ _)), (by first | rfl | (simp; done) | (simp [*]; done) | (simp; exact isE_ _)), H', ⟨Nat.le_refl _⟩, by repeat (first | exact Drawn0.refl _ | apply Drawn0.step)⟩
  case round =>
    clear H'
    try clear c1
    try clear p2
    obtain ⟨x5_1, x10_1, rfl, rfl, HA, HK1, ⟨m1, rfl⟩⟩ := hrel
    cases gk with
    | zero => exact absurd HA.out (by simp [impl_joined.l0])
    | succ k1 =>
      have H := HA.out
      clear HA
      simp only [impl_joined.l0] at H
      by_cases c3 : x10_1 < (l0.length : Int)
      · rw [if_pos c3] at H
        have c3b0 : decide (x10_1 < (l0.length : Int)) = true := decide_eq_true c3
        clear c3
        by_cases c4 : 0 ≤ x10_1
        · rw [if_pos c4] at H
          have c4b0 : decide (0 ≤ x10_1) = true := decide_eq_true c4
          clear c4
          by_cases c5 : x10_1 < (l0.length : Int)
          · rw [if_pos c5] at H
            have c5b0 : decide (x10_1 < (l0.length : Int)) = true := decide_eq_true c5
            clear c5
            by_cases c6 : x10_1 > 0
            · rw [if_pos c6] at H
              have c6b0 : decide (0 < x10_1) = true := decide_eq_true c6
              clear c6
              by_cases c7 : x5_1.size + a1.size ≤ 9223372036854775807
              · rw [if_pos c7] at H
                have c7b0 := eq_true c7
                have c7b1 : decide (x5_1.size + a1.size ≤ 9223372036854775807) = true := decide_eq_true c7
                try have c7b2 : (9223372036854775807 < x5_1.size + a1.size) = False := eq_false (Nat.not_lt.2 c7)
                by_cases c8 : (x5_1 ++ a1).size + (rdOf ByteArray.empty l0 x10_1).size ≤ 9223372036854775807
                · rw [if_pos c8] at H
                  have c8b0 := eq_true c8
                  have c8b1 : decide ((x5_1 ++ a1).size + (rdOf ByteArray.empty l0 x10_1).size ≤ 9223372036854775807) = true := decide_eq_true c8
                  try have c8b3 : (9223372036854775807 < x5_1.size + a1.size + (rdOf ByteArray.empty l0 x10_1).size) = False := eq_false (by have h_ := c8; simp only [ByteArray.size_append] at h_; (first | exact Nat.not_lt.2 h_ | omega))
                  try have c8b2 : (9223372036854775807 < (x5_1 ++ a1).size + (rdOf ByteArray.empty l0 x10_1).size) = False := eq_false (Nat.not_lt.2 c8)
                  have H' := Aside0.mk H
                  clear H
                  have p563 : 0 ≤ (x10_1 : Int) := of_decide_eq_true (by first | (with_reducible assumption) | assumption)
                  have q563 : x10_1 < (l0.length : Int) := of_decide_eq_true (by first | (with_reducible assumption) | assumption)
                  obtain ⟨ad563, e563, hx563_0⟩ := Kd.at_string HR0.out x10_1 p563 q563
                  cases e563
                  replace p563 := eq_true p563
                  replace q563 := eq_true q563
                  go_wp2
                  go_roundg k1
                  case measure => have := HK1.out; omega
                  case rel => exact ⟨((x5_1 ++ a1) ++ (rdOf ByteArray.empty l0 x10_1)), (wrap64 (x10_1 + 1)), (by first | rfl | (simp; done) | (simp [*]; done) | (simp; exact isE_ _)), (by first | rfl | (simp; done) | (simp [*]; done) | (simp; exact isE_ _)), H', ⟨by have := HK1.out; omega⟩, by repeat (first | exact Drawn0.refl _ | apply Drawn0.step)⟩
                · rw [if_neg c8] at H
                  exact absurd H (by simp)
              · rw [if_neg c7] at H
                exact absurd H (by simp)
            · rw [if_neg c6] at H
              have c6b0 : decide (0 < x10_1) = false := decide_eq_false c6
              clear c6
              by_cases c9 : x5_1.size + (rdOf ByteArray.empty l0 x10_1).size ≤ 9223372036854775807
              · rw [if_pos c9] at H
                have c9b0 := eq_true c9
                have c9b1 : decide (x5_1.size + (rdOf ByteArray.empty l0 x10_1).size ≤ 9223372036854775807) = true := decide_eq_true c9
                try have c9b2 : (9223372036854775807 < x5_1.size + (rdOf ByteArray.empty l0 x10_1).size) = False := eq_false (Nat.not_lt.2 c9)
                have H' := Aside0.mk H
                clear H
                have p563 : 0 ≤ (x10_1 : Int) := of_decide_eq_true (by first | (with_reducible assumption) | assumption)
                have q563 : x10_1 < (l0.length : Int) := of_decide_eq_true (by first | (with_reducible assumption) | assumption)
                obtain ⟨ad563, e563, hx563_0⟩ := Kd.at_string HR0.out x10_1 p563 q563
                cases e563
                replace p563 := eq_true p563
                replace q563 := eq_true q563
                go_wp2
                go_roundg k1
                case measure => have := HK1.out; omega
                case rel => exact ⟨(x5_1 ++ (rdOf ByteArray.empty l0 x10_1)), (wrap64 (x10_1 + 1)), (by first | rfl | (simp; done) | (simp [*]; done) | (simp; exact isE_ _)), (by first | rfl | (simp; done) | (simp [*]; done) | (simp; exact isE_ _)), H', ⟨by have := HK1.out; omega⟩, by repeat (first | exact Drawn0.refl _ | apply Drawn0.step)⟩
              · rw [if_neg c9] at H
                exact absurd H (by simp)
          · rw [if_neg c5] at H
            exact absurd H (by simp)
        · rw [if_neg c4] at H
          exact absurd H (by simp)
      · rw [if_neg c3] at H
        have c3b0 : decide (x10_1 < (l0.length : Int)) = false := decide_eq_false c3
        clear c3
        obtain rfl := Option.some.inj H
        go_wp2
        go_ret
        exact ⟨by first | rfl | (simp; done) | (simp [*]; done), by repeat (first | exact Drawn0.refl _ | apply Drawn0.step)⟩

def impl_FormatRollup.l0 : Nat → List ByteArray → List (S62) → Int → Int → Option (ByteArray)
  | 0, _, _, _, _ => none
  | k + 1, x3, x7, x8, x9 => if x9 < x8 then (if 0 ≤ x9 then (if x9 < (x7.length : Int) then ((impl_FormatInt.f k ((rd_T62 x7 x9).f0)).bind fun t569 => (if t569.size + 1 ≤ 9223372036854775807 then ((impl_groupText.f k ((rd_T62 x7 x9).f1.f0) ((rd_T62 x7 x9).f1.f1) ((rd_T62 x7 x9).f1.f2) ((rd_T62 x7 x9).f1.f3) ((rd_T62 x7 x9).f1.f4)).bind fun t570 => (if (t569 ++ (⟨#[47]⟩ : ByteArray)).size + t570.size ≤ 9223372036854775807 then (if x3.length < 8796093022208 then (impl_FormatRollup.l0 k (x3 ++ [(t569 ++ (⟨#[47]⟩ : ByteArray)) ++ t570]) x7 x8 (wrap64 (x9 + 1))) else (none)) else (none))) else (none))) else (none)) else (none)) else ((impl_joined.f k x3 (⟨#[32]⟩ : ByteArray)).bind fun t574 => (some t574))
def impl_FormatRollup.f (k : Nat) (l0 : List (S62)) : Option (ByteArray) := impl_FormatRollup.l0 k (([] : List ByteArray)) l0 (l0.length : Int) 0
def impl_FormatRollup.T5 : Bool × List (List Nat × List Nat) := (true, [([], []), ([], []), ([1], [1]), ([2], [2]), ([3], [3]), ([], []), ([5], [5]), ([6, 3], [6]), ([4, 7], [4, 7]), ([8], [8]), ([0, 9, 7], [0, 9]), ([10, 10, 0, 1, 2, 3, 4, 5, 6, 7, 8, 9, 10], [0, 10])])
def impl_FormatRollup.B5 : List Nat := [0, 0, 2, 6, 14, 0, 32, 110, 254, 510, 1023, 2047]
theorem impl_FormatRollup.tab5 : rtab .any (opsOf Try.f39 5) = impl_FormatRollup.T5 := by kernel_rfl
theorem impl_FormatRollup.bits5 : waitsOk impl_FormatRollup.T5.2 impl_FormatRollup.B5 = true := by kernel_rfl
theorem impl_FormatRollup.calls (k : Nat) (A0 : Option Addr) (c0 : Nat) (l0 : List (S62)) (r : ByteArray) (w : World) (hr0 : Kd.C k62 w A0 l0.length l0) (hc0 : l0.length ≤ c0) (h : impl_FormatRollup.f k l0 = some r) :
    Calls Try.prog 39 #[.slice A0 l0.length c0] w fun e w' => e = .returned (.string r) ∧ Below w.heap.size w w' := by
  have hu62 := Try.underlying62
  have hu60 := Try.underlying60
  have HR0 := Aside0.mk hr0
  have HC0 := Aside0.mk hc0
  clear hr0 hc0
  have HB := Aside0.mk (Below.refl w.heap.size w)
  have H : (impl_FormatRollup.l0 k (([] : List ByteArray)) l0 (l0.length : Int) 0) = some r := h
  clear h
  obtain ⟨y564, hy564⟩ : ∃ y_ : List ByteArray, y_ = (([] : List ByteArray)) := ⟨_, rfl⟩
  replace H : (impl_FormatRollup.l0 k y564 l0 (l0.length : Int) 0) = some r := by first | (rw [hy564]; with_reducible exact H) | (have H2_ := (Option.bind_some _ _).symm.trans H; rw [hy564]; with_reducible exact H2_) | (have H2_ := (Option.bind_some _ _).symm.trans H; with_reducible exact H2_) | with_reducible exact H | (rw [hy564]; exact H) | exact H
  have Ny564 := Aside0.mk hy564
  clear hy564
  have H' := Aside0.mk H
  clear H
  go_enter Try.func39, Try.ntmps39
  go_wp2_with (first | ((with_reducible refine gate_dst (N := 6) rfl ?_); refine Kd.R_lit Kd.string _ 9 ?hg (N := 6) ?hd (xs := ([] : List ByteArray)) (inner := []) (ok := fun _ => True) (okp := fun _ => True) ?hr ?hp (fun _ hk => hk) trivial (Below.refl _ _) (Nat.le_refl _) (by simp) ?_; (case hd => rfl); (case hg => rfl); (case hr => first | (go_simp; done) | (go_simp; rfl)); (case hp => exact (Reps.none _ _)); intro v565 w2 ho3 hb hg_ hnew_; clear hg_ hnew_; (first | rw [← Ny564.out] at ho3 | (simp only [Int.reduceToNat] at ho3; rw [← Ny564.out] at ho3)); have n0_ := Aside0.mk (Kd.R_lower ho3 (below_size (by repeat (first | (with_reducible first | exact HB.out | apply below_alloc | apply pw_below_drewN | apply below_drew1) | exact HB.out)))); have n1_ := Aside0.mk (below_step (by repeat (first | (with_reducible first | exact HB.out | apply below_alloc | apply pw_below_drewN | apply below_drew1) | exact HB.out)) hb); clear HB; have HO566 := n0_; have HB := n1_; clear n0_ n1_; clear hb ho3))
  go_loopg [3, 9] k (fun kq v3 v9 w' => ∃ (x3_1 : List ByteArray) (x9_1 : Int), v9 = .int .i64 x9_1 ∧ Aside0 (impl_FormatRollup.l0 kq x3_1 l0 (l0.length : Int) x9_1 = some r) ∧ Aside0 (kq ≤ k) ∧ Aside0 (Kd.R Kd.string 9 w' w.heap.size (fun _ => True) v3 x3_1) ∧ Aside0 (Below w.heap.size w w'))
  case atStart => exact ⟨(y564), (0), (by first | rfl | (simp; done) | (simp [*]; done) | (simp; exact isE_ _)), H', ⟨Nat.le_refl _⟩, ⟨by (with_reducible repeat (first | apply Kd.R_alloc | apply Kd.R_drewN | apply Kd.R_drew)); exact HO566.out⟩, ⟨by repeat (first | (with_reducible first | exact HB.out | apply below_alloc | apply pw_below_drewN | apply below_drew1) | exact HB.out)⟩⟩
  case round =>
    clear H'
    try clear p2
    try clear c3
    obtain ⟨x3_1, x9_1, rfl, HA, HK1, HO_3, HB⟩ := hrel
    cases gk with
    | zero => exact absurd HA.out (by simp [impl_FormatRollup.l0])
    | succ k1 =>
      have H := HA.out
      clear HA
      simp only [impl_FormatRollup.l0] at H
      by_cases c4 : x9_1 < (l0.length : Int)
      · rw [if_pos c4] at H
        have c4b0 : decide (x9_1 < (l0.length : Int)) = true := decide_eq_true c4
        clear c4
        by_cases c5 : 0 ≤ x9_1
        · rw [if_pos c5] at H
          have c5b0 : decide (0 ≤ x9_1) = true := decide_eq_true c5
          clear c5
          by_cases c6 : x9_1 < (l0.length : Int)
          · rw [if_pos c6] at H
            have c6b0 : decide (x9_1 < (l0.length : Int)) = true := decide_eq_true c6
            clear c6
            replace H := Option.bind_eq_some_iff.mp H
            obtain ⟨t569, A70, H⟩ := H
            replace H : (if t569.size + 1 ≤ 9223372036854775807 then ((impl_groupText.f k1 ((rd_T62 l0 x9_1).f1.f0) ((rd_T62 l0 x9_1).f1.f1) ((rd_T62 l0 x9_1).f1.f2) ((rd_T62 l0 x9_1).f1.f3) ((rd_T62 l0 x9_1).f1.f4)).bind fun t570 => (if (t569 ++ (⟨#[47]⟩ : ByteArray)).size + t570.size ≤ 9223372036854775807 then (if x3_1.length < 8796093022208 then (impl_FormatRollup.l0 k1 (x3_1 ++ [(t569 ++ (⟨#[47]⟩ : ByteArray)) ++ t570]) l0 (l0.length : Int) (wrap64 (x9_1 + 1))) else (none)) else (none))) else (none)) = some r := H
            have A7 := Aside0.mk A70
            clear A70
            by_cases c8 : t569.size + 1 ≤ 9223372036854775807
            · rw [if_pos c8] at H
              have c8b0 := eq_true c8
              have c8b1 : decide (t569.size + 1 ≤ 9223372036854775807) = true := decide_eq_true c8
              try have c8b2 : (9223372036854775807 < t569.size + 1) = False := eq_false (Nat.not_lt.2 c8)
              replace H := Option.bind_eq_some_iff.mp H
              obtain ⟨t570, A90, H⟩ := H
              replace H : (if (t569 ++ (⟨#[47]⟩ : ByteArray)).size + t570.size ≤ 9223372036854775807 then (if x3_1.length < 8796093022208 then (impl_FormatRollup.l0 k1 (x3_1 ++ [(t569 ++ (⟨#[47]⟩ : ByteArray)) ++ t570]) l0 (l0.length : Int) (wrap64 (x9_1 + 1))) else (none)) else (none)) = some r := H
              have A9 := Aside0.mk A90
              clear A90
              by_cases c10 : (t569 ++ (⟨#[47]⟩ : ByteArray)).size + t570.size ≤ 9223372036854775807
              · rw [if_pos c10] at H
                have c10b0 := eq_true c10
                have c10b1 : decide ((t569 ++ (⟨#[47]⟩ : ByteArray)).size + t570.size ≤ 9223372036854775807) = true := decide_eq_true c10
                try have c10b3 : (9223372036854775807 < t569.size + 1 + t570.size) = False := eq_false (by have h_ := c10; simp only [ByteArray.size_append] at h_; (first | exact Nat.not_lt.2 h_ | omega))
                try have c10b2 : (9223372036854775807 < (t569 ++ (⟨#[47]⟩ : ByteArray)).size + t570.size) = False := eq_false (Nat.not_lt.2 c10)
                by_cases c11 : x3_1.length < 8796093022208
                · rw [if_pos c11] at H
                  have LMc11 := Aside0.mk c11
                  clear c11
                  obtain ⟨y571, hy571⟩ : ∃ y_ : List ByteArray, y_ = (x3_1 ++ [(t569 ++ (⟨#[47]⟩ : ByteArray)) ++ t570]) := ⟨_, rfl⟩
                  replace H : (impl_FormatRollup.l0 k1 y571 l0 (l0.length : Int) (wrap64 (x9_1 + 1))) = some r := by first | (rw [hy571]; with_reducible exact H) | (have H2_ := (Option.bind_some _ _).symm.trans H; rw [hy571]; with_reducible exact H2_) | (have H2_ := (Option.bind_some _ _).symm.trans H; with_reducible exact H2_) | with_reducible exact H | (rw [hy571]; exact H) | exact H
                  have Ny571 := Aside0.mk hy571
                  clear hy571
                  have H' := Aside0.mk H
                  clear H
                  have p567 : 0 ≤ (x9_1 : Int) := of_decide_eq_true (by first | (with_reducible assumption) | assumption)
                  have q567 : x9_1 < (l0.length : Int) := of_decide_eq_true (by first | (with_reducible assumption) | assumption)
                  obtain ⟨ad567, e567, hx567_0, hx567_1, hx567_2, hx567_3, hx567_4, hx567_5⟩ := at_T62 HR0.out x9_1 p567 q567
                  cases e567
                  replace hx567_0 := (HB.out.cell (World.block_lt_of_cell? w _ hx567_0)).trans hx567_0
                  replace hx567_1 := (HB.out.cell (World.block_lt_of_cell? w _ hx567_1)).trans hx567_1
                  replace hx567_2 := (HB.out.cell (World.block_lt_of_cell? w _ hx567_2)).trans hx567_2
                  replace hx567_3 := (HB.out.cell (World.block_lt_of_cell? w _ hx567_3)).trans hx567_3
                  replace hx567_4 := (HB.out.cell (World.block_lt_of_cell? w _ hx567_4)).trans hx567_4
                  replace hx567_5 := (HB.out.cell (World.block_lt_of_cell? w _ hx567_5)).trans hx567_5
                  replace p567 := eq_true p567
                  replace q567 := eq_true q567
                  try go_wp2_with (first | ((with_reducible refine gate_dst (N := 5) rfl ?_); refine box_event ?hg (N := 5) ?hd (cs := #[.int .i64 0, .int .i64 0, .int .i64 0, .int .i64 0, .int .i64 0, .int .i64 0]) (t := 62) ?hr ?_; (case hd => rfl); (case hg => rfl); (case hr => first | (go_simp; done) | (go_simp; rfl)); intro gb568 hg w12 hbox hb; have n0_ := Aside0.mk (Kd.R_below (by (with_reducible repeat (first | apply Kd.R_alloc | apply Kd.R_drewN | apply Kd.R_drew)); exact HO_3.out) hb); have n1_ := Aside0.mk (below_step (by repeat (first | (with_reducible first | exact HB.out | apply below_alloc | apply pw_below_drewN | apply below_drew1) | exact HB.out)) hb); have n2_ := Aside0.mk (hbox); have n3_ := Aside0.mk ((by rw [hg]; exact (below_size (by repeat (first | (with_reducible first | exact HB.out | apply below_alloc | apply pw_below_drewN | apply below_drew1) | exact HB.out))) : w.heap.size ≤ gb568)); have n4_ := Aside0.mk ((by rw [hg]; exact (below_size (by repeat (first | (with_reducible first | exact HB.out | apply below_alloc | apply pw_below_drewN | apply below_drew1) | exact HB.out))) : w.heap.size ≤ gb568)); clear HO_3; clear HB; have HO_3 := n0_; have HB := n1_; have BK568 := n2_; have GW568 := n3_; have GE568 := n4_; clear n0_ n1_ n2_ n3_ n4_; clear hb hbox hg; have hcz13_0 : w12.cell? ⟨gb568, 0, none⟩ = some (.int .i64 0) := (blk_cell BK568.out 0).trans rfl; have hcz13_1 : w12.cell? ⟨gb568, 1, none⟩ = some (.int .i64 0) := (blk_cell BK568.out 1).trans rfl; have hcz13_2 : w12.cell? ⟨gb568, 2, none⟩ = some (.int .i64 0) := (blk_cell BK568.out 2).trans rfl; have hcz13_3 : w12.cell? ⟨gb568, 3, none⟩ = some (.int .i64 0) := (blk_cell BK568.out 3).trans rfl; have hcz13_4 : w12.cell? ⟨gb568, 4, none⟩ = some (.int .i64 0) := (blk_cell BK568.out 4).trans rfl; have hcz13_5 : w12.cell? ⟨gb568, 5, none⟩ = some (.int .i64 0) := (blk_cell BK568.out 5).trans rfl; have hfz13_0 := blk_frozen BK568.out 0; have hfz13_1 := blk_frozen BK568.out 1; have hfz13_2 := blk_frozen BK568.out 2; have hfz13_3 := blk_frozen BK568.out 3; have hfz13_4 := blk_frozen BK568.out 4; have hfz13_5 := blk_frozen BK568.out 5))
                  have n0_ : Aside0 (Kd.R Kd.string 9 ((((((w12.setCell ⟨gb568, 0, none⟩ (.int .i64 ((rd_T62 l0 x9_1).f0))).setCell ⟨gb568, 1, none⟩ (.int .i64 ((rd_T62 l0 x9_1).f1.f0))).setCell ⟨gb568, 2, none⟩ (.int .i64 ((rd_T62 l0 x9_1).f1.f1))).setCell ⟨gb568, 3, none⟩ (.int .i64 ((rd_T62 l0 x9_1).f1.f2))).setCell ⟨gb568, 4, none⟩ (.int .i64 ((rd_T62 l0 x9_1).f1.f3))).setCell ⟨gb568, 5, none⟩ (.int .i64 ((rd_T62 l0 x9_1).f1.f4))) w.heap.size (fun _ => True) u3 x3_1) := ⟨by (with_reducible repeat (first | apply Kd.R_alloc | apply Kd.R_drewN | apply Kd.R_drew)); exact Kd.R_mono (Kd.R_far (p := ⟨gb568, 5, none⟩) (Kd.R_far (p := ⟨gb568, 4, none⟩) (Kd.R_far (p := ⟨gb568, 3, none⟩) (Kd.R_far (p := ⟨gb568, 2, none⟩) (Kd.R_far (p := ⟨gb568, 1, none⟩) (Kd.R_far (p := ⟨gb568, 0, none⟩) (Kd.R_types HO_3.out BK568.out (by decide)) (fun _ hk => hk.2) (.int .i64 ((rd_T62 l0 x9_1).f0))) (fun _ hk => hk.2) (.int .i64 ((rd_T62 l0 x9_1).f1.f0))) (fun _ hk => hk.2) (.int .i64 ((rd_T62 l0 x9_1).f1.f1))) (fun _ hk => hk.2) (.int .i64 ((rd_T62 l0 x9_1).f1.f2))) (fun _ hk => hk.2) (.int .i64 ((rd_T62 l0 x9_1).f1.f3))) (fun _ hk => hk.2) (.int .i64 ((rd_T62 l0 x9_1).f1.f4))) (fun _ hk => trivial)⟩
                  have n1_ : Aside0 (((((((w12.setCell ⟨gb568, 0, none⟩ (.int .i64 ((rd_T62 l0 x9_1).f0))).setCell ⟨gb568, 1, none⟩ (.int .i64 ((rd_T62 l0 x9_1).f1.f0))).setCell ⟨gb568, 2, none⟩ (.int .i64 ((rd_T62 l0 x9_1).f1.f1))).setCell ⟨gb568, 3, none⟩ (.int .i64 ((rd_T62 l0 x9_1).f1.f2))).setCell ⟨gb568, 4, none⟩ (.int .i64 ((rd_T62 l0 x9_1).f1.f3))).setCell ⟨gb568, 5, none⟩ (.int .i64 ((rd_T62 l0 x9_1).f1.f4))).heap[gb568]? = some (.cells #[.int .i64 ((rd_T62 l0 x9_1).f0), .int .i64 ((rd_T62 l0 x9_1).f1.f0), .int .i64 ((rd_T62 l0 x9_1).f1.f1), .int .i64 ((rd_T62 l0 x9_1).f1.f2), .int .i64 ((rd_T62 l0 x9_1).f1.f3), .int .i64 ((rd_T62 l0 x9_1).f1.f4)] 62 (0, 0))) := ⟨by (with_reducible repeat (first | refine blk_drewN ?_ _ | refine blk_drew ?_ | refine blk_alloc ?_ _)); refine blk_put (cs := #[.int .i64 ((rd_T62 l0 x9_1).f0), .int .i64 ((rd_T62 l0 x9_1).f1.f0), .int .i64 ((rd_T62 l0 x9_1).f1.f1), .int .i64 ((rd_T62 l0 x9_1).f1.f2), .int .i64 ((rd_T62 l0 x9_1).f1.f3), .int .i64 0]) ?_ 5 _ rfl; (with_reducible repeat (first | refine blk_drewN ?_ _ | refine blk_drew ?_ | refine blk_alloc ?_ _)); refine blk_put (cs := #[.int .i64 ((rd_T62 l0 x9_1).f0), .int .i64 ((rd_T62 l0 x9_1).f1.f0), .int .i64 ((rd_T62 l0 x9_1).f1.f1), .int .i64 ((rd_T62 l0 x9_1).f1.f2), .int .i64 0, .int .i64 0]) ?_ 4 _ rfl; (with_reducible repeat (first | refine blk_drewN ?_ _ | refine blk_drew ?_ | refine blk_alloc ?_ _)); refine blk_put (cs := #[.int .i64 ((rd_T62 l0 x9_1).f0), .int .i64 ((rd_T62 l0 x9_1).f1.f0), .int .i64 ((rd_T62 l0 x9_1).f1.f1), .int .i64 0, .int .i64 0, .int .i64 0]) ?_ 3 _ rfl; (with_reducible repeat (first | refine blk_drewN ?_ _ | refine blk_drew ?_ | refine blk_alloc ?_ _)); refine blk_put (cs := #[.int .i64 ((rd_T62 l0 x9_1).f0), .int .i64 ((rd_T62 l0 x9_1).f1.f0), .int .i64 0, .int .i64 0, .int .i64 0, .int .i64 0]) ?_ 2 _ rfl; (with_reducible repeat (first | refine blk_drewN ?_ _ | refine blk_drew ?_ | refine blk_alloc ?_ _)); refine blk_put (cs := #[.int .i64 ((rd_T62 l0 x9_1).f0), .int .i64 0, .int .i64 0, .int .i64 0, .int .i64 0, .int .i64 0]) ?_ 1 _ rfl; (with_reducible repeat (first | refine blk_drewN ?_ _ | refine blk_drew ?_ | refine blk_alloc ?_ _)); refine blk_put (cs := #[.int .i64 0, .int .i64 0, .int .i64 0, .int .i64 0, .int .i64 0, .int .i64 0]) ?_ 0 _ rfl; (with_reducible repeat (first | refine blk_drewN ?_ _ | refine blk_drew ?_ | refine blk_alloc ?_ _)); exact BK568.out⟩
                  have n2_ : Aside0 (Below w.heap.size w ((((((w12.setCell ⟨gb568, 0, none⟩ (.int .i64 ((rd_T62 l0 x9_1).f0))).setCell ⟨gb568, 1, none⟩ (.int .i64 ((rd_T62 l0 x9_1).f1.f0))).setCell ⟨gb568, 2, none⟩ (.int .i64 ((rd_T62 l0 x9_1).f1.f1))).setCell ⟨gb568, 3, none⟩ (.int .i64 ((rd_T62 l0 x9_1).f1.f2))).setCell ⟨gb568, 4, none⟩ (.int .i64 ((rd_T62 l0 x9_1).f1.f3))).setCell ⟨gb568, 5, none⟩ (.int .i64 ((rd_T62 l0 x9_1).f1.f4)))) := ⟨by repeat (first | (with_reducible first | exact HB.out | apply below_alloc | apply pw_below_drewN | apply below_drew1 | refine below_set ?_ GE568.out) | exact HB.out)⟩
                  (try clear HO_3)
                  (try clear BK568)
                  (try clear HB)
                  generalize ((((((w12.setCell ⟨gb568, 0, none⟩ (.int .i64 ((rd_T62 l0 x9_1).f0))).setCell ⟨gb568, 1, none⟩ (.int .i64 ((rd_T62 l0 x9_1).f1.f0))).setCell ⟨gb568, 2, none⟩ (.int .i64 ((rd_T62 l0 x9_1).f1.f1))).setCell ⟨gb568, 3, none⟩ (.int .i64 ((rd_T62 l0 x9_1).f1.f2))).setCell ⟨gb568, 4, none⟩ (.int .i64 ((rd_T62 l0 x9_1).f1.f3))).setCell ⟨gb568, 5, none⟩ (.int .i64 ((rd_T62 l0 x9_1).f1.f4))) = w14 at n0_ n1_ n2_ ⊢
                  have HO_3 := n0_
                  have BK568 := n1_
                  have HB := n2_
                  clear n0_ n1_ n2_
                  have n0_ := Aside0.mk (Kd.R_drew HO_3.out)
                  have n1_ := Aside0.mk (blk_drew BK568.out)
                  have n2_ := Aside0.mk (below_drew1 HB.out)
                  clear HO_3
                  clear BK568
                  clear HB
                  have HO_3 := n0_
                  have BK568 := n1_
                  have HB := n2_
                  clear n0_ n1_ n2_
                  refine start_ (n := 12) (S := fun w' => w'.cell? ⟨gb568, 0, none⟩ = some (.int .i64 ((rd_T62 l0 x9_1).f0)) ∧ w'.cell? ⟨gb568, 1, none⟩ = some (.int .i64 ((rd_T62 l0 x9_1).f1.f0)) ∧ w'.cell? ⟨gb568, 2, none⟩ = some (.int .i64 ((rd_T62 l0 x9_1).f1.f1)) ∧ w'.cell? ⟨gb568, 3, none⟩ = some (.int .i64 ((rd_T62 l0 x9_1).f1.f2)) ∧ w'.cell? ⟨gb568, 4, none⟩ = some (.int .i64 ((rd_T62 l0 x9_1).f1.f3)) ∧ w'.cell? ⟨gb568, 5, none⟩ = some (.int .i64 ((rd_T62 l0 x9_1).f1.f4))) (ds := []) #[false, false, false, false, false, false, false, false, false, false, false, false] (by kernel_rfl) rfl rfl ⟨(blk_cell BK568.out 0).trans rfl, (blk_cell BK568.out 1).trans rfl, (blk_cell BK568.out 2).trans rfl, (blk_cell BK568.out 3).trans rfl, (blk_cell BK568.out 4).trans rfl, (blk_cell BK568.out 5).trans rfl⟩ (fun hHeld => ?_); refine with_tabW impl_FormatRollup.tab5 impl_FormatRollup.bits5 (fun HT_ HW_ => ?_)
                  generalize w14.drew = w15 at HO_3 BK568 HB hHeld ⊢
                  refine pure_ (i := 0) (N := some 13) (v := ?_) (a' := ?_) #[true, false, false, false, false, false, false, false, false, false, false, false] rfl rfl (any_of HT_.out (by kernel_rfl)) (fun _ _ _ h => h) (Or.inl ⟨by rfl, ?_⟩) ?_ ?_
                  rotate_left
                  · intro w'
                    go_simp
                    with_reducible rfl
                  rotate_left
                  · simp only [Act.put, List.setIfInBounds_toArray, List.set_cons_zero, List.set_cons_succ, i64_w, i32_w]
                    rfl
                  refine pure_ (i := 1) (N := some 14) (v := ?_) (a' := ?_) #[true, true, false, false, false, false, false, false, false, false, false, false] rfl rfl (any_of HT_.out (by kernel_rfl)) (fun _ _ _ h => h) (Or.inl ⟨by rfl, ?_⟩) ?_ ?_
                  rotate_left
                  · intro w'
                    go_simp
                    with_reducible rfl
                  rotate_left
                  · simp only [Act.put, List.setIfInBounds_toArray, List.set_cons_zero, List.set_cons_succ, i64_w, i32_w]
                    rfl
                  refine pure_ (i := 5) (N := some 18) (v := ?_) (a' := ?_) #[true, true, false, false, false, true, false, false, false, false, false, false] rfl rfl (any_of HT_.out (by kernel_rfl)) (fun _ _ _ h => h) (Or.inl ⟨by rfl, ?_⟩) ?_ ?_
                  rotate_left
                  · intro w'
                    go_simp
                    with_reducible rfl
                  rotate_left
                  · simp only [Act.put, List.setIfInBounds_toArray, List.set_cons_zero, List.set_cons_succ, i64_w, i32_w]
                    rfl
                  refine take_ (i := 2) (N := some 15) (v := ?_) (a' := ?_) #[true, true, true, false, false, true, false, false, false, false, false, false] rfl rfl (take_ofW HT_.out HW_.out (by kernel_rfl)) (fun _ _ _ h => h) (Or.inl ⟨by rfl, ?_⟩) hHeld ?_ ?_
                  rotate_left
                  · rintro w' ⟨s0, s1, s2, s3, s4, s5⟩
                    go_simp
                    with_reducible rfl
                  rotate_left
                  · simp only [Act.put, List.setIfInBounds_toArray, List.set_cons_zero, List.set_cons_succ, i64_w, i32_w]
                    rfl
                  refine take_ (i := 6) (N := some 19) (v := ?_) (a' := ?_) #[true, true, true, false, false, true, true, false, false, false, false, false] rfl rfl (take_ofW HT_.out HW_.out (by kernel_rfl)) (fun _ _ _ h => h) (Or.inl ⟨by rfl, ?_⟩) hHeld ?_ ?_
                  rotate_left
                  · rintro w' ⟨s0, s1, s2, s3, s4, s5⟩
                    go_simp
                    with_reducible rfl
                  rotate_left
                  · simp only [Act.put, List.setIfInBounds_toArray, List.set_cons_zero, List.set_cons_succ, i64_w, i32_w]
                    rfl
                  refine one_ (i := 3) (N := some 16) #[true, true, true, true, false, true, true, false, false, false, false, false] rfl rfl (one_of HT_.out (by kernel_rfl)) (by decide) (fun K hK => ?_)
                  refine goes_ Try.func104 (by kernel_rfl) rfl #[.int .i64 ((rd_T62 l0 x9_1).f0)] (by rfl) rfl rfl (by (try simp only [List.map_toArray, List.map_cons, List.map_nil]); first | done | rfl | (simp only [List.length_drop, List.length_take]; rfl)) ?_
                  with_reducible refine (impl_FormatInt.calls k1 ((rd_T62 l0 x9_1).f0) t569 _ A7.out).mono ?_
                  rintro e w16 ⟨rfl, hb⟩
                  refine ⟨_, rfl, ?_⟩
                  have n0_ := Aside0.mk (Kd.R_below (by (with_reducible repeat (first | apply Kd.R_alloc | apply Kd.R_drewN | apply Kd.R_drew)); exact HO_3.out) hb)
                  have n1_ := Aside0.mk (blk_below (g := gb568) (o := .cells #[.int .i64 ((rd_T62 l0 x9_1).f0), .int .i64 ((rd_T62 l0 x9_1).f1.f0), .int .i64 ((rd_T62 l0 x9_1).f1.f1), .int .i64 ((rd_T62 l0 x9_1).f1.f2), .int .i64 ((rd_T62 l0 x9_1).f1.f3), .int .i64 ((rd_T62 l0 x9_1).f1.f4)] 62 (0, 0)) (by (with_reducible repeat (first | refine blk_drewN ?_ _ | refine blk_drew ?_ | refine blk_alloc ?_ _)); exact BK568.out) hb)
                  have n2_ := Aside0.mk (below_step (by repeat (first | (with_reducible first | exact HB.out | apply below_alloc | apply pw_below_drewN | apply below_drew1 | refine below_set ?_ GE568.out) | exact HB.out)) hb)
                  clear HO_3
                  clear BK568
                  clear HB
                  have HO_3 := n0_
                  have BK568 := n1_
                  have HB := n2_
                  clear n0_ n1_ n2_
                  (try clear hb)
                  (try clear hb2)
                  (try clear hk)
                  (try clear hi)
                  refine hK.out _ _ ⟨(blk_cell BK568.out 0).trans rfl, (blk_cell BK568.out 1).trans rfl, (blk_cell BK568.out 2).trans rfl, (blk_cell BK568.out 3).trans rfl, (blk_cell BK568.out 4).trans rfl, (blk_cell BK568.out 5).trans rfl⟩ (fun hHeld => ?_)
                  clear hK K
                  refine norm_ (a' := ?_) ?_ ?_
                  rotate_left
                  · show Act.put _ (some 16) _ = _
                    simp only [Act.put, List.setIfInBounds_toArray, List.set_cons_zero, List.set_cons_succ, i64_w, i32_w]
                    rfl
                  refine pure_ (i := 4) (N := some 17) (v := ?_) (a' := ?_) #[true, true, true, true, true, true, true, false, false, false, false, false] rfl rfl (any_of HT_.out (by kernel_rfl)) (fun _ _ _ h => h) (Or.inl ⟨by rfl, ?_⟩) ?_ ?_
                  rotate_left
                  · intro w'
                    go_simp
                    with_reducible rfl
                  rotate_left
                  · simp only [Act.put, List.setIfInBounds_toArray, List.set_cons_zero, List.set_cons_succ, i64_w, i32_w]
                    rfl
                  refine one_ (i := 7) (N := some 20) #[true, true, true, true, true, true, true, true, false, false, false, false] rfl rfl (one_of HT_.out (by kernel_rfl)) (by decide) (fun K hK => ?_)
                  refine goes_ Try.func105 (by kernel_rfl) rfl #[.agg #[.int .i64 ((rd_T62 l0 x9_1).f1.f0), .int .i64 ((rd_T62 l0 x9_1).f1.f1), .int .i64 ((rd_T62 l0 x9_1).f1.f2), .int .i64 ((rd_T62 l0 x9_1).f1.f3), .int .i64 ((rd_T62 l0 x9_1).f1.f4)]] (by rfl) rfl rfl (by (try simp only [List.map_toArray, List.map_cons, List.map_nil]); first | done | rfl | (simp only [List.length_drop, List.length_take]; rfl)) ?_
                  with_reducible refine (impl_groupText.calls k1 ((rd_T62 l0 x9_1).f1.f0) ((rd_T62 l0 x9_1).f1.f1) ((rd_T62 l0 x9_1).f1.f2) ((rd_T62 l0 x9_1).f1.f3) ((rd_T62 l0 x9_1).f1.f4) t570 _ A9.out).mono ?_
                  rintro e w17 ⟨rfl, hb⟩
                  refine ⟨_, rfl, ?_⟩
                  have n0_ := Aside0.mk (Kd.R_below (by (with_reducible repeat (first | apply Kd.R_alloc | apply Kd.R_drewN | apply Kd.R_drew)); exact HO_3.out) hb)
                  have n1_ := Aside0.mk (blk_below (g := gb568) (o := .cells #[.int .i64 ((rd_T62 l0 x9_1).f0), .int .i64 ((rd_T62 l0 x9_1).f1.f0), .int .i64 ((rd_T62 l0 x9_1).f1.f1), .int .i64 ((rd_T62 l0 x9_1).f1.f2), .int .i64 ((rd_T62 l0 x9_1).f1.f3), .int .i64 ((rd_T62 l0 x9_1).f1.f4)] 62 (0, 0)) (by (with_reducible repeat (first | refine blk_drewN ?_ _ | refine blk_drew ?_ | refine blk_alloc ?_ _)); exact BK568.out) hb)
                  have n2_ := Aside0.mk (below_step (by repeat (first | (with_reducible first | exact HB.out | apply below_alloc | apply pw_below_drewN | apply below_drew1 | refine below_set ?_ GE568.out) | exact HB.out)) hb)
                  clear HO_3
                  clear BK568
                  clear HB
                  have HO_3 := n0_
                  have BK568 := n1_
                  have HB := n2_
                  clear n0_ n1_ n2_
                  (try clear hb)
                  (try clear hb2)
                  (try clear hk)
                  (try clear hi)
                  refine hK.out _ _ ⟨(blk_cell BK568.out 0).trans rfl, (blk_cell BK568.out 1).trans rfl, (blk_cell BK568.out 2).trans rfl, (blk_cell BK568.out 3).trans rfl, (blk_cell BK568.out 4).trans rfl, (blk_cell BK568.out 5).trans rfl⟩ (fun hHeld => ?_)
                  clear hK K
                  refine norm_ (a' := ?_) ?_ ?_
                  rotate_left
                  · show Act.put _ (some 20) _ = _
                    simp only [Act.put, List.setIfInBounds_toArray, List.set_cons_zero, List.set_cons_succ, i64_w, i32_w]
                    rfl
                  refine pure_ (i := 8) (N := some 21) (v := ?_) (a' := ?_) #[true, true, true, true, true, true, true, true, true, false, false, false] rfl rfl (any_of HT_.out (by kernel_rfl)) (fun _ _ _ h => h) (Or.inl ⟨by rfl, ?_⟩) ?_ ?_
                  rotate_left
                  · intro w'
                    go_simp
                    with_reducible rfl
                  rotate_left
                  · simp only [Act.put, List.setIfInBounds_toArray, List.set_cons_zero, List.set_cons_succ, i64_w, i32_w]
                    rfl
                  refine one_ (i := 9) (N := some 22) #[true, true, true, true, true, true, true, true, true, true, false, false] rfl rfl (one_of HT_.out (by kernel_rfl)) (by decide) (fun K hK => ?_)
                  refine value_ (w1 := ?_) (v := ?_) (by rfl) rfl ?_ ?_
                  rotate_left 2
                  · go_simp
                    constructor
                    · rfl
                    · rfl
                  refine hK.out _ _ ⟨(blk_cell (blk_alloc BK568.out _) 0).trans rfl, (blk_cell (blk_alloc BK568.out _) 1).trans rfl, (blk_cell (blk_alloc BK568.out _) 2).trans rfl, (blk_cell (blk_alloc BK568.out _) 3).trans rfl, (blk_cell (blk_alloc BK568.out _) 4).trans rfl, (blk_cell (blk_alloc BK568.out _) 5).trans rfl⟩ (fun hHeld => ?_)
                  clear hK K
                  refine norm_ (a' := ?_) ?_ ?_
                  rotate_left
                  · show Act.put _ (some 22) _ = _
                    simp only [Act.put, List.setIfInBounds_toArray, List.set_cons_zero, List.set_cons_succ, i64_w, i32_w]
                    rfl
                  refine one_ (i := 10) (N := some 23) #[true, true, true, true, true, true, true, true, true, true, true, false] rfl rfl (one_of HT_.out (by kernel_rfl)) (by decide) (fun K hK => ?_)
                  refine Kd.R_append_step Kd.string (w0 := w) w.heap.size (by rfl) (.tmp 13) (.tmp 22) 101 9 (.string ⟨#[]⟩) 16 rfl Try.underlying101 info9 rfl (by decide) (by omega) u3 x3_1 ((t569 ++ (⟨#[47]⟩ : ByteArray)) ++ t570) [.string ((t569 ++ (⟨#[47]⟩ : ByteArray)) ++ t570)] (fun _ => True) (fun _ => False) rfl rfl ?aP (fun _ hk => hk.elim) ?aF ?aO ?aB ?aS ?aL ?_
                  (case aP => exact rfl)
                  (case aB => exact (by repeat (first | (with_reducible first | exact HB.out | apply below_alloc | apply pw_below_drewN | apply below_drew1 | refine below_set ?_ GE568.out) | exact HB.out)))
                  (case aF => exact (fun _ _ => trivial))
                  (case aO => exact (by (with_reducible repeat (first | apply Kd.R_alloc | apply Kd.R_drewN | apply Kd.R_drew)); exact HO_3.out))
                  (case aS => exact (below_size (by repeat (first | (with_reducible first | exact HB.out | apply below_alloc | apply pw_below_drewN | apply below_drew1 | refine below_set ?_ GE568.out) | exact HB.out))))
                  (case aL => have := LMc11.out; omega)
                  intro v572 w18 ho hb hg hat
                  rw [← Ny571.out] at ho
                  have n0_ := Aside0.mk (blk_grown (g := gb568) (o := .cells #[.int .i64 ((rd_T62 l0 x9_1).f0), .int .i64 ((rd_T62 l0 x9_1).f1.f0), .int .i64 ((rd_T62 l0 x9_1).f1.f1), .int .i64 ((rd_T62 l0 x9_1).f1.f2), .int .i64 ((rd_T62 l0 x9_1).f1.f3), .int .i64 ((rd_T62 l0 x9_1).f1.f4)] 62 (0, 0)) (by (with_reducible repeat (first | refine blk_drewN ?_ _ | refine blk_drew ?_ | refine blk_alloc ?_ _)); exact BK568.out) hg (Kd.R_ne HO_3.out BK568.out (by decide)))
                  have n1_ := Aside0.mk (hb)
                  have n2_ := Aside0.mk (ho)
                  clear BK568
                  clear HB
                  clear HO_3
                  have BK568 := n0_
                  have HB := n1_
                  have HO573 := n2_
                  clear n0_ n1_ n2_
                  clear ho hb hg hat
                  refine hK.out _ _ ⟨(blk_cell BK568.out 0).trans rfl, (blk_cell BK568.out 1).trans rfl, (blk_cell BK568.out 2).trans rfl, (blk_cell BK568.out 3).trans rfl, (blk_cell BK568.out 4).trans rfl, (blk_cell BK568.out 5).trans rfl⟩ (fun hHeld => ?_)
                  clear hK K
                  refine norm_ (a' := ?_) ?_ ?_
                  rotate_left
                  · show Act.put _ (some 23) _ = _
                    simp only [Act.put, List.setIfInBounds_toArray, List.set_cons_zero, List.set_cons_succ, i64_w, i32_w]
                    rfl
                  refine pure_ (i := 11) (N := some 3) (v := ?_) (a' := ?_) #[true, true, true, true, true, true, true, true, true, true, true, true] rfl rfl (any_of HT_.out (by kernel_rfl)) (fun _ _ _ h => h) (Or.inl ⟨by rfl, ?_⟩) ?_ ?_
                  rotate_left
                  · intro w'
                    go_simp
                    with_reducible rfl
                  rotate_left
                  · simp only [Act.put, List.setIfInBounds_toArray, List.set_cons_zero, List.set_cons_succ, i64_w, i32_w]
                    rfl
                  refine done_ (done_of HT_.out (by kernel_rfl)) ?_
                  try go_wp2
                  go_roundg k1
                  case measure => have := HK1.out; omega
                  case rel => exact ⟨(y571), (wrap64 (x9_1 + 1)), (by first | rfl | (simp; done) | (simp [*]; done) | (simp; exact isE_ _)), H', ⟨by have := HK1.out; omega⟩, ⟨by (with_reducible repeat (first | apply Kd.R_alloc | apply Kd.R_drewN | apply Kd.R_drew)); exact HO573.out⟩, ⟨by repeat (first | (with_reducible first | exact HB.out | apply below_alloc | apply pw_below_drewN | apply below_drew1 | refine below_set ?_ GE568.out) | exact HB.out)⟩⟩
                · rw [if_neg c11] at H
                  exact absurd H (by simp)
              · rw [if_neg c10] at H
                exact absurd H (by simp)
            · rw [if_neg c8] at H
              exact absurd H (by simp)
          · rw [if_neg c6] at H
            exact absurd H (by simp)
        · rw [if_neg c5] at H
          exact absurd H (by simp)
      · rw [if_neg c4] at H
        have c4b0 : decide (x9_1 < (l0.length : Int)) = false := decide_eq_false c4
        clear c4
        replace H := Option.bind_eq_some_iff.mp H
        obtain ⟨t574, A190, H⟩ := H
        replace H : (some t574) = some r := H
        have A19 := Aside0.mk A190
        clear A190
        obtain rfl := Option.some.inj H
        obtain ⟨Ao20, co20, eo20⟩ := Kd.R_slice HO_3.out
        subst eo20
        go_wp2_with (first | ((with_reducible refine gate_callee (f := 106) rfl ?_); refine goesL_ (some 26) rfl rfl Try.func106 (by kernel_rfl) rfl #[.slice Ao20 x3_1.length co20, .string (⟨#[32]⟩ : ByteArray)] rfl (by (try simp only [List.map_toArray, List.map_cons, List.map_nil]); first | done | rfl | (simp only [List.length_drop, List.length_take]; rfl)) ?_; (with_reducible refine (impl_joined.calls k1 _ _ x3_1 (⟨#[32]⟩ : ByteArray) t574 _ ?side1 ?side2 A19.out).mono ?_); (case side1 => repeat (first | exact (Kd.R_reads' HO_3.out).2.2 | (with_reducible refine Kd.C_alloc ?_ _) | (with_reducible refine Kd.C_drewN ?_ _) | (with_reducible refine Kd.C_drew ?_))); (case side2 => exact (Kd.R_reads' HO_3.out).2.1); rintro e w' ⟨rfl, ⟨nd, rfl⟩⟩; refine ⟨_, rfl, ?_⟩))
        go_ret
        exact ⟨by first | rfl | (simp [errW_none, errW_some] <;> rfl) | (simp [*, errW_none, errW_some] <;> rfl), by repeat (first | (with_reducible first | exact HB.out | apply below_alloc | apply pw_below_drewN | apply below_drew1) | exact HB.out)⟩

def spec_FormatInt.l0 : Nat → Int → ByteArray → Bool → Option (ByteArray)
  | 0, _, _, _ => none
  | k + 1, x0, x3, x4 => if x0 = 0 then (if x4 = true then (if 1 + x3.size ≤ 9223372036854775807 then (some ((⟨#[45]⟩ : ByteArray) ++ x3)) else (none)) else (some x3)) else (if (Int.tmod x0 10) < 0 then ((some (([(wrap64 (48 + (wrap64 (-(Int.tmod x0 10))))) % 256] : List Int) : List Int)).bind fun y575 => (if (strOfNums y575).size + x3.size ≤ 9223372036854775807 then (spec_FormatInt.l0 k (wrap64 (Int.tdiv x0 10)) ((strOfNums y575) ++ x3) x4) else (none))) else ((some (([(wrap64 (48 + (Int.tmod x0 10))) % 256] : List Int) : List Int)).bind fun y578 => (if (strOfNums y578).size + x3.size ≤ 9223372036854775807 then (spec_FormatInt.l0 k (wrap64 (Int.tdiv x0 10)) ((strOfNums y578) ++ x3) x4) else (none))))
def spec_FormatInt.f (k : Nat) (a0 : Int) : Option (ByteArray) := if a0 = 0 then (some (⟨#[48]⟩ : ByteArray)) else (spec_FormatInt.l0 k a0 (⟨#[]⟩ : ByteArray) (decide (a0 < 0)))
theorem spec_FormatInt.calls (k : Nat) (a0 : Int) (r : ByteArray) (w : World) (h : spec_FormatInt.f k a0 = some r) :
    Calls Try.prog 107 #[.int .i64 a0] w fun e w' => e = .returned (.string r) ∧ Below w.heap.size w w' := by
  have HB := Aside0.mk (Below.refl w.heap.size w)
  have H : (if a0 = 0 then (some (⟨#[48]⟩ : ByteArray)) else (spec_FormatInt.l0 k a0 (⟨#[]⟩ : ByteArray) (decide (a0 < 0)))) = some r := h
  clear h
  by_cases c2 : a0 = 0
  · rw [if_pos c2] at H
    have c2b0 : (a0 == 0) = true := beq_iff_eq.mpr c2
    have c2b1 : (a0 != 0) = false := bne_eq_false_iff_eq.mpr c2
    clear c2
    obtain rfl := Option.some.inj H
    go_enter Try.func107, Try.ntmps107
    go_wp2
    go_ret
    exact ⟨by first | rfl | (simp [errW_none, errW_some] <;> rfl) | (simp [*, errW_none, errW_some] <;> rfl), by repeat (first | (with_reducible first | exact HB.out | apply below_alloc | apply pw_below_drewN | apply below_drew1) | exact HB.out)⟩
  · rw [if_neg c2] at H
    have c2b0 : (a0 == 0) = false := beq_eq_false_iff_ne.mpr c2
    have c2b1 : (a0 != 0) = true := bne_iff_ne.mpr c2
    have H' := Aside0.mk H
    clear H
    go_enter Try.func107, Try.ntmps107
    go_wp2
    go_loopg [0, 3] k (fun kq v0 v3 w' => ∃ (x0_1 : Int) (x3_1 : ByteArray), v0 = .int .i64 x0_1 ∧ v3 = .string x3_1 ∧ Aside0 (spec_FormatInt.l0 kq x0_1 x3_1 (decide (a0 < 0)) = some r) ∧ Aside0 (kq ≤ k) ∧ Aside0 (Below w.heap.size w w'))
    case atStart => exact ⟨(a0), ((⟨#[]⟩ : ByteArray)), (by first | rfl | (simp; done) | (simp [*]; done) | (simp; exact isE_ _)), (by first | rfl | (simp; done) | (simp [*]; done) | (simp; exact isE_ _)), H', ⟨Nat.le_refl _⟩, ⟨by repeat (first | (with_reducible first | exact HB.out | apply below_alloc | apply pw_below_drewN | apply below_drew1) | exact HB.out)⟩⟩
    case round =>
      clear H'
      try clear c1
      try clear c2
      try clear c2b0
      try clear c2b1
      try clear p2
      obtain ⟨x0_1, x3_1, rfl, rfl, HA, HK1, HB⟩ := hrel
      cases gk with
      | zero => exact absurd HA.out (by simp [spec_FormatInt.l0])
      | succ k1 =>
        have H := HA.out
        clear HA
        simp only [spec_FormatInt.l0] at H
        by_cases c3 : x0_1 = 0
        · rw [if_pos c3] at H
          have c3b0 : (x0_1 == 0) = true := beq_iff_eq.mpr c3
          have c3b1 : (x0_1 != 0) = false := bne_eq_false_iff_eq.mpr c3
          clear c3
          by_cases c4 : (decide (a0 < 0)) = true
          · rw [if_pos c4] at H
            have c4b0 : (decide (a0 < 0)) = true := c4
            (try (have c4b1 : a0 < 0 := by simpa using c4))
            clear c4
            by_cases c5 : 1 + x3_1.size ≤ 9223372036854775807
            · rw [if_pos c5] at H
              have c5b0 := eq_true c5
              have c5b1 : decide (1 + x3_1.size ≤ 9223372036854775807) = true := decide_eq_true c5
              try have c5b2 : (9223372036854775807 < 1 + x3_1.size) = False := eq_false (Nat.not_lt.2 c5)
              obtain rfl := Option.some.inj H
              go_wp2
              go_ret
              exact ⟨by first | rfl | (simp [errW_none, errW_some] <;> rfl) | (simp [*, errW_none, errW_some] <;> rfl), by repeat (first | (with_reducible first | exact HB.out | apply below_alloc | apply pw_below_drewN | apply below_drew1) | exact HB.out)⟩
            · rw [if_neg c5] at H
              exact absurd H (by simp)
          · rw [if_neg c4] at H
            have c4b0 : (decide (a0 < 0)) = false := by simpa using c4
            (try (have c4b1 : ¬ (a0 < 0) := by simpa using c4))
            clear c4
            obtain rfl := Option.some.inj H
            go_wp2
            go_ret
            exact ⟨by first | rfl | (simp [errW_none, errW_some] <;> rfl) | (simp [*, errW_none, errW_some] <;> rfl), by repeat (first | (with_reducible first | exact HB.out | apply below_alloc | apply pw_below_drewN | apply below_drew1) | exact HB.out)⟩
        · rw [if_neg c3] at H
          have c3b0 : (x0_1 == 0) = false := beq_eq_false_iff_ne.mpr c3
          have c3b1 : (x0_1 != 0) = true := bne_iff_ne.mpr c3
          by_cases c6 : (Int.tmod x0_1 10) < 0
          · rw [if_pos c6] at H
            have c6b0 : decide ((Int.tmod x0_1 10) < 0) = true := decide_eq_true c6
            clear c6
            obtain ⟨y575, hy575⟩ : ∃ y_ : List Int, y_ = (([(wrap64 (48 + (wrap64 (-(Int.tmod x0_1 10))))) % 256] : List Int)) := ⟨_, rfl⟩
            replace H : (if (strOfNums y575).size + x3_1.size ≤ 9223372036854775807 then (spec_FormatInt.l0 k1 (wrap64 (Int.tdiv x0_1 10)) ((strOfNums y575) ++ x3_1) (decide (a0 < 0))) else (none)) = some r := by first | (rw [hy575]; with_reducible exact H) | (have H2_ := (Option.bind_some _ _).symm.trans H; rw [hy575]; with_reducible exact H2_) | (have H2_ := (Option.bind_some _ _).symm.trans H; with_reducible exact H2_) | with_reducible exact H | (rw [hy575]; exact H) | exact H
            have Ny575 := Aside0.mk hy575
            clear hy575
            by_cases c7 : (strOfNums y575).size + x3_1.size ≤ 9223372036854775807
            · rw [if_pos c7] at H
              have c7b0 := eq_true c7
              have c7b1 : decide ((strOfNums y575).size + x3_1.size ≤ 9223372036854775807) = true := decide_eq_true c7
              try have c7b2 : (9223372036854775807 < (strOfNums y575).size + x3_1.size) = False := eq_false (Nat.not_lt.2 c7)
              have H' := Aside0.mk H
              clear H
              go_wp2_with (first | ((with_reducible refine gate_dst (N := 21) rfl ?_); refine Kd.R_lit (Kd.int .u8) _ 5 ?hg (N := 21) ?hd (xs := ([(wrap64 (48 + (wrap64 (-(Int.tmod x0_1 10))))) % 256] : List Int)) (inner := [.int .u8 ((wrap64 (48 + (wrap64 (-(Int.tmod x0_1 10))))) % 256)]) (ok := fun _ => True) (okp := fun _ => True) ?hr ?hp (fun _ hk => hk) trivial (Below.refl _ _) (Nat.le_refl _) (by simp) ?_; (case hd => rfl); (case hg => rfl); (case hr => first | (go_simp; done) | (go_simp; rfl)); (case hp => exact (Reps.one (show Kd.M (Kd.int .u8) _ _ _ ((wrap64 (48 + (wrap64 (-(Int.tmod x0_1 10))))) % 256) [.int .u8 ((wrap64 (48 + (wrap64 (-(Int.tmod x0_1 10))))) % 256)] from rfl) (Reps.none _ _))); intro v576 w8 ho9 hb hg_ hnew_; clear hg_ hnew_; (first | rw [← Ny575.out] at ho9 | (simp only [Int.reduceToNat] at ho9; rw [← Ny575.out] at ho9)); have n0_ := Aside0.mk (Kd.R_lower ho9 (below_size (by repeat (first | (with_reducible first | exact HB.out | apply below_alloc | apply pw_below_drewN | apply below_drew1) | exact HB.out)))); have n1_ := Aside0.mk (below_step (by repeat (first | (with_reducible first | exact HB.out | apply below_alloc | apply pw_below_drewN | apply below_drew1) | exact HB.out)) hb); clear HB; have HO577 := n0_; have HB := n1_; clear n0_ n1_; clear hb ho9; have hcv10 := own_string (P := Try.prog) Try.underlying49 Try.underlying5 Try.underlying9 (Kd.own_of_R HO577.out)))
              go_roundg k1
              case measure => have := HK1.out; omega
              case rel => exact ⟨(wrap64 (Int.tdiv x0_1 10)), ((strOfNums y575) ++ x3_1), (by first | rfl | (simp; done) | (simp [*]; done) | (simp; exact isE_ _)), (by first | rfl | (simp; done) | (simp [*]; done) | (simp; exact isE_ _)), H', ⟨by have := HK1.out; omega⟩, ⟨by repeat (first | (with_reducible first | exact HB.out | apply below_alloc | apply pw_below_drewN | apply below_drew1) | exact HB.out)⟩⟩
            · rw [if_neg c7] at H
              exact absurd H (by simp)
          · rw [if_neg c6] at H
            have c6b0 : decide ((Int.tmod x0_1 10) < 0) = false := decide_eq_false c6
            clear c6
            obtain ⟨y578, hy578⟩ : ∃ y_ : List Int, y_ = (([(wrap64 (48 + (Int.tmod x0_1 10))) % 256] : List Int)) := ⟨_, rfl⟩
            replace H : (if (strOfNums y578).size + x3_1.size ≤ 9223372036854775807 then (spec_FormatInt.l0 k1 (wrap64 (Int.tdiv x0_1 10)) ((strOfNums y578) ++ x3_1) (decide (a0 < 0))) else (none)) = some r := by first | (rw [hy578]; with_reducible exact H) | (have H2_ := (Option.bind_some _ _).symm.trans H; rw [hy578]; with_reducible exact H2_) | (have H2_ := (Option.bind_some _ _).symm.trans H; with_reducible exact H2_) | with_reducible exact H | (rw [hy578]; exact H) | exact H
            have Ny578 := Aside0.mk hy578
            clear hy578
            by_cases c11 : (strOfNums y578).size + x3_1.size ≤ 9223372036854775807
            · rw [if_pos c11] at H
              have c11b0 := eq_true c11
              have c11b1 : decide ((strOfNums y578).size + x3_1.size ≤ 9223372036854775807) = true := decide_eq_true c11
              try have c11b2 : (9223372036854775807 < (strOfNums y578).size + x3_1.size) = False := eq_false (Nat.not_lt.2 c11)
              have H' := Aside0.mk H
              clear H
              go_wp2_with (first | ((with_reducible refine gate_dst (N := 21) rfl ?_); refine Kd.R_lit (Kd.int .u8) _ 5 ?hg (N := 21) ?hd (xs := ([(wrap64 (48 + (Int.tmod x0_1 10))) % 256] : List Int)) (inner := [.int .u8 ((wrap64 (48 + (Int.tmod x0_1 10))) % 256)]) (ok := fun _ => True) (okp := fun _ => True) ?hr ?hp (fun _ hk => hk) trivial (Below.refl _ _) (Nat.le_refl _) (by simp) ?_; (case hd => rfl); (case hg => rfl); (case hr => first | (go_simp; done) | (go_simp; rfl)); (case hp => exact (Reps.one (show Kd.M (Kd.int .u8) _ _ _ ((wrap64 (48 + (Int.tmod x0_1 10))) % 256) [.int .u8 ((wrap64 (48 + (Int.tmod x0_1 10))) % 256)] from rfl) (Reps.none _ _))); intro v579 w12 ho13 hb hg_ hnew_; clear hg_ hnew_; (first | rw [← Ny578.out] at ho13 | (simp only [Int.reduceToNat] at ho13; rw [← Ny578.out] at ho13)); have n0_ := Aside0.mk (Kd.R_lower ho13 (below_size (by repeat (first | (with_reducible first | exact HB.out | apply below_alloc | apply pw_below_drewN | apply below_drew1) | exact HB.out)))); have n1_ := Aside0.mk (below_step (by repeat (first | (with_reducible first | exact HB.out | apply below_alloc | apply pw_below_drewN | apply below_drew1) | exact HB.out)) hb); clear HB; have HO580 := n0_; have HB := n1_; clear n0_ n1_; clear hb ho13; have hcv14 := own_string (P := Try.prog) Try.underlying49 Try.underlying5 Try.underlying9 (Kd.own_of_R HO580.out)))
              go_roundg k1
              case measure => have := HK1.out; omega
              case rel => exact ⟨(wrap64 (Int.tdiv x0_1 10)), ((strOfNums y578) ++ x3_1), (by first | rfl | (simp; done) | (simp [*]; done) | (simp; exact isE_ _)), (by first | rfl | (simp; done) | (simp [*]; done) | (simp; exact isE_ _)), H', ⟨by have := HK1.out; omega⟩, ⟨by repeat (first | (with_reducible first | exact HB.out | apply below_alloc | apply pw_below_drewN | apply below_drew1) | exact HB.out)⟩⟩
            · rw [if_neg c11] at H
              exact absurd H (by simp)

end Go.Proofs.Ytphkghnppcfdpaa.P
