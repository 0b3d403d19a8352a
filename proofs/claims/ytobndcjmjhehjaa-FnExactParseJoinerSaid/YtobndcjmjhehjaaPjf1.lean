/- For every string the law FnExactParseJoiner of the given program returns true and leaves its argument as it was; no condition. -/
import Derived.Test.YtobndcjmjhehjaaPjf0
namespace Go.Proofs.Ytobndcjmjhehjaa.P
open Go.RowKit Go.Proofs.YtobndcjmjhehjaaW.PrintWords Go.Proofs.YtobndcjmjhehjaaW.PrintLast Go.Proofs.YtobndcjmjhehjaaW.PrintMore
attribute [local go_sem] max2_int min2_int max_two min_two max_three min_three max_four min_four   -- for this text's walks alone
set_option linter.unusedVariables false
set_option linter.unusedSimpArgs false
set_option maxHeartbeats 8000000
set_option maxRecDepth 100000
def spec_IsValidJoiner.l0 : Nat → Int → Int → Int → List (S40) → Int → Int → Option (Bool)
 | 0, _, _, _, _, _, _ => none
 | k + 1, x3, x4, x5, x1539000, x1539001, x1539002 => if x5 < (x1539000.length : Int) then (if 0 ≤ x5 then ((spec_IsValidTask.f k ((rd_T40 x1539000 x5).f0) ((rd_T40 x1539000 x5).f1) ((rd_T40 x1539000 x5).f2) ((rd_T40 x1539000 x5).f3) ((rd_T40 x1539000 x5).f4)).bind fun t1540 => (if t1540 = true then (if 0 < (x1539000.length : Int) then (if ((rd_T40 x1539000 x5).f0) = ((rd_T40 x1539000 0).f0) then (spec_IsValidJoiner.l0 k (wrap64 (x3 + (((rd_T40 x1539000 x5).f1).length : Int))) (wrap64 (x4 + (((rd_T40 x1539000 x5).f2).length : Int))) (wrap64 (x5 + 1)) x1539000 x1539001 x1539002) else (some false)) else (none)) else (some false))) else (none)) else (if x3 ≤ 24 then (if x4 ≤ 24 then (if (x1539000.length : Int) ≤ 40 then ((spec_l1In.f x1539001 0 100000).bind fun t1545 => (if t1545 = true then ((spec_l1In.f x1539002 0 1000).bind fun t1546 => (some t1546)) else (some false))) else (some false)) else (some false)) else (some false))
def spec_IsValidJoiner.f (k : Nat) (l0_0 : List (S40)) (a0_1 : Int) (a0_2 : Int) : Option (Bool) := spec_IsValidJoiner.l0 k 0 0 0 l0_0 a0_1 a0_2
def spec_IsValidJoiner.T6 : Bool × List (List Nat × List Nat) := (true, [([], []), ([0], [0]), ([], []), ([1, 2], [1, 2]), ([3], [3]), ([4], [4]), ([5], [5]), ([6, 5], [6]), ([7], [7]), ([8, 7], [7, 8]), ([7], [7]), ([9, 10, 7], [7, 9, 10]), ([11, 7], [7, 11]), ([12, 7], [7, 12]), ([7], [7]), ([14, 7], [7, 14]), ([15, 7], [7, 15]), ([16, 7], [7, 16]), ([17, 7], [7, 17]), ([13, 18, 7], [7, 13, 18]), ([7, 19], [7, 19])])
def spec_IsValidJoiner.B6 : List Nat := [0, 1, 0, 7, 15, 31, 63, 127, 255, 511, 255, 2047, 4095, 8191, 255, 16639, 49407, 114943, 246015, 524287, 1048575]
theorem spec_IsValidJoiner.tab6 : rtab .any (opsOf Try.f73 6) = spec_IsValidJoiner.T6 := by kernel_rfl
theorem spec_IsValidJoiner.bits6 : waitsOk spec_IsValidJoiner.T6.2 spec_IsValidJoiner.B6 = true := by kernel_rfl
theorem spec_IsValidJoiner.calls (k : Nat) (A0_0 : Option Addr) (c0_0 : Nat) (l0_0 : List (S40)) (a0_1 : Int) (a0_2 : Int) (r : Bool) (w : World) (hr0_0 : Kd.C k40 w A0_0 l0_0.length l0_0) (hc0_0 : l0_0.length ≤ c0_0) (h : spec_IsValidJoiner.f k l0_0 a0_1 a0_2 = some r) :
  Calls Try.prog 73 #[.agg #[.slice A0_0 l0_0.length c0_0, .int .i64 a0_1, .int .i64 a0_2]] w fun e w' => e = .returned (.bool r) ∧ Below w.heap.size w w' := by
 have hu68 := Try.underlying68
 have hu40 := Try.underlying40
 have HR0_0 := Aside0.mk hr0_0
 have HC0_0 := Aside0.mk hc0_0
 clear hr0_0 hc0_0
 have HB := Aside0.mk (Below.refl w.heap.size w)
 have H : (spec_IsValidJoiner.l0 k 0 0 0 l0_0 a0_1 a0_2) = some r := h
 clear h
 have H' := Aside0.mk H
 clear H
 go_enter Try.func73, Try.ntmps73
 go_wp2_with (((with_reducible refine gate_dst (N := 1) rfl ?_); (try (refine gate_guard rfl ?_; dsimp only)); refine box_event ?hg (N := 1) ?hd (cs := #[.slice A0_0 l0_0.length c0_0, .int .i64 a0_1, .int .i64 a0_2]) (t := 68) ?hr ?_; (case hd => rfl); (case hg => rfl); (case hr => (go_simp; done)); intro gb1538 hg w2 hbox hb; have n0_ := Aside0.mk (below_step HB.out hb); have n1_ := Aside0.mk (hbox); have n2_ := Aside0.mk ((by rw [hg]; exact (below_size HB.out) : w.heap.size ≤ gb1538)); have n3_ := Aside0.mk ((by rw [hg]; exact (below_size HB.out) : w.heap.size ≤ gb1538)); clear HB; have HB := n0_; have BK1538 := n1_; have GW1538 := n2_; have GE1538 := n3_; clear n0_ n1_ n2_ n3_; clear hb hbox hg))
 go_loopg [3, 4, 5] k (fun kq v3 v4 v5 w' => ∃ (x3_1 : Int) (x4_1 : Int) (x5_1 : Int), v3 = .int .i64 x3_1 ∧ v4 = .int .i64 x4_1 ∧ v5 = .int .i64 x5_1 ∧ Aside0 (spec_IsValidJoiner.l0 kq x3_1 x4_1 x5_1 l0_0 a0_1 a0_2 = some r) ∧ Aside0 (kq ≤ k) ∧ Aside0 (w'.heap[gb1538]? = some (.cells #[(.slice A0_0 l0_0.length c0_0), .int .i64 a0_1, .int .i64 a0_2] 68 (0, 0))) ∧ Aside0 (Below w.heap.size w w'))
 case atStart => exact ⟨(0), (0), (0), rfl, rfl, rfl, H', ⟨Nat.le_refl _⟩, ⟨BK1538.out⟩, ⟨HB.out⟩⟩
 case round =>
  clear H'
  obtain ⟨x3_1, x4_1, x5_1, rfl, rfl, rfl, HA, HK1, BK1538, HB⟩ := hrel
  cases gk with
  | zero => exact absurd HA.out (by simp [spec_IsValidJoiner.l0])
  | succ k1 =>
   have H := HA.out
   clear HA
   simp only [spec_IsValidJoiner.l0] at H
   by_cases c3 : x5_1 < (l0_0.length : Int)
   ·rw [if_pos c3] at H
    have c3b0 : decide (x5_1 < (l0_0.length : Int)) = true := decide_eq_true c3
    clear c3
    by_cases c4 : 0 ≤ x5_1
    ·rw [if_pos c4] at H
     have c4b0 : decide (0 ≤ x5_1) = true := decide_eq_true c4
     clear c4
     replace H := Option.bind_eq_some_iff.mp H
     obtain ⟨t1540, A50, H⟩ := H
     have A5 := Aside0.mk A50
     clear A50
     by_cases c6 : t1540 = true
     ·subst c6
      rw [if_pos rfl] at H
      by_cases c7 : 0 < (l0_0.length : Int)
      ·rw [if_pos c7] at H
       have c7b0 : decide (0 < (l0_0.length : Int)) = true := decide_eq_true c7
       have c7b1 : decide (0 < l0_0.length) = true := decide_eq_true (by omega)
       clear c7
       by_cases c8 : ((rd_T40 l0_0 x5_1).f0) = ((rd_T40 l0_0 0).f0)
       ·rw [if_pos c8] at H
        have c8b0 : (((rd_T40 l0_0 x5_1).f0) == ((rd_T40 l0_0 0).f0)) = true := beq_iff_eq.mpr c8
        have c8b1 : (((rd_T40 l0_0 x5_1).f0) != ((rd_T40 l0_0 0).f0)) = false := bne_eq_false_iff_eq.mpr c8
        clear c8
        have H' := Aside0.mk H
        clear H
        have hcz9_0 : wr.cell? ⟨gb1538, 0, none⟩ = some (.slice A0_0 l0_0.length c0_0) := (blk_cell BK1538.out 0).trans rfl
        have hcz9_1 : wr.cell? ⟨gb1538, 1, none⟩ = some (.int .i64 a0_1) := (blk_cell BK1538.out 1).trans rfl
        have hcz9_2 : wr.cell? ⟨gb1538, 2, none⟩ = some (.int .i64 a0_2) := (blk_cell BK1538.out 2).trans rfl
        have hfz9_0 := blk_frozen BK1538.out 0
        have hfz9_1 := blk_frozen BK1538.out 1
        have hfz9_2 := blk_frozen BK1538.out 2
        try go_wp2
        have n0_ := Aside0.mk (blk_drew BK1538.out)
        have n1_ := Aside0.mk (below_drew1 HB.out)
        clear BK1538
        clear HB
        have BK1538 := n0_
        have HB := n1_
        clear n0_ n1_
        have p1539 : 0 ≤ (x5_1 : Int) := of_decide_eq_true (by (with_reducible assumption))
        have q1539 : x5_1 < (l0_0.length : Int) := of_decide_eq_true (by (with_reducible assumption))
        obtain ⟨ad1539, A1539_1, c1539_1, A1539_2, c1539_2, A1539_3, c1539_3, e1539, hx1539_0, hx1539_1, hx1539_2, hx1539_3, hx1539_4, hl1539_1, hi1539_1, hl1539_2, hi1539_2, hl1539_3, hi1539_3⟩ := at_T40 HR0_0.out x5_1 p1539 q1539
        have hw1539_4 := hx1539_4
        have hw1539_3 := hx1539_3
        have hw1539_2 := hx1539_2
        have hw1539_1 := hx1539_1
        have hw1539_0 := hx1539_0
        cases e1539
        replace hx1539_0 := (HB.out.cell (World.block_lt_of_cell? w _ hx1539_0)).trans hx1539_0
        replace hx1539_1 := (HB.out.cell (World.block_lt_of_cell? w _ hx1539_1)).trans hx1539_1
        replace hx1539_2 := (HB.out.cell (World.block_lt_of_cell? w _ hx1539_2)).trans hx1539_2
        replace hx1539_3 := (HB.out.cell (World.block_lt_of_cell? w _ hx1539_3)).trans hx1539_3
        replace hx1539_4 := (HB.out.cell (World.block_lt_of_cell? w _ hx1539_4)).trans hx1539_4
        have HR1539_1 := Aside0.mk hi1539_1
        have HC1539_1 := Aside0.mk hl1539_1
        clear hi1539_1 hl1539_1
        have HR1539_2 := Aside0.mk hi1539_2
        have HC1539_2 := Aside0.mk hl1539_2
        clear hi1539_2 hl1539_2
        have HR1539_3 := Aside0.mk hi1539_3
        have HC1539_3 := Aside0.mk hl1539_3
        clear hi1539_3 hl1539_3
        replace p1539 := eq_true p1539
        replace q1539 := eq_true q1539
        have p1541 : 0 ≤ (x5_1 : Int) := of_decide_eq_true (by (with_reducible assumption))
        have q1541 : x5_1 < (l0_0.length : Int) := of_decide_eq_true (by (with_reducible assumption))
        obtain ⟨ad1541, A1541_1, c1541_1, A1541_2, c1541_2, A1541_3, c1541_3, e1541, hx1541_0, hx1541_1, hx1541_2, hx1541_3, hx1541_4, hl1541_1, hi1541_1, hl1541_2, hi1541_2, hl1541_3, hi1541_3⟩ := at_T40 HR0_0.out x5_1 p1541 q1541
        have hy1541_1 := Aside0.mk hx1541_1
        have hy1541_2 := Aside0.mk hx1541_2
        have hy1541_3 := Aside0.mk hx1541_3
        have hw1541_4 := hx1541_4
        have hw1541_3 := hx1541_3
        have hw1541_2 := hx1541_2
        have hw1541_1 := hx1541_1
        have hw1541_0 := hx1541_0
        obtain rfl : ad1539 = ad1541 := (by injection e1541)
        replace hx1541_0 := (HB.out.cell (World.block_lt_of_cell? w _ hx1541_0)).trans hx1541_0
        replace hx1541_1 := (HB.out.cell (World.block_lt_of_cell? w _ hx1541_1)).trans hx1541_1
        replace hx1541_2 := (HB.out.cell (World.block_lt_of_cell? w _ hx1541_2)).trans hx1541_2
        replace hx1541_3 := (HB.out.cell (World.block_lt_of_cell? w _ hx1541_3)).trans hx1541_3
        replace hx1541_4 := (HB.out.cell (World.block_lt_of_cell? w _ hx1541_4)).trans hx1541_4
        have HR1541_1 := Aside0.mk hi1541_1
        have HC1541_1 := Aside0.mk hl1541_1
        clear hi1541_1 hl1541_1
        have HR1541_2 := Aside0.mk hi1541_2
        have HC1541_2 := Aside0.mk hl1541_2
        clear hi1541_2 hl1541_2
        have HR1541_3 := Aside0.mk hi1541_3
        have HC1541_3 := Aside0.mk hl1541_3
        clear hi1541_3 hl1541_3
        replace p1541 := eq_true p1541
        replace q1541 := eq_true q1541
        have p1542 : 0 ≤ (0 : Int) := (by omega)
        have q1542 : 0 < (l0_0.length : Int) := of_decide_eq_true (by (with_reducible assumption))
        obtain ⟨ad1542, A1542_1, c1542_1, A1542_2, c1542_2, A1542_3, c1542_3, e1542, hx1542_0, hx1542_1, hx1542_2, hx1542_3, hx1542_4, hl1542_1, hi1542_1, hl1542_2, hi1542_2, hl1542_3, hi1542_3⟩ := at_T40 HR0_0.out 0 p1542 q1542
        have hw1542_4 := hx1542_4
        (try rw [show ((0 : Int)).toNat = 0 from rfl] at hw1542_4)
        (try rw [show 0 * 5 = 0 from rfl] at hw1542_4)
        (try rw [Addr.add_zero'] at hw1542_4)
        have hw1542_3 := hx1542_3
        (try rw [show ((0 : Int)).toNat = 0 from rfl] at hw1542_3)
        (try rw [show 0 * 5 = 0 from rfl] at hw1542_3)
        (try rw [Addr.add_zero'] at hw1542_3)
        have hw1542_2 := hx1542_2
        (try rw [show ((0 : Int)).toNat = 0 from rfl] at hw1542_2)
        (try rw [show 0 * 5 = 0 from rfl] at hw1542_2)
        (try rw [Addr.add_zero'] at hw1542_2)
        have hw1542_1 := hx1542_1
        (try rw [show ((0 : Int)).toNat = 0 from rfl] at hw1542_1)
        (try rw [show 0 * 5 = 0 from rfl] at hw1542_1)
        (try rw [Addr.add_zero'] at hw1542_1)
        have hw1542_0 := hx1542_0
        (try rw [show ((0 : Int)).toNat = 0 from rfl] at hw1542_0)
        (try rw [show 0 * 5 = 0 from rfl] at hw1542_0)
        (try rw [Addr.add_zero'] at hw1542_0)
        obtain rfl : ad1539 = ad1542 := (by injection e1542)
        have qi1542 : (0 < l0_0.length) = True := eq_true (by omega)
        (try rw [show ((0 : Int)).toNat = 0 from rfl] at hx1542_0)
        (try rw [show 0 * 5 = 0 from rfl] at hx1542_0)
        (try rw [Addr.add_zero'] at hx1542_0)
        (try rw [show ((0 : Int)).toNat = 0 from rfl] at hx1542_1)
        (try rw [show 0 * 5 = 0 from rfl] at hx1542_1)
        (try rw [Addr.add_zero'] at hx1542_1)
        (try rw [show ((0 : Int)).toNat = 0 from rfl] at hx1542_2)
        (try rw [show 0 * 5 = 0 from rfl] at hx1542_2)
        (try rw [Addr.add_zero'] at hx1542_2)
        (try rw [show ((0 : Int)).toNat = 0 from rfl] at hx1542_3)
        (try rw [show 0 * 5 = 0 from rfl] at hx1542_3)
        (try rw [Addr.add_zero'] at hx1542_3)
        (try rw [show ((0 : Int)).toNat = 0 from rfl] at hx1542_4)
        (try rw [show 0 * 5 = 0 from rfl] at hx1542_4)
        (try rw [Addr.add_zero'] at hx1542_4)
        replace hx1542_0 := (HB.out.cell (World.block_lt_of_cell? w _ hx1542_0)).trans hx1542_0
        replace hx1542_1 := (HB.out.cell (World.block_lt_of_cell? w _ hx1542_1)).trans hx1542_1
        replace hx1542_2 := (HB.out.cell (World.block_lt_of_cell? w _ hx1542_2)).trans hx1542_2
        replace hx1542_3 := (HB.out.cell (World.block_lt_of_cell? w _ hx1542_3)).trans hx1542_3
        replace hx1542_4 := (HB.out.cell (World.block_lt_of_cell? w _ hx1542_4)).trans hx1542_4
        have HR1542_1 := Aside0.mk hi1542_1
        have HC1542_1 := Aside0.mk hl1542_1
        clear hi1542_1 hl1542_1
        have HR1542_2 := Aside0.mk hi1542_2
        have HC1542_2 := Aside0.mk hl1542_2
        clear hi1542_2 hl1542_2
        have HR1542_3 := Aside0.mk hi1542_3
        have HC1542_3 := Aside0.mk hl1542_3
        clear hi1542_3 hl1542_3
        replace p1542 := eq_true p1542
        replace q1542 := eq_true q1542
        refine start_ (n := 21) (S := fun w' => w'.cell? ⟨gb1538, 0, none⟩ = some (.slice (some ad1539) l0_0.length c0_0) ∧ w'.cell? ⟨gb1538, 1, none⟩ = some (.int .i64 a0_1) ∧ w'.cell? ⟨gb1538, 2, none⟩ = some (.int .i64 a0_2) ∧ w'.cell? (ad1539.add ((x5_1).toNat * 5)) = some (.int .i64 ((rd_T40 l0_0 x5_1).f0)) ∧ w'.cell? ⟨(ad1539.add ((x5_1).toNat * 5)).block, (ad1539.add ((x5_1).toNat * 5)).off + 1, none⟩ = some (.slice A1539_1 ((rd_T40 l0_0 x5_1).f1).length c1539_1) ∧ w'.cell? ⟨(ad1539.add ((x5_1).toNat * 5)).block, (ad1539.add ((x5_1).toNat * 5)).off + 2, none⟩ = some (.slice A1539_2 ((rd_T40 l0_0 x5_1).f2).length c1539_2) ∧ w'.cell? ⟨(ad1539.add ((x5_1).toNat * 5)).block, (ad1539.add ((x5_1).toNat * 5)).off + 3, none⟩ = some (.slice A1539_3 ((rd_T40 l0_0 x5_1).f3).length c1539_3) ∧ w'.cell? ⟨(ad1539.add ((x5_1).toNat * 5)).block, (ad1539.add ((x5_1).toNat * 5)).off + 4, none⟩ = some (.int .i64 ((rd_T40 l0_0 x5_1).f4)) ∧ w'.cell? (ad1539.add ((x5_1).toNat * 5)) = some (.int .i64 ((rd_T40 l0_0 x5_1).f0)) ∧ w'.cell? ⟨(ad1539.add ((x5_1).toNat * 5)).block, (ad1539.add ((x5_1).toNat * 5)).off + 1, none⟩ = some (.slice A1541_1 ((rd_T40 l0_0 x5_1).f1).length c1541_1) ∧ w'.cell? ⟨(ad1539.add ((x5_1).toNat * 5)).block, (ad1539.add ((x5_1).toNat * 5)).off + 2, none⟩ = some (.slice A1541_2 ((rd_T40 l0_0 x5_1).f2).length c1541_2) ∧ w'.cell? ⟨(ad1539.add ((x5_1).toNat * 5)).block, (ad1539.add ((x5_1).toNat * 5)).off + 3, none⟩ = some (.slice A1541_3 ((rd_T40 l0_0 x5_1).f3).length c1541_3) ∧ w'.cell? ⟨(ad1539.add ((x5_1).toNat * 5)).block, (ad1539.add ((x5_1).toNat * 5)).off + 4, none⟩ = some (.int .i64 ((rd_T40 l0_0 x5_1).f4)) ∧ w'.cell? ad1539 = some (.int .i64 ((rd_T40 l0_0 0).f0)) ∧ w'.cell? ⟨ad1539.block, ad1539.off + 1, none⟩ = some (.slice A1542_1 ((rd_T40 l0_0 0).f1).length c1542_1) ∧ w'.cell? ⟨ad1539.block, ad1539.off + 2, none⟩ = some (.slice A1542_2 ((rd_T40 l0_0 0).f2).length c1542_2) ∧ w'.cell? ⟨ad1539.block, ad1539.off + 3, none⟩ = some (.slice A1542_3 ((rd_T40 l0_0 0).f3).length c1542_3) ∧ w'.cell? ⟨ad1539.block, ad1539.off + 4, none⟩ = some (.int .i64 ((rd_T40 l0_0 0).f4))) (ds := []) #[false, false, false, false, false, false, false, false, false, false, false, false, false, false, false, false, false, false, false, false, false] (by kernel_rfl) rfl rfl ⟨(blk_cell BK1538.out 0).trans rfl, (blk_cell BK1538.out 1).trans rfl, (blk_cell BK1538.out 2).trans rfl, ((HB.out.cell (World.block_lt_of_cell? w _ hw1539_0)).trans hw1539_0), ((HB.out.cell (World.block_lt_of_cell? w _ hw1539_1)).trans hw1539_1), ((HB.out.cell (World.block_lt_of_cell? w _ hw1539_2)).trans hw1539_2), ((HB.out.cell (World.block_lt_of_cell? w _ hw1539_3)).trans hw1539_3), ((HB.out.cell (World.block_lt_of_cell? w _ hw1539_4)).trans hw1539_4), ((HB.out.cell (World.block_lt_of_cell? w _ hw1541_0)).trans hw1541_0), ((HB.out.cell (World.block_lt_of_cell? w _ hw1541_1)).trans hw1541_1), ((HB.out.cell (World.block_lt_of_cell? w _ hw1541_2)).trans hw1541_2), ((HB.out.cell (World.block_lt_of_cell? w _ hw1541_3)).trans hw1541_3), ((HB.out.cell (World.block_lt_of_cell? w _ hw1541_4)).trans hw1541_4), ((HB.out.cell (World.block_lt_of_cell? w _ hw1542_0)).trans hw1542_0), ((HB.out.cell (World.block_lt_of_cell? w _ hw1542_1)).trans hw1542_1), ((HB.out.cell (World.block_lt_of_cell? w _ hw1542_2)).trans hw1542_2), ((HB.out.cell (World.block_lt_of_cell? w _ hw1542_3)).trans hw1542_3), ((HB.out.cell (World.block_lt_of_cell? w _ hw1542_4)).trans hw1542_4)⟩ (fun hHeld => ?_); refine with_tabW spec_IsValidJoiner.tab6 spec_IsValidJoiner.bits6 (fun HT_ HW_ => ?_)
        generalize wr.drew = w10 at BK1538 HB HR1539_1 HR1539_2 HR1539_3 HR1541_1 HR1541_2 HR1541_3 HR1542_1 HR1542_2 HR1542_3 hx1539_0 hx1539_1 hx1539_2 hx1539_3 hx1539_4 hx1541_0 hx1541_1 hx1541_2 hx1541_3 hx1541_4 hx1542_0 hx1542_1 hx1542_2 hx1542_3 hx1542_4 hHeld ⊢
        refine pure_ (i := 0) (N := some 13) (v := ?_) (a' := ?_) #[true, false, false, false, false, false, false, false, false, false, false, false, false, false, false, false, false, false, false, false, false] rfl rfl (any_of HT_.out (by kernel_rfl)) (fun _ _ _ h => h) (Or.inl ⟨rfl, ?_⟩) ?_ ?_
        rotate_left
        ·intro w'
         go_simp
         with_reducible rfl
        rotate_left
        ·simp only [Act.put, List.setIfInBounds_toArray, List.set_cons_zero, List.set_cons_succ, i64_w, i32_w]
         rfl
        refine pure_ (i := 2) (N := some 15) (v := ?_) (a' := ?_) #[true, false, true, false, false, false, false, false, false, false, false, false, false, false, false, false, false, false, false, false, false] rfl rfl (any_of HT_.out (by kernel_rfl)) (fun _ _ _ h => h) (Or.inl ⟨rfl, ?_⟩) ?_ ?_
        rotate_left
        ·intro w'
         go_simp
         with_reducible rfl
        rotate_left
        ·simp only [Act.put, List.setIfInBounds_toArray, List.set_cons_zero, List.set_cons_succ, i64_w, i32_w]
         rfl
        refine take_ (i := 1) (N := some 14) (v := ?_) (a' := ?_) #[true, true, true, false, false, false, false, false, false, false, false, false, false, false, false, false, false, false, false, false, false] rfl rfl (take_ofW HT_.out HW_.out (by kernel_rfl)) (fun _ _ _ h => h) (Or.inl ⟨rfl, ?_⟩) hHeld ?_ ?_
        rotate_left
        ·rintro w' ⟨s0, s1, s2, s3, s4, s5, s6, s7, s8, s9, s10, s11, s12, s13, s14, s15, s16, s17⟩
         go_simp
         with_reducible rfl
        rotate_left
        ·simp only [Act.put, List.setIfInBounds_toArray, List.set_cons_zero, List.set_cons_succ, i64_w, i32_w]
         rfl
        refine pure_ (i := 3) (N := some 16) (v := ?_) (a' := ?_) #[true, true, true, true, false, false, false, false, false, false, false, false, false, false, false, false, false, false, false, false, false] rfl rfl (any_of HT_.out (by kernel_rfl)) (fun _ _ _ h => h) (Or.inl ⟨rfl, ?_⟩) ?_ ?_
        rotate_left
        ·intro w'
         go_simp
         with_reducible rfl
        rotate_left
        ·simp only [Act.put, List.setIfInBounds_toArray, List.set_cons_zero, List.set_cons_succ, i64_w, i32_w]
         rfl
        refine take_ (i := 4) (N := some 17) (v := ?_) (a' := ?_) #[true, true, true, true, true, false, false, false, false, false, false, false, false, false, false, false, false, false, false, false, false] rfl rfl (take_ofW HT_.out HW_.out (by kernel_rfl)) (fun _ _ _ h => h) (Or.inl ⟨rfl, ?_⟩) hHeld ?_ ?_
        rotate_left
        ·rintro w' ⟨s0, s1, s2, s3, s4, s5, s6, s7, s8, s9, s10, s11, s12, s13, s14, s15, s16, s17⟩
         go_simp
         with_reducible rfl
        rotate_left
        ·simp only [Act.put, List.setIfInBounds_toArray, List.set_cons_zero, List.set_cons_succ, i64_w, i32_w]
         rfl
        refine one_ (i := 5) (N := some 18) #[true, true, true, true, true, true, false, false, false, false, false, false, false, false, false, false, false, false, false, false, false] rfl rfl (one_of HT_.out (by kernel_rfl)) (by decide) (fun K hK => ?_)
        refine goes_ Try.func65 (by kernel_rfl) rfl #[.agg #[.int .i64 ((rd_T40 l0_0 x5_1).f0), .slice A1539_1 ((rd_T40 l0_0 x5_1).f1).length c1539_1, .slice A1539_2 ((rd_T40 l0_0 x5_1).f2).length c1539_2, .slice A1539_3 ((rd_T40 l0_0 x5_1).f3).length c1539_3, .int .i64 ((rd_T40 l0_0 x5_1).f4)]] rfl rfl rfl (by (try simp only [List.map_toArray, List.map_cons, List.map_nil]); rfl) ?_
        with_reducible refine (spec_IsValidTask.calls k1 ((rd_T40 l0_0 x5_1).f0) _ _ ((rd_T40 l0_0 x5_1).f1) _ _ ((rd_T40 l0_0 x5_1).f2) _ _ ((rd_T40 l0_0 x5_1).f3) ((rd_T40 l0_0 x5_1).f4) true _ ?side1 ?side2 ?side3 ?side4 ?side5 ?side6 A5.out).mono ?_
        (case side1 => repeat (exact (Kd.C_below HR1539_1.out HB.out)))
        (case side2 => exact HC1539_1.out)
        (case side3 => repeat (exact (Kd.C_below HR1539_2.out HB.out)))
        (case side4 => exact HC1539_2.out)
        (case side5 => repeat (exact (Kd.C_below HR1539_3.out HB.out)))
        (case side6 => exact HC1539_3.out)
        rintro e w11 ⟨rfl, hb⟩
        refine ⟨_, rfl, ?_⟩
        have n0_ := Aside0.mk (blk_below (g := gb1538) (o := .cells #[.slice (some ad1539) l0_0.length c0_0, .int .i64 a0_1, .int .i64 a0_2] 68 (0, 0)) BK1538.out hb)
        have n1_ := Aside0.mk (below_step HB.out hb)
        clear BK1538
        clear HB
        have BK1538 := n0_
        have HB := n1_
        clear n0_ n1_
        (try clear hb)
        (try clear hb2)
        (try clear hk)
        (try clear hi)
        refine hK.out _ _ ⟨(blk_cell BK1538.out 0).trans rfl, (blk_cell BK1538.out 1).trans rfl, (blk_cell BK1538.out 2).trans rfl, ((HB.out.cell (World.block_lt_of_cell? w _ hw1539_0)).trans hw1539_0), ((HB.out.cell (World.block_lt_of_cell? w _ hw1539_1)).trans hw1539_1), ((HB.out.cell (World.block_lt_of_cell? w _ hw1539_2)).trans hw1539_2), ((HB.out.cell (World.block_lt_of_cell? w _ hw1539_3)).trans hw1539_3), ((HB.out.cell (World.block_lt_of_cell? w _ hw1539_4)).trans hw1539_4), ((HB.out.cell (World.block_lt_of_cell? w _ hw1541_0)).trans hw1541_0), ((HB.out.cell (World.block_lt_of_cell? w _ hw1541_1)).trans hw1541_1), ((HB.out.cell (World.block_lt_of_cell? w _ hw1541_2)).trans hw1541_2), ((HB.out.cell (World.block_lt_of_cell? w _ hw1541_3)).trans hw1541_3), ((HB.out.cell (World.block_lt_of_cell? w _ hw1541_4)).trans hw1541_4), ((HB.out.cell (World.block_lt_of_cell? w _ hw1542_0)).trans hw1542_0), ((HB.out.cell (World.block_lt_of_cell? w _ hw1542_1)).trans hw1542_1), ((HB.out.cell (World.block_lt_of_cell? w _ hw1542_2)).trans hw1542_2), ((HB.out.cell (World.block_lt_of_cell? w _ hw1542_3)).trans hw1542_3), ((HB.out.cell (World.block_lt_of_cell? w _ hw1542_4)).trans hw1542_4)⟩ (fun hHeld => ?_)
        clear hK K
        refine norm_ (a' := ?_) ?_ ?_
        rotate_left
        ·show Act.put _ (some 18) _ = _
         simp only [Act.put, List.setIfInBounds_toArray, List.set_cons_zero, List.set_cons_succ, i64_w, i32_w]
         rfl
        refine pure_ (i := 6) (N := some 19) (v := ?_) (a' := ?_) #[true, true, true, true, true, true, true, false, false, false, false, false, false, false, false, false, false, false, false, false, false] rfl rfl (any_of HT_.out (by kernel_rfl)) (fun _ _ _ h => h) (Or.inl ⟨rfl, ?_⟩) ?_ ?_
        rotate_left
        ·intro w'
         go_simp
         with_reducible rfl
        rotate_left
        ·simp only [Act.put, List.setIfInBounds_toArray, List.set_cons_zero, List.set_cons_succ, i64_w, i32_w]
         rfl
        refine pure_ (i := 7) (N := some 20) (v := ?_) (a' := ?_) #[true, true, true, true, true, true, true, true, false, false, false, false, false, false, false, false, false, false, false, false, false] rfl rfl (any_of HT_.out (by kernel_rfl)) (fun _ _ _ h => h) (Or.inl ⟨rfl, ?_⟩) ?_ ?_
        rotate_left
        ·intro w'
         go_simp
         with_reducible rfl
        rotate_left
        ·simp only [Act.put, List.setIfInBounds_toArray, List.set_cons_zero, List.set_cons_succ, i64_w, i32_w]
         rfl
        refine pure_ (i := 8) (N := some 21) (v := ?_) (a' := ?_) #[true, true, true, true, true, true, true, true, true, false, false, false, false, false, false, false, false, false, false, false, false] rfl rfl (any_of HT_.out (by kernel_rfl)) (fun _ _ _ h => h) (Or.inl ⟨rfl, ?_⟩) ?_ ?_
        rotate_left
        ·intro w'
         go_simp
         with_reducible rfl
        rotate_left
        ·simp only [Act.put, List.setIfInBounds_toArray, List.set_cons_zero, List.set_cons_succ, i64_w, i32_w]
         rfl
        refine pure_ (i := 10) (N := some 23) (v := ?_) (a' := ?_) #[true, true, true, true, true, true, true, true, true, false, true, false, false, false, false, false, false, false, false, false, false] rfl rfl (any_of HT_.out (by kernel_rfl)) (fun _ _ _ h => h) (Or.inl ⟨rfl, ?_⟩) ?_ ?_
        rotate_left
        ·intro w'
         go_simp
         with_reducible rfl
        rotate_left
        ·simp only [Act.put, List.setIfInBounds_toArray, List.set_cons_zero, List.set_cons_succ, i64_w, i32_w]
         rfl
        refine pure_ (i := 14) (N := some 27) (v := ?_) (a' := ?_) #[true, true, true, true, true, true, true, true, true, false, true, false, false, false, true, false, false, false, false, false, false] rfl rfl (any_of HT_.out (by kernel_rfl)) (fun _ _ _ h => h) (Or.inl ⟨rfl, ?_⟩) ?_ ?_
        rotate_left
        ·intro w'
         go_simp
         with_reducible rfl
        rotate_left
        ·simp only [Act.put, List.setIfInBounds_toArray, List.set_cons_zero, List.set_cons_succ, i64_w, i32_w]
         rfl
        refine take_ (i := 9) (N := some 22) (v := ?_) (a' := ?_) #[true, true, true, true, true, true, true, true, true, true, true, false, false, false, true, false, false, false, false, false, false] rfl rfl (take_ofW HT_.out HW_.out (by kernel_rfl)) (fun _ _ _ h => h) (Or.inl ⟨rfl, ?_⟩) hHeld ?_ ?_
        rotate_left
        ·rintro w' ⟨s0, s1, s2, s3, s4, s5, s6, s7, s8, s9, s10, s11, s12, s13, s14, s15, s16, s17⟩
         go_simp
         with_reducible rfl
        rotate_left
        ·simp only [Act.put, List.setIfInBounds_toArray, List.set_cons_zero, List.set_cons_succ, i64_w, i32_w]
         rfl
        refine pure_ (i := 11) (N := some 24) (v := ?_) (a' := ?_) #[true, true, true, true, true, true, true, true, true, true, true, true, false, false, true, false, false, false, false, false, false] rfl rfl (any_of HT_.out (by kernel_rfl)) (fun _ _ _ h => h) (Or.inl ⟨rfl, ?_⟩) ?_ ?_
        rotate_left
        ·intro w'
         go_simp
         with_reducible rfl
        rotate_left
        ·simp only [Act.put, List.setIfInBounds_toArray, List.set_cons_zero, List.set_cons_succ, i64_w, i32_w]
         rfl
        refine pure_ (i := 12) (N := some 25) (v := ?_) (a' := ?_) #[true, true, true, true, true, true, true, true, true, true, true, true, true, false, true, false, false, false, false, false, false] rfl rfl (any_of HT_.out (by kernel_rfl)) (fun _ _ _ h => h) (Or.inl ⟨rfl, ?_⟩) ?_ ?_
        rotate_left
        ·intro w'
         go_simp
         with_reducible rfl
        rotate_left
        ·simp only [Act.put, List.setIfInBounds_toArray, List.set_cons_zero, List.set_cons_succ, i64_w, i32_w]
         rfl
        refine take_ (i := 13) (N := some 26) (v := ?_) (a' := ?_) #[true, true, true, true, true, true, true, true, true, true, true, true, true, true, true, false, false, false, false, false, false] rfl rfl (take_ofW HT_.out HW_.out (by kernel_rfl)) (fun _ _ _ h => h) (Or.inl ⟨rfl, ?_⟩) hHeld ?_ ?_
        rotate_left
        ·rintro w' ⟨s0, s1, s2, s3, s4, s5, s6, s7, s8, s9, s10, s11, s12, s13, s14, s15, s16, s17⟩
         go_simp
         with_reducible rfl
        rotate_left
        ·simp only [Act.put, List.setIfInBounds_toArray, List.set_cons_zero, List.set_cons_succ, i64_w, i32_w]
         rfl
        refine take_ (i := 15) (N := some 28) (v := ?_) (a' := ?_) #[true, true, true, true, true, true, true, true, true, true, true, true, true, true, true, true, false, false, false, false, false] rfl rfl (take_ofW HT_.out HW_.out (by kernel_rfl)) (fun _ _ _ h => h) (Or.inl ⟨rfl, ?_⟩) hHeld ?_ ?_
        rotate_left
        ·rintro w' ⟨s0, s1, s2, s3, s4, s5, s6, s7, s8, s9, s10, s11, s12, s13, s14, s15, s16, s17⟩
         go_simp
         with_reducible rfl
        rotate_left
        ·simp only [Act.put, List.setIfInBounds_toArray, List.set_cons_zero, List.set_cons_succ, i64_w, i32_w]
         rfl
        refine pure_ (i := 16) (N := some 29) (v := ?_) (a' := ?_) #[true, true, true, true, true, true, true, true, true, true, true, true, true, true, true, true, true, false, false, false, false] rfl rfl (any_of HT_.out (by kernel_rfl)) (fun _ _ _ h => h) (Or.inl ⟨rfl, ?_⟩) ?_ ?_
        rotate_left
        ·intro w'
         go_simp
         with_reducible rfl
        rotate_left
        ·simp only [Act.put, List.setIfInBounds_toArray, List.set_cons_zero, List.set_cons_succ, i64_w, i32_w]
         rfl
        refine pure_ (i := 17) (N := some 30) (v := ?_) (a' := ?_) #[true, true, true, true, true, true, true, true, true, true, true, true, true, true, true, true, true, true, false, false, false] rfl rfl (any_of HT_.out (by kernel_rfl)) (fun _ _ _ h => h) (Or.inl ⟨rfl, ?_⟩) ?_ ?_
        rotate_left
        ·intro w'
         go_simp
         with_reducible rfl
        rotate_left
        ·simp only [Act.put, List.setIfInBounds_toArray, List.set_cons_zero, List.set_cons_succ, i64_w, i32_w]
         rfl
        refine take_ (i := 18) (N := some 31) (v := ?_) (a' := ?_) #[true, true, true, true, true, true, true, true, true, true, true, true, true, true, true, true, true, true, true, false, false] rfl rfl (take_ofW HT_.out HW_.out (by kernel_rfl)) (fun _ _ _ h => h) (Or.inl ⟨rfl, ?_⟩) hHeld ?_ ?_
        rotate_left
        ·rintro w' ⟨s0, s1, s2, s3, s4, s5, s6, s7, s8, s9, s10, s11, s12, s13, s14, s15, s16, s17⟩
         go_simp
         with_reducible rfl
        rotate_left
        ·simp only [Act.put, List.setIfInBounds_toArray, List.set_cons_zero, List.set_cons_succ, i64_w, i32_w]
         rfl
        refine pure_ (i := 19) (N := some 32) (v := ?_) (a' := ?_) #[true, true, true, true, true, true, true, true, true, true, true, true, true, true, true, true, true, true, true, true, false] rfl rfl (any_of HT_.out (by kernel_rfl)) (fun _ _ _ h => h) (Or.inl ⟨rfl, ?_⟩) ?_ ?_
        rotate_left
        ·intro w'
         go_simp
         with_reducible rfl
        rotate_left
        ·simp only [Act.put, List.setIfInBounds_toArray, List.set_cons_zero, List.set_cons_succ, i64_w, i32_w]
         rfl
        refine pure_ (i := 20) (N := some 33) (v := ?_) (a' := ?_) #[true, true, true, true, true, true, true, true, true, true, true, true, true, true, true, true, true, true, true, true, true] rfl rfl (any_of HT_.out (by kernel_rfl)) (fun _ _ _ h => h) (Or.inl ⟨rfl, ?_⟩) ?_ ?_
        rotate_left
        ·intro w'
         go_simp
         with_reducible rfl
        rotate_left
        ·simp only [Act.put, List.setIfInBounds_toArray, List.set_cons_zero, List.set_cons_succ, i64_w, i32_w]
         rfl
        refine done_ (done_of HT_.out (by kernel_rfl)) ?_
        have hcz12_0 : w11.cell? ⟨gb1538, 0, none⟩ = some (.slice (some ad1539) l0_0.length c0_0) := (blk_cell BK1538.out 0).trans rfl
        have hcz12_1 : w11.cell? ⟨gb1538, 1, none⟩ = some (.int .i64 a0_1) := (blk_cell BK1538.out 1).trans rfl
        have hcz12_2 : w11.cell? ⟨gb1538, 2, none⟩ = some (.int .i64 a0_2) := (blk_cell BK1538.out 2).trans rfl
        have hfz12_0 := blk_frozen BK1538.out 0
        have hfz12_1 := blk_frozen BK1538.out 1
        have hfz12_2 := blk_frozen BK1538.out 2
        have p1543 : 0 ≤ (x5_1 : Int) := of_decide_eq_true (by (with_reducible assumption))
        have q1543 : x5_1 < (l0_0.length : Int) := of_decide_eq_true (by (with_reducible assumption))
        obtain ⟨ad1543, A1543_1, c1543_1, A1543_2, c1543_2, A1543_3, c1543_3, e1543, hx1543_0, hx1543_1, hx1543_2, hx1543_3, hx1543_4, hl1543_1, hi1543_1, hl1543_2, hi1543_2, hl1543_3, hi1543_3⟩ := at_T40 HR0_0.out x5_1 p1543 q1543
        obtain rfl : ad1539 = ad1543 := (by injection e1543)
        have hy1543_1 := Aside0.mk hx1543_1
        have hy1543_2 := Aside0.mk hx1543_2
        have hy1543_3 := Aside0.mk hx1543_3
        replace hx1543_0 := (HB.out.cell (World.block_lt_of_cell? w _ hx1543_0)).trans hx1543_0
        replace hx1543_1 := (HB.out.cell (World.block_lt_of_cell? w _ hx1543_1)).trans hx1543_1
        replace hx1543_2 := (HB.out.cell (World.block_lt_of_cell? w _ hx1543_2)).trans hx1543_2
        replace hx1543_3 := (HB.out.cell (World.block_lt_of_cell? w _ hx1543_3)).trans hx1543_3
        replace hx1543_4 := (HB.out.cell (World.block_lt_of_cell? w _ hx1543_4)).trans hx1543_4
        have HR1543_1 := Aside0.mk hi1543_1
        have HC1543_1 := Aside0.mk hl1543_1
        clear hi1543_1 hl1543_1
        have HR1543_2 := Aside0.mk hi1543_2
        have HC1543_2 := Aside0.mk hl1543_2
        clear hi1543_2 hl1543_2
        have HR1543_3 := Aside0.mk hi1543_3
        have HC1543_3 := Aside0.mk hl1543_3
        clear hi1543_3 hl1543_3
        replace p1543 := eq_true p1543
        replace q1543 := eq_true q1543
        have ea_ := Option.some.inj (hy1541_1.out.symm.trans hy1543_1.out)
        injection ea_ with ea_ en_ ec_
        subst ea_
        subst ec_
        clear en_
        have ea_ := Option.some.inj (hy1541_2.out.symm.trans hy1543_2.out)
        injection ea_ with ea_ en_ ec_
        subst ea_
        subst ec_
        clear en_
        have ea_ := Option.some.inj (hy1541_3.out.symm.trans hy1543_3.out)
        injection ea_ with ea_ en_ ec_
        subst ea_
        subst ec_
        clear en_
        have p1544 : 0 ≤ (x5_1 : Int) := of_decide_eq_true (by (with_reducible assumption))
        have q1544 : x5_1 < (l0_0.length : Int) := of_decide_eq_true (by (with_reducible assumption))
        obtain ⟨ad1544, A1544_1, c1544_1, A1544_2, c1544_2, A1544_3, c1544_3, e1544, hx1544_0, hx1544_1, hx1544_2, hx1544_3, hx1544_4, hl1544_1, hi1544_1, hl1544_2, hi1544_2, hl1544_3, hi1544_3⟩ := at_T40 HR0_0.out x5_1 p1544 q1544
        obtain rfl : ad1539 = ad1544 := (by injection e1544)
        have hy1544_1 := Aside0.mk hx1544_1
        have hy1544_2 := Aside0.mk hx1544_2
        have hy1544_3 := Aside0.mk hx1544_3
        replace hx1544_0 := (HB.out.cell (World.block_lt_of_cell? w _ hx1544_0)).trans hx1544_0
        replace hx1544_1 := (HB.out.cell (World.block_lt_of_cell? w _ hx1544_1)).trans hx1544_1
        replace hx1544_2 := (HB.out.cell (World.block_lt_of_cell? w _ hx1544_2)).trans hx1544_2
        replace hx1544_3 := (HB.out.cell (World.block_lt_of_cell? w _ hx1544_3)).trans hx1544_3
        replace hx1544_4 := (HB.out.cell (World.block_lt_of_cell? w _ hx1544_4)).trans hx1544_4
        have HR1544_1 := Aside0.mk hi1544_1
        have HC1544_1 := Aside0.mk hl1544_1
        clear hi1544_1 hl1544_1
        have HR1544_2 := Aside0.mk hi1544_2
        have HC1544_2 := Aside0.mk hl1544_2
        clear hi1544_2 hl1544_2
        have HR1544_3 := Aside0.mk hi1544_3
        have HC1544_3 := Aside0.mk hl1544_3
        clear hi1544_3 hl1544_3
        replace p1544 := eq_true p1544
        replace q1544 := eq_true q1544
        have ea_ := Option.some.inj (hy1541_1.out.symm.trans hy1544_1.out)
        injection ea_ with ea_ en_ ec_
        subst ea_
        subst ec_
        clear en_
        have ea_ := Option.some.inj (hy1541_2.out.symm.trans hy1544_2.out)
        injection ea_ with ea_ en_ ec_
        subst ea_
        subst ec_
        clear en_
        have ea_ := Option.some.inj (hy1541_3.out.symm.trans hy1544_3.out)
        injection ea_ with ea_ en_ ec_
        subst ea_
        subst ec_
        clear en_
        try go_wp2
        go_roundg k1
        case measure => have := HK1.out; omega
        case rel => exact ⟨(wrap64 (x3_1 + (((rd_T40 l0_0 x5_1).f1).length : Int))), (wrap64 (x4_1 + (((rd_T40 l0_0 x5_1).f2).length : Int))), (wrap64 (x5_1 + 1)), rfl, rfl, rfl, H', ⟨by have := HK1.out; omega⟩, ⟨BK1538.out⟩, ⟨HB.out⟩⟩
       ·rw [if_neg c8] at H
        have c8b0 : (((rd_T40 l0_0 x5_1).f0) == ((rd_T40 l0_0 0).f0)) = false := beq_eq_false_iff_ne.mpr c8
        have c8b1 : (((rd_T40 l0_0 x5_1).f0) != ((rd_T40 l0_0 0).f0)) = true := bne_iff_ne.mpr c8
        obtain rfl := Option.some.inj H
        have hcz13_0 : wr.cell? ⟨gb1538, 0, none⟩ = some (.slice A0_0 l0_0.length c0_0) := (blk_cell BK1538.out 0).trans rfl
        have hcz13_1 : wr.cell? ⟨gb1538, 1, none⟩ = some (.int .i64 a0_1) := (blk_cell BK1538.out 1).trans rfl
        have hcz13_2 : wr.cell? ⟨gb1538, 2, none⟩ = some (.int .i64 a0_2) := (blk_cell BK1538.out 2).trans rfl
        have hfz13_0 := blk_frozen BK1538.out 0
        have hfz13_1 := blk_frozen BK1538.out 1
        have hfz13_2 := blk_frozen BK1538.out 2
        try go_wp2
        have n0_ := Aside0.mk (blk_drew BK1538.out)
        have n1_ := Aside0.mk (below_drew1 HB.out)
        clear BK1538
        clear HB
        have BK1538 := n0_
        have HB := n1_
        clear n0_ n1_
        have p1539 : 0 ≤ (x5_1 : Int) := of_decide_eq_true (by (with_reducible assumption))
        have q1539 : x5_1 < (l0_0.length : Int) := of_decide_eq_true (by (with_reducible assumption))
        obtain ⟨ad1539, A1539_1, c1539_1, A1539_2, c1539_2, A1539_3, c1539_3, e1539, hx1539_0, hx1539_1, hx1539_2, hx1539_3, hx1539_4, hl1539_1, hi1539_1, hl1539_2, hi1539_2, hl1539_3, hi1539_3⟩ := at_T40 HR0_0.out x5_1 p1539 q1539
        have hw1539_4 := hx1539_4
        have hw1539_3 := hx1539_3
        have hw1539_2 := hx1539_2
        have hw1539_1 := hx1539_1
        have hw1539_0 := hx1539_0
        cases e1539
        replace hx1539_0 := (HB.out.cell (World.block_lt_of_cell? w _ hx1539_0)).trans hx1539_0
        replace hx1539_1 := (HB.out.cell (World.block_lt_of_cell? w _ hx1539_1)).trans hx1539_1
        replace hx1539_2 := (HB.out.cell (World.block_lt_of_cell? w _ hx1539_2)).trans hx1539_2
        replace hx1539_3 := (HB.out.cell (World.block_lt_of_cell? w _ hx1539_3)).trans hx1539_3
        replace hx1539_4 := (HB.out.cell (World.block_lt_of_cell? w _ hx1539_4)).trans hx1539_4
        have HR1539_1 := Aside0.mk hi1539_1
        have HC1539_1 := Aside0.mk hl1539_1
        clear hi1539_1 hl1539_1
        have HR1539_2 := Aside0.mk hi1539_2
        have HC1539_2 := Aside0.mk hl1539_2
        clear hi1539_2 hl1539_2
        have HR1539_3 := Aside0.mk hi1539_3
        have HC1539_3 := Aside0.mk hl1539_3
        clear hi1539_3 hl1539_3
        replace p1539 := eq_true p1539
        replace q1539 := eq_true q1539
        have p1541 : 0 ≤ (x5_1 : Int) := of_decide_eq_true (by (with_reducible assumption))
        have q1541 : x5_1 < (l0_0.length : Int) := of_decide_eq_true (by (with_reducible assumption))
        obtain ⟨ad1541, A1541_1, c1541_1, A1541_2, c1541_2, A1541_3, c1541_3, e1541, hx1541_0, hx1541_1, hx1541_2, hx1541_3, hx1541_4, hl1541_1, hi1541_1, hl1541_2, hi1541_2, hl1541_3, hi1541_3⟩ := at_T40 HR0_0.out x5_1 p1541 q1541
        have hy1541_1 := Aside0.mk hx1541_1
        have hy1541_2 := Aside0.mk hx1541_2
        have hy1541_3 := Aside0.mk hx1541_3
        have hw1541_4 := hx1541_4
        have hw1541_3 := hx1541_3
        have hw1541_2 := hx1541_2
        have hw1541_1 := hx1541_1
        have hw1541_0 := hx1541_0
        obtain rfl : ad1539 = ad1541 := (by injection e1541)
        replace hx1541_0 := (HB.out.cell (World.block_lt_of_cell? w _ hx1541_0)).trans hx1541_0
        replace hx1541_1 := (HB.out.cell (World.block_lt_of_cell? w _ hx1541_1)).trans hx1541_1
        replace hx1541_2 := (HB.out.cell (World.block_lt_of_cell? w _ hx1541_2)).trans hx1541_2
        replace hx1541_3 := (HB.out.cell (World.block_lt_of_cell? w _ hx1541_3)).trans hx1541_3
        replace hx1541_4 := (HB.out.cell (World.block_lt_of_cell? w _ hx1541_4)).trans hx1541_4
        have HR1541_1 := Aside0.mk hi1541_1
        have HC1541_1 := Aside0.mk hl1541_1
        clear hi1541_1 hl1541_1
        have HR1541_2 := Aside0.mk hi1541_2
        have HC1541_2 := Aside0.mk hl1541_2
        clear hi1541_2 hl1541_2
        have HR1541_3 := Aside0.mk hi1541_3
        have HC1541_3 := Aside0.mk hl1541_3
        clear hi1541_3 hl1541_3
        replace p1541 := eq_true p1541
        replace q1541 := eq_true q1541
        have p1542 : 0 ≤ (0 : Int) := (by omega)
        have q1542 : 0 < (l0_0.length : Int) := of_decide_eq_true (by (with_reducible assumption))
        obtain ⟨ad1542, A1542_1, c1542_1, A1542_2, c1542_2, A1542_3, c1542_3, e1542, hx1542_0, hx1542_1, hx1542_2, hx1542_3, hx1542_4, hl1542_1, hi1542_1, hl1542_2, hi1542_2, hl1542_3, hi1542_3⟩ := at_T40 HR0_0.out 0 p1542 q1542
        have hw1542_4 := hx1542_4
        (try rw [show ((0 : Int)).toNat = 0 from rfl] at hw1542_4)
        (try rw [show 0 * 5 = 0 from rfl] at hw1542_4)
        (try rw [Addr.add_zero'] at hw1542_4)
        have hw1542_3 := hx1542_3
        (try rw [show ((0 : Int)).toNat = 0 from rfl] at hw1542_3)
        (try rw [show 0 * 5 = 0 from rfl] at hw1542_3)
        (try rw [Addr.add_zero'] at hw1542_3)
        have hw1542_2 := hx1542_2
        (try rw [show ((0 : Int)).toNat = 0 from rfl] at hw1542_2)
        (try rw [show 0 * 5 = 0 from rfl] at hw1542_2)
        (try rw [Addr.add_zero'] at hw1542_2)
        have hw1542_1 := hx1542_1
        (try rw [show ((0 : Int)).toNat = 0 from rfl] at hw1542_1)
        (try rw [show 0 * 5 = 0 from rfl] at hw1542_1)
        (try rw [Addr.add_zero'] at hw1542_1)
        have hw1542_0 := hx1542_0
        (try rw [show ((0 : Int)).toNat = 0 from rfl] at hw1542_0)
        (try rw [show 0 * 5 = 0 from rfl] at hw1542_0)
        (try rw [Addr.add_zero'] at hw1542_0)
        obtain rfl : ad1539 = ad1542 := (by injection e1542)
        have qi1542 : (0 < l0_0.length) = True := eq_true (by omega)
        (try rw [show ((0 : Int)).toNat = 0 from rfl] at hx1542_0)
        (try rw [show 0 * 5 = 0 from rfl] at hx1542_0)
        (try rw [Addr.add_zero'] at hx1542_0)
        (try rw [show ((0 : Int)).toNat = 0 from rfl] at hx1542_1)
        (try rw [show 0 * 5 = 0 from rfl] at hx1542_1)
        (try rw [Addr.add_zero'] at hx1542_1)
        (try rw [show ((0 : Int)).toNat = 0 from rfl] at hx1542_2)
        (try rw [show 0 * 5 = 0 from rfl] at hx1542_2)
        (try rw [Addr.add_zero'] at hx1542_2)
        (try rw [show ((0 : Int)).toNat = 0 from rfl] at hx1542_3)
        (try rw [show 0 * 5 = 0 from rfl] at hx1542_3)
        (try rw [Addr.add_zero'] at hx1542_3)
        (try rw [show ((0 : Int)).toNat = 0 from rfl] at hx1542_4)
        (try rw [show 0 * 5 = 0 from rfl] at hx1542_4)
        (try rw [Addr.add_zero'] at hx1542_4)
        replace hx1542_0 := (HB.out.cell (World.block_lt_of_cell? w _ hx1542_0)).trans hx1542_0
        replace hx1542_1 := (HB.out.cell (World.block_lt_of_cell? w _ hx1542_1)).trans hx1542_1
        replace hx1542_2 := (HB.out.cell (World.block_lt_of_cell? w _ hx1542_2)).trans hx1542_2
        replace hx1542_3 := (HB.out.cell (World.block_lt_of_cell? w _ hx1542_3)).trans hx1542_3
        replace hx1542_4 := (HB.out.cell (World.block_lt_of_cell? w _ hx1542_4)).trans hx1542_4
        have HR1542_1 := Aside0.mk hi1542_1
        have HC1542_1 := Aside0.mk hl1542_1
        clear hi1542_1 hl1542_1
        have HR1542_2 := Aside0.mk hi1542_2
        have HC1542_2 := Aside0.mk hl1542_2
        clear hi1542_2 hl1542_2
        have HR1542_3 := Aside0.mk hi1542_3
        have HC1542_3 := Aside0.mk hl1542_3
        clear hi1542_3 hl1542_3
        replace p1542 := eq_true p1542
        replace q1542 := eq_true q1542
        refine start_ (n := 21) (S := fun w' => w'.cell? ⟨gb1538, 0, none⟩ = some (.slice (some ad1539) l0_0.length c0_0) ∧ w'.cell? ⟨gb1538, 1, none⟩ = some (.int .i64 a0_1) ∧ w'.cell? ⟨gb1538, 2, none⟩ = some (.int .i64 a0_2) ∧ w'.cell? (ad1539.add ((x5_1).toNat * 5)) = some (.int .i64 ((rd_T40 l0_0 x5_1).f0)) ∧ w'.cell? ⟨(ad1539.add ((x5_1).toNat * 5)).block, (ad1539.add ((x5_1).toNat * 5)).off + 1, none⟩ = some (.slice A1539_1 ((rd_T40 l0_0 x5_1).f1).length c1539_1) ∧ w'.cell? ⟨(ad1539.add ((x5_1).toNat * 5)).block, (ad1539.add ((x5_1).toNat * 5)).off + 2, none⟩ = some (.slice A1539_2 ((rd_T40 l0_0 x5_1).f2).length c1539_2) ∧ w'.cell? ⟨(ad1539.add ((x5_1).toNat * 5)).block, (ad1539.add ((x5_1).toNat * 5)).off + 3, none⟩ = some (.slice A1539_3 ((rd_T40 l0_0 x5_1).f3).length c1539_3) ∧ w'.cell? ⟨(ad1539.add ((x5_1).toNat * 5)).block, (ad1539.add ((x5_1).toNat * 5)).off + 4, none⟩ = some (.int .i64 ((rd_T40 l0_0 x5_1).f4)) ∧ w'.cell? (ad1539.add ((x5_1).toNat * 5)) = some (.int .i64 ((rd_T40 l0_0 x5_1).f0)) ∧ w'.cell? ⟨(ad1539.add ((x5_1).toNat * 5)).block, (ad1539.add ((x5_1).toNat * 5)).off + 1, none⟩ = some (.slice A1541_1 ((rd_T40 l0_0 x5_1).f1).length c1541_1) ∧ w'.cell? ⟨(ad1539.add ((x5_1).toNat * 5)).block, (ad1539.add ((x5_1).toNat * 5)).off + 2, none⟩ = some (.slice A1541_2 ((rd_T40 l0_0 x5_1).f2).length c1541_2) ∧ w'.cell? ⟨(ad1539.add ((x5_1).toNat * 5)).block, (ad1539.add ((x5_1).toNat * 5)).off + 3, none⟩ = some (.slice A1541_3 ((rd_T40 l0_0 x5_1).f3).length c1541_3) ∧ w'.cell? ⟨(ad1539.add ((x5_1).toNat * 5)).block, (ad1539.add ((x5_1).toNat * 5)).off + 4, none⟩ = some (.int .i64 ((rd_T40 l0_0 x5_1).f4)) ∧ w'.cell? ad1539 = some (.int .i64 ((rd_T40 l0_0 0).f0)) ∧ w'.cell? ⟨ad1539.block, ad1539.off + 1, none⟩ = some (.slice A1542_1 ((rd_T40 l0_0 0).f1).length c1542_1) ∧ w'.cell? ⟨ad1539.block, ad1539.off + 2, none⟩ = some (.slice A1542_2 ((rd_T40 l0_0 0).f2).length c1542_2) ∧ w'.cell? ⟨ad1539.block, ad1539.off + 3, none⟩ = some (.slice A1542_3 ((rd_T40 l0_0 0).f3).length c1542_3) ∧ w'.cell? ⟨ad1539.block, ad1539.off + 4, none⟩ = some (.int .i64 ((rd_T40 l0_0 0).f4))) (ds := []) #[false, false, false, false, false, false, false, false, false, false, false, false, false, false, false, false, false, false, false, false, false] (by kernel_rfl) rfl rfl ⟨(blk_cell BK1538.out 0).trans rfl, (blk_cell BK1538.out 1).trans rfl, (blk_cell BK1538.out 2).trans rfl, ((HB.out.cell (World.block_lt_of_cell? w _ hw1539_0)).trans hw1539_0), ((HB.out.cell (World.block_lt_of_cell? w _ hw1539_1)).trans hw1539_1), ((HB.out.cell (World.block_lt_of_cell? w _ hw1539_2)).trans hw1539_2), ((HB.out.cell (World.block_lt_of_cell? w _ hw1539_3)).trans hw1539_3), ((HB.out.cell (World.block_lt_of_cell? w _ hw1539_4)).trans hw1539_4), ((HB.out.cell (World.block_lt_of_cell? w _ hw1541_0)).trans hw1541_0), ((HB.out.cell (World.block_lt_of_cell? w _ hw1541_1)).trans hw1541_1), ((HB.out.cell (World.block_lt_of_cell? w _ hw1541_2)).trans hw1541_2), ((HB.out.cell (World.block_lt_of_cell? w _ hw1541_3)).trans hw1541_3), ((HB.out.cell (World.block_lt_of_cell? w _ hw1541_4)).trans hw1541_4), ((HB.out.cell (World.block_lt_of_cell? w _ hw1542_0)).trans hw1542_0), ((HB.out.cell (World.block_lt_of_cell? w _ hw1542_1)).trans hw1542_1), ((HB.out.cell (World.block_lt_of_cell? w _ hw1542_2)).trans hw1542_2), ((HB.out.cell (World.block_lt_of_cell? w _ hw1542_3)).trans hw1542_3), ((HB.out.cell (World.block_lt_of_cell? w _ hw1542_4)).trans hw1542_4)⟩ (fun hHeld => ?_); refine with_tabW spec_IsValidJoiner.tab6 spec_IsValidJoiner.bits6 (fun HT_ HW_ => ?_)
        generalize wr.drew = w14 at BK1538 HB HR1539_1 HR1539_2 HR1539_3 HR1541_1 HR1541_2 HR1541_3 HR1542_1 HR1542_2 HR1542_3 hx1539_0 hx1539_1 hx1539_2 hx1539_3 hx1539_4 hx1541_0 hx1541_1 hx1541_2 hx1541_3 hx1541_4 hx1542_0 hx1542_1 hx1542_2 hx1542_3 hx1542_4 hHeld ⊢
        refine pure_ (i := 0) (N := some 13) (v := ?_) (a' := ?_) #[true, false, false, false, false, false, false, false, false, false, false, false, false, false, false, false, false, false, false, false, false] rfl rfl (any_of HT_.out (by kernel_rfl)) (fun _ _ _ h => h) (Or.inl ⟨rfl, ?_⟩) ?_ ?_
        rotate_left
        ·intro w'
         go_simp
         with_reducible rfl
        rotate_left
        ·simp only [Act.put, List.setIfInBounds_toArray, List.set_cons_zero, List.set_cons_succ, i64_w, i32_w]
         rfl
        refine pure_ (i := 2) (N := some 15) (v := ?_) (a' := ?_) #[true, false, true, false, false, false, false, false, false, false, false, false, false, false, false, false, false, false, false, false, false] rfl rfl (any_of HT_.out (by kernel_rfl)) (fun _ _ _ h => h) (Or.inl ⟨rfl, ?_⟩) ?_ ?_
        rotate_left
        ·intro w'
         go_simp
         with_reducible rfl
        rotate_left
        ·simp only [Act.put, List.setIfInBounds_toArray, List.set_cons_zero, List.set_cons_succ, i64_w, i32_w]
         rfl
        refine take_ (i := 1) (N := some 14) (v := ?_) (a' := ?_) #[true, true, true, false, false, false, false, false, false, false, false, false, false, false, false, false, false, false, false, false, false] rfl rfl (take_ofW HT_.out HW_.out (by kernel_rfl)) (fun _ _ _ h => h) (Or.inl ⟨rfl, ?_⟩) hHeld ?_ ?_
        rotate_left
        ·rintro w' ⟨s0, s1, s2, s3, s4, s5, s6, s7, s8, s9, s10, s11, s12, s13, s14, s15, s16, s17⟩
         go_simp
         with_reducible rfl
        rotate_left
        ·simp only [Act.put, List.setIfInBounds_toArray, List.set_cons_zero, List.set_cons_succ, i64_w, i32_w]
         rfl
        refine pure_ (i := 3) (N := some 16) (v := ?_) (a' := ?_) #[true, true, true, true, false, false, false, false, false, false, false, false, false, false, false, false, false, false, false, false, false] rfl rfl (any_of HT_.out (by kernel_rfl)) (fun _ _ _ h => h) (Or.inl ⟨rfl, ?_⟩) ?_ ?_
        rotate_left
        ·intro w'
         go_simp
         with_reducible rfl
        rotate_left
        ·simp only [Act.put, List.setIfInBounds_toArray, List.set_cons_zero, List.set_cons_succ, i64_w, i32_w]
         rfl
        refine take_ (i := 4) (N := some 17) (v := ?_) (a' := ?_) #[true, true, true, true, true, false, false, false, false, false, false, false, false, false, false, false, false, false, false, false, false] rfl rfl (take_ofW HT_.out HW_.out (by kernel_rfl)) (fun _ _ _ h => h) (Or.inl ⟨rfl, ?_⟩) hHeld ?_ ?_
        rotate_left
        ·rintro w' ⟨s0, s1, s2, s3, s4, s5, s6, s7, s8, s9, s10, s11, s12, s13, s14, s15, s16, s17⟩
         go_simp
         with_reducible rfl
        rotate_left
        ·simp only [Act.put, List.setIfInBounds_toArray, List.set_cons_zero, List.set_cons_succ, i64_w, i32_w]
         rfl
        refine one_ (i := 5) (N := some 18) #[true, true, true, true, true, true, false, false, false, false, false, false, false, false, false, false, false, false, false, false, false] rfl rfl (one_of HT_.out (by kernel_rfl)) (by decide) (fun K hK => ?_)
        refine goes_ Try.func65 (by kernel_rfl) rfl #[.agg #[.int .i64 ((rd_T40 l0_0 x5_1).f0), .slice A1539_1 ((rd_T40 l0_0 x5_1).f1).length c1539_1, .slice A1539_2 ((rd_T40 l0_0 x5_1).f2).length c1539_2, .slice A1539_3 ((rd_T40 l0_0 x5_1).f3).length c1539_3, .int .i64 ((rd_T40 l0_0 x5_1).f4)]] rfl rfl rfl (by (try simp only [List.map_toArray, List.map_cons, List.map_nil]); rfl) ?_
        with_reducible refine (spec_IsValidTask.calls k1 ((rd_T40 l0_0 x5_1).f0) _ _ ((rd_T40 l0_0 x5_1).f1) _ _ ((rd_T40 l0_0 x5_1).f2) _ _ ((rd_T40 l0_0 x5_1).f3) ((rd_T40 l0_0 x5_1).f4) true _ ?side1 ?side2 ?side3 ?side4 ?side5 ?side6 A5.out).mono ?_
        (case side1 => repeat (exact (Kd.C_below HR1539_1.out HB.out)))
        (case side2 => exact HC1539_1.out)
        (case side3 => repeat (exact (Kd.C_below HR1539_2.out HB.out)))
        (case side4 => exact HC1539_2.out)
        (case side5 => repeat (exact (Kd.C_below HR1539_3.out HB.out)))
        (case side6 => exact HC1539_3.out)
        rintro e w15 ⟨rfl, hb⟩
        refine ⟨_, rfl, ?_⟩
        have n0_ := Aside0.mk (blk_below (g := gb1538) (o := .cells #[.slice (some ad1539) l0_0.length c0_0, .int .i64 a0_1, .int .i64 a0_2] 68 (0, 0)) BK1538.out hb)
        have n1_ := Aside0.mk (below_step HB.out hb)
        clear BK1538
        clear HB
        have BK1538 := n0_
        have HB := n1_
        clear n0_ n1_
        (try clear hb)
        (try clear hb2)
        (try clear hk)
        (try clear hi)
        refine hK.out _ _ ⟨(blk_cell BK1538.out 0).trans rfl, (blk_cell BK1538.out 1).trans rfl, (blk_cell BK1538.out 2).trans rfl, ((HB.out.cell (World.block_lt_of_cell? w _ hw1539_0)).trans hw1539_0), ((HB.out.cell (World.block_lt_of_cell? w _ hw1539_1)).trans hw1539_1), ((HB.out.cell (World.block_lt_of_cell? w _ hw1539_2)).trans hw1539_2), ((HB.out.cell (World.block_lt_of_cell? w _ hw1539_3)).trans hw1539_3), ((HB.out.cell (World.block_lt_of_cell? w _ hw1539_4)).trans hw1539_4), ((HB.out.cell (World.block_lt_of_cell? w _ hw1541_0)).trans hw1541_0), ((HB.out.cell (World.block_lt_of_cell? w _ hw1541_1)).trans hw1541_1), ((HB.out.cell (World.block_lt_of_cell? w _ hw1541_2)).trans hw1541_2), ((HB.out.cell (World.block_lt_of_cell? w _ hw1541_3)).trans hw1541_3), ((HB.out.cell (World.block_lt_of_cell? w _ hw1541_4)).trans hw1541_4), ((HB.out.cell (World.block_lt_of_cell? w _ hw1542_0)).trans hw1542_0), ((HB.out.cell (World.block_lt_of_cell? w _ hw1542_1)).trans hw1542_1), ((HB.out.cell (World.block_lt_of_cell? w _ hw1542_2)).trans hw1542_2), ((HB.out.cell (World.block_lt_of_cell? w _ hw1542_3)).trans hw1542_3), ((HB.out.cell (World.block_lt_of_cell? w _ hw1542_4)).trans hw1542_4)⟩ (fun hHeld => ?_)
        clear hK K
        refine norm_ (a' := ?_) ?_ ?_
        rotate_left
        ·show Act.put _ (some 18) _ = _
         simp only [Act.put, List.setIfInBounds_toArray, List.set_cons_zero, List.set_cons_succ, i64_w, i32_w]
         rfl
        refine pure_ (i := 6) (N := some 19) (v := ?_) (a' := ?_) #[true, true, true, true, true, true, true, false, false, false, false, false, false, false, false, false, false, false, false, false, false] rfl rfl (any_of HT_.out (by kernel_rfl)) (fun _ _ _ h => h) (Or.inl ⟨rfl, ?_⟩) ?_ ?_
        rotate_left
        ·intro w'
         go_simp
         with_reducible rfl
        rotate_left
        ·simp only [Act.put, List.setIfInBounds_toArray, List.set_cons_zero, List.set_cons_succ, i64_w, i32_w]
         rfl
        refine pure_ (i := 7) (N := some 20) (v := ?_) (a' := ?_) #[true, true, true, true, true, true, true, true, false, false, false, false, false, false, false, false, false, false, false, false, false] rfl rfl (any_of HT_.out (by kernel_rfl)) (fun _ _ _ h => h) (Or.inl ⟨rfl, ?_⟩) ?_ ?_
        rotate_left
        ·intro w'
         go_simp
         with_reducible rfl
        rotate_left
        ·simp only [Act.put, List.setIfInBounds_toArray, List.set_cons_zero, List.set_cons_succ, i64_w, i32_w]
         rfl
        refine pure_ (i := 8) (N := some 21) (v := ?_) (a' := ?_) #[true, true, true, true, true, true, true, true, true, false, false, false, false, false, false, false, false, false, false, false, false] rfl rfl (any_of HT_.out (by kernel_rfl)) (fun _ _ _ h => h) (Or.inl ⟨rfl, ?_⟩) ?_ ?_
        rotate_left
        ·intro w'
         go_simp
         with_reducible rfl
        rotate_left
        ·simp only [Act.put, List.setIfInBounds_toArray, List.set_cons_zero, List.set_cons_succ, i64_w, i32_w]
         rfl
        refine pure_ (i := 10) (N := some 23) (v := ?_) (a' := ?_) #[true, true, true, true, true, true, true, true, true, false, true, false, false, false, false, false, false, false, false, false, false] rfl rfl (any_of HT_.out (by kernel_rfl)) (fun _ _ _ h => h) (Or.inl ⟨rfl, ?_⟩) ?_ ?_
        rotate_left
        ·intro w'
         go_simp
         with_reducible rfl
        rotate_left
        ·simp only [Act.put, List.setIfInBounds_toArray, List.set_cons_zero, List.set_cons_succ, i64_w, i32_w]
         rfl
        refine pure_ (i := 14) (N := some 27) (v := ?_) (a' := ?_) #[true, true, true, true, true, true, true, true, true, false, true, false, false, false, true, false, false, false, false, false, false] rfl rfl (any_of HT_.out (by kernel_rfl)) (fun _ _ _ h => h) (Or.inl ⟨rfl, ?_⟩) ?_ ?_
        rotate_left
        ·intro w'
         go_simp
         with_reducible rfl
        rotate_left
        ·simp only [Act.put, List.setIfInBounds_toArray, List.set_cons_zero, List.set_cons_succ, i64_w, i32_w]
         rfl
        refine take_ (i := 9) (N := some 22) (v := ?_) (a' := ?_) #[true, true, true, true, true, true, true, true, true, true, true, false, false, false, true, false, false, false, false, false, false] rfl rfl (take_ofW HT_.out HW_.out (by kernel_rfl)) (fun _ _ _ h => h) (Or.inl ⟨rfl, ?_⟩) hHeld ?_ ?_
        rotate_left
        ·rintro w' ⟨s0, s1, s2, s3, s4, s5, s6, s7, s8, s9, s10, s11, s12, s13, s14, s15, s16, s17⟩
         go_simp
         with_reducible rfl
        rotate_left
        ·simp only [Act.put, List.setIfInBounds_toArray, List.set_cons_zero, List.set_cons_succ, i64_w, i32_w]
         rfl
        refine pure_ (i := 11) (N := some 24) (v := ?_) (a' := ?_) #[true, true, true, true, true, true, true, true, true, true, true, true, false, false, true, false, false, false, false, false, false] rfl rfl (any_of HT_.out (by kernel_rfl)) (fun _ _ _ h => h) (Or.inl ⟨rfl, ?_⟩) ?_ ?_
        rotate_left
        ·intro w'
         go_simp
         with_reducible rfl
        rotate_left
        ·simp only [Act.put, List.setIfInBounds_toArray, List.set_cons_zero, List.set_cons_succ, i64_w, i32_w]
         rfl
        refine pure_ (i := 12) (N := some 25) (v := ?_) (a' := ?_) #[true, true, true, true, true, true, true, true, true, true, true, true, true, false, true, false, false, false, false, false, false] rfl rfl (any_of HT_.out (by kernel_rfl)) (fun _ _ _ h => h) (Or.inl ⟨rfl, ?_⟩) ?_ ?_
        rotate_left
        ·intro w'
         go_simp
         with_reducible rfl
        rotate_left
        ·simp only [Act.put, List.setIfInBounds_toArray, List.set_cons_zero, List.set_cons_succ, i64_w, i32_w]
         rfl
        refine take_ (i := 13) (N := some 26) (v := ?_) (a' := ?_) #[true, true, true, true, true, true, true, true, true, true, true, true, true, true, true, false, false, false, false, false, false] rfl rfl (take_ofW HT_.out HW_.out (by kernel_rfl)) (fun _ _ _ h => h) (Or.inl ⟨rfl, ?_⟩) hHeld ?_ ?_
        rotate_left
        ·rintro w' ⟨s0, s1, s2, s3, s4, s5, s6, s7, s8, s9, s10, s11, s12, s13, s14, s15, s16, s17⟩
         go_simp
         with_reducible rfl
        rotate_left
        ·simp only [Act.put, List.setIfInBounds_toArray, List.set_cons_zero, List.set_cons_succ, i64_w, i32_w]
         rfl
        refine take_ (i := 15) (N := some 28) (v := ?_) (a' := ?_) #[true, true, true, true, true, true, true, true, true, true, true, true, true, true, true, true, false, false, false, false, false] rfl rfl (take_ofW HT_.out HW_.out (by kernel_rfl)) (fun _ _ _ h => h) (Or.inl ⟨rfl, ?_⟩) hHeld ?_ ?_
        rotate_left
        ·rintro w' ⟨s0, s1, s2, s3, s4, s5, s6, s7, s8, s9, s10, s11, s12, s13, s14, s15, s16, s17⟩
         go_simp
         with_reducible rfl
        rotate_left
        ·simp only [Act.put, List.setIfInBounds_toArray, List.set_cons_zero, List.set_cons_succ, i64_w, i32_w]
         rfl
        refine pure_ (i := 16) (N := some 29) (v := ?_) (a' := ?_) #[true, true, true, true, true, true, true, true, true, true, true, true, true, true, true, true, true, false, false, false, false] rfl rfl (any_of HT_.out (by kernel_rfl)) (fun _ _ _ h => h) (Or.inl ⟨rfl, ?_⟩) ?_ ?_
        rotate_left
        ·intro w'
         go_simp
         with_reducible rfl
        rotate_left
        ·simp only [Act.put, List.setIfInBounds_toArray, List.set_cons_zero, List.set_cons_succ, i64_w, i32_w]
         rfl
        refine pure_ (i := 17) (N := some 30) (v := ?_) (a' := ?_) #[true, true, true, true, true, true, true, true, true, true, true, true, true, true, true, true, true, true, false, false, false] rfl rfl (any_of HT_.out (by kernel_rfl)) (fun _ _ _ h => h) (Or.inl ⟨rfl, ?_⟩) ?_ ?_
        rotate_left
        ·intro w'
         go_simp
         with_reducible rfl
        rotate_left
        ·simp only [Act.put, List.setIfInBounds_toArray, List.set_cons_zero, List.set_cons_succ, i64_w, i32_w]
         rfl
        refine take_ (i := 18) (N := some 31) (v := ?_) (a' := ?_) #[true, true, true, true, true, true, true, true, true, true, true, true, true, true, true, true, true, true, true, false, false] rfl rfl (take_ofW HT_.out HW_.out (by kernel_rfl)) (fun _ _ _ h => h) (Or.inl ⟨rfl, ?_⟩) hHeld ?_ ?_
        rotate_left
        ·rintro w' ⟨s0, s1, s2, s3, s4, s5, s6, s7, s8, s9, s10, s11, s12, s13, s14, s15, s16, s17⟩
         go_simp
         with_reducible rfl
        rotate_left
        ·simp only [Act.put, List.setIfInBounds_toArray, List.set_cons_zero, List.set_cons_succ, i64_w, i32_w]
         rfl
        refine pure_ (i := 19) (N := some 32) (v := ?_) (a' := ?_) #[true, true, true, true, true, true, true, true, true, true, true, true, true, true, true, true, true, true, true, true, false] rfl rfl (any_of HT_.out (by kernel_rfl)) (fun _ _ _ h => h) (Or.inl ⟨rfl, ?_⟩) ?_ ?_
        rotate_left
        ·intro w'
         go_simp
         with_reducible rfl
        rotate_left
        ·simp only [Act.put, List.setIfInBounds_toArray, List.set_cons_zero, List.set_cons_succ, i64_w, i32_w]
         rfl
        refine pure_ (i := 20) (N := some 33) (v := ?_) (a' := ?_) #[true, true, true, true, true, true, true, true, true, true, true, true, true, true, true, true, true, true, true, true, true] rfl rfl (any_of HT_.out (by kernel_rfl)) (fun _ _ _ h => h) (Or.inl ⟨rfl, ?_⟩) ?_ ?_
        rotate_left
        ·intro w'
         go_simp
         with_reducible rfl
        rotate_left
        ·simp only [Act.put, List.setIfInBounds_toArray, List.set_cons_zero, List.set_cons_succ, i64_w, i32_w]
         rfl
        refine done_ (done_of HT_.out (by kernel_rfl)) ?_
        try go_wp2
        go_ret
        exact ⟨rfl, HB.out⟩
      ·rw [if_neg c7] at H
       exact absurd H (by simp)
     ·replace c6 := Bool.eq_false_iff.mpr c6
      subst c6
      rw [if_neg (show ¬ (false = true) by decide)] at H
      obtain rfl := Option.some.inj H
      have hcz16_0 : wr.cell? ⟨gb1538, 0, none⟩ = some (.slice A0_0 l0_0.length c0_0) := (blk_cell BK1538.out 0).trans rfl
      have hcz16_1 : wr.cell? ⟨gb1538, 1, none⟩ = some (.int .i64 a0_1) := (blk_cell BK1538.out 1).trans rfl
      have hcz16_2 : wr.cell? ⟨gb1538, 2, none⟩ = some (.int .i64 a0_2) := (blk_cell BK1538.out 2).trans rfl
      have hfz16_0 := blk_frozen BK1538.out 0
      have hfz16_1 := blk_frozen BK1538.out 1
      have hfz16_2 := blk_frozen BK1538.out 2
      try go_wp2
      have n0_ := Aside0.mk (blk_drew BK1538.out)
      have n1_ := Aside0.mk (below_drew1 HB.out)
      clear BK1538
      clear HB
      have BK1538 := n0_
      have HB := n1_
      clear n0_ n1_
      have p1539 : 0 ≤ (x5_1 : Int) := of_decide_eq_true (by (with_reducible assumption))
      have q1539 : x5_1 < (l0_0.length : Int) := of_decide_eq_true (by (with_reducible assumption))
      obtain ⟨ad1539, A1539_1, c1539_1, A1539_2, c1539_2, A1539_3, c1539_3, e1539, hx1539_0, hx1539_1, hx1539_2, hx1539_3, hx1539_4, hl1539_1, hi1539_1, hl1539_2, hi1539_2, hl1539_3, hi1539_3⟩ := at_T40 HR0_0.out x5_1 p1539 q1539
      have hw1539_4 := hx1539_4
      have hw1539_3 := hx1539_3
      have hw1539_2 := hx1539_2
      have hw1539_1 := hx1539_1
      have hw1539_0 := hx1539_0
      cases e1539
      replace hx1539_0 := (HB.out.cell (World.block_lt_of_cell? w _ hx1539_0)).trans hx1539_0
      replace hx1539_1 := (HB.out.cell (World.block_lt_of_cell? w _ hx1539_1)).trans hx1539_1
      replace hx1539_2 := (HB.out.cell (World.block_lt_of_cell? w _ hx1539_2)).trans hx1539_2
      replace hx1539_3 := (HB.out.cell (World.block_lt_of_cell? w _ hx1539_3)).trans hx1539_3
      replace hx1539_4 := (HB.out.cell (World.block_lt_of_cell? w _ hx1539_4)).trans hx1539_4
      have HR1539_1 := Aside0.mk hi1539_1
      have HC1539_1 := Aside0.mk hl1539_1
      clear hi1539_1 hl1539_1
      have HR1539_2 := Aside0.mk hi1539_2
      have HC1539_2 := Aside0.mk hl1539_2
      clear hi1539_2 hl1539_2
      have HR1539_3 := Aside0.mk hi1539_3
      have HC1539_3 := Aside0.mk hl1539_3
      clear hi1539_3 hl1539_3
      replace p1539 := eq_true p1539
      replace q1539 := eq_true q1539
      refine start_ (n := 21) (S := fun w' => w'.cell? ⟨gb1538, 0, none⟩ = some (.slice (some ad1539) l0_0.length c0_0) ∧ w'.cell? ⟨gb1538, 1, none⟩ = some (.int .i64 a0_1) ∧ w'.cell? ⟨gb1538, 2, none⟩ = some (.int .i64 a0_2) ∧ w'.cell? (ad1539.add ((x5_1).toNat * 5)) = some (.int .i64 ((rd_T40 l0_0 x5_1).f0)) ∧ w'.cell? ⟨(ad1539.add ((x5_1).toNat * 5)).block, (ad1539.add ((x5_1).toNat * 5)).off + 1, none⟩ = some (.slice A1539_1 ((rd_T40 l0_0 x5_1).f1).length c1539_1) ∧ w'.cell? ⟨(ad1539.add ((x5_1).toNat * 5)).block, (ad1539.add ((x5_1).toNat * 5)).off + 2, none⟩ = some (.slice A1539_2 ((rd_T40 l0_0 x5_1).f2).length c1539_2) ∧ w'.cell? ⟨(ad1539.add ((x5_1).toNat * 5)).block, (ad1539.add ((x5_1).toNat * 5)).off + 3, none⟩ = some (.slice A1539_3 ((rd_T40 l0_0 x5_1).f3).length c1539_3) ∧ w'.cell? ⟨(ad1539.add ((x5_1).toNat * 5)).block, (ad1539.add ((x5_1).toNat * 5)).off + 4, none⟩ = some (.int .i64 ((rd_T40 l0_0 x5_1).f4))) (ds := []) #[false, false, false, false, false, false, false, false, false, false, false, false, false, false, false, false, false, false, false, false, false] (by kernel_rfl) rfl rfl ⟨(blk_cell BK1538.out 0).trans rfl, (blk_cell BK1538.out 1).trans rfl, (blk_cell BK1538.out 2).trans rfl, ((HB.out.cell (World.block_lt_of_cell? w _ hw1539_0)).trans hw1539_0), ((HB.out.cell (World.block_lt_of_cell? w _ hw1539_1)).trans hw1539_1), ((HB.out.cell (World.block_lt_of_cell? w _ hw1539_2)).trans hw1539_2), ((HB.out.cell (World.block_lt_of_cell? w _ hw1539_3)).trans hw1539_3), ((HB.out.cell (World.block_lt_of_cell? w _ hw1539_4)).trans hw1539_4)⟩ (fun hHeld => ?_); refine with_tabW spec_IsValidJoiner.tab6 spec_IsValidJoiner.bits6 (fun HT_ HW_ => ?_)
      generalize wr.drew = w17 at BK1538 HB HR1539_1 HR1539_2 HR1539_3 hx1539_0 hx1539_1 hx1539_2 hx1539_3 hx1539_4 hHeld ⊢
      refine pure_ (i := 0) (N := some 13) (v := ?_) (a' := ?_) #[true, false, false, false, false, false, false, false, false, false, false, false, false, false, false, false, false, false, false, false, false] rfl rfl (any_of HT_.out (by kernel_rfl)) (fun _ _ _ h => h) (Or.inl ⟨rfl, ?_⟩) ?_ ?_
      rotate_left
      ·intro w'
       go_simp
       with_reducible rfl
      rotate_left
      ·simp only [Act.put, List.setIfInBounds_toArray, List.set_cons_zero, List.set_cons_succ, i64_w, i32_w]
       rfl
      refine pure_ (i := 2) (N := some 15) (v := ?_) (a' := ?_) #[true, false, true, false, false, false, false, false, false, false, false, false, false, false, false, false, false, false, false, false, false] rfl rfl (any_of HT_.out (by kernel_rfl)) (fun _ _ _ h => h) (Or.inl ⟨rfl, ?_⟩) ?_ ?_
      rotate_left
      ·intro w'
       go_simp
       with_reducible rfl
      rotate_left
      ·simp only [Act.put, List.setIfInBounds_toArray, List.set_cons_zero, List.set_cons_succ, i64_w, i32_w]
       rfl
      refine take_ (i := 1) (N := some 14) (v := ?_) (a' := ?_) #[true, true, true, false, false, false, false, false, false, false, false, false, false, false, false, false, false, false, false, false, false] rfl rfl (take_ofW HT_.out HW_.out (by kernel_rfl)) (fun _ _ _ h => h) (Or.inl ⟨rfl, ?_⟩) hHeld ?_ ?_
      rotate_left
      ·rintro w' ⟨s0, s1, s2, s3, s4, s5, s6, s7⟩
       go_simp
       with_reducible rfl
      rotate_left
      ·simp only [Act.put, List.setIfInBounds_toArray, List.set_cons_zero, List.set_cons_succ, i64_w, i32_w]
       rfl
      refine pure_ (i := 3) (N := some 16) (v := ?_) (a' := ?_) #[true, true, true, true, false, false, false, false, false, false, false, false, false, false, false, false, false, false, false, false, false] rfl rfl (any_of HT_.out (by kernel_rfl)) (fun _ _ _ h => h) (Or.inl ⟨rfl, ?_⟩) ?_ ?_
      rotate_left
      ·intro w'
       go_simp
       with_reducible rfl
      rotate_left
      ·simp only [Act.put, List.setIfInBounds_toArray, List.set_cons_zero, List.set_cons_succ, i64_w, i32_w]
       rfl
      refine take_ (i := 4) (N := some 17) (v := ?_) (a' := ?_) #[true, true, true, true, true, false, false, false, false, false, false, false, false, false, false, false, false, false, false, false, false] rfl rfl (take_ofW HT_.out HW_.out (by kernel_rfl)) (fun _ _ _ h => h) (Or.inl ⟨rfl, ?_⟩) hHeld ?_ ?_
      rotate_left
      ·rintro w' ⟨s0, s1, s2, s3, s4, s5, s6, s7⟩
       go_simp
       with_reducible rfl
      rotate_left
      ·simp only [Act.put, List.setIfInBounds_toArray, List.set_cons_zero, List.set_cons_succ, i64_w, i32_w]
       rfl
      refine one_ (i := 5) (N := some 18) #[true, true, true, true, true, true, false, false, false, false, false, false, false, false, false, false, false, false, false, false, false] rfl rfl (one_of HT_.out (by kernel_rfl)) (by decide) (fun K hK => ?_)
      refine goes_ Try.func65 (by kernel_rfl) rfl #[.agg #[.int .i64 ((rd_T40 l0_0 x5_1).f0), .slice A1539_1 ((rd_T40 l0_0 x5_1).f1).length c1539_1, .slice A1539_2 ((rd_T40 l0_0 x5_1).f2).length c1539_2, .slice A1539_3 ((rd_T40 l0_0 x5_1).f3).length c1539_3, .int .i64 ((rd_T40 l0_0 x5_1).f4)]] rfl rfl rfl (by (try simp only [List.map_toArray, List.map_cons, List.map_nil]); rfl) ?_
      with_reducible refine (spec_IsValidTask.calls k1 ((rd_T40 l0_0 x5_1).f0) _ _ ((rd_T40 l0_0 x5_1).f1) _ _ ((rd_T40 l0_0 x5_1).f2) _ _ ((rd_T40 l0_0 x5_1).f3) ((rd_T40 l0_0 x5_1).f4) false _ ?side1 ?side2 ?side3 ?side4 ?side5 ?side6 A5.out).mono ?_
      (case side1 => repeat (exact (Kd.C_below HR1539_1.out HB.out)))
      (case side2 => exact HC1539_1.out)
      (case side3 => repeat (exact (Kd.C_below HR1539_2.out HB.out)))
      (case side4 => exact HC1539_2.out)
      (case side5 => repeat (exact (Kd.C_below HR1539_3.out HB.out)))
      (case side6 => exact HC1539_3.out)
      rintro e w18 ⟨rfl, hb⟩
      refine ⟨_, rfl, ?_⟩
      have n0_ := Aside0.mk (blk_below (g := gb1538) (o := .cells #[.slice (some ad1539) l0_0.length c0_0, .int .i64 a0_1, .int .i64 a0_2] 68 (0, 0)) BK1538.out hb)
      have n1_ := Aside0.mk (below_step HB.out hb)
      clear BK1538
      clear HB
      have BK1538 := n0_
      have HB := n1_
      clear n0_ n1_
      (try clear hb)
      (try clear hb2)
      (try clear hk)
      (try clear hi)
      refine hK.out _ _ ⟨(blk_cell BK1538.out 0).trans rfl, (blk_cell BK1538.out 1).trans rfl, (blk_cell BK1538.out 2).trans rfl, ((HB.out.cell (World.block_lt_of_cell? w _ hw1539_0)).trans hw1539_0), ((HB.out.cell (World.block_lt_of_cell? w _ hw1539_1)).trans hw1539_1), ((HB.out.cell (World.block_lt_of_cell? w _ hw1539_2)).trans hw1539_2), ((HB.out.cell (World.block_lt_of_cell? w _ hw1539_3)).trans hw1539_3), ((HB.out.cell (World.block_lt_of_cell? w _ hw1539_4)).trans hw1539_4)⟩ (fun hHeld => ?_)
      clear hK K
      refine norm_ (a' := ?_) ?_ ?_
      rotate_left
      ·show Act.put _ (some 18) _ = _
       simp only [Act.put, List.setIfInBounds_toArray, List.set_cons_zero, List.set_cons_succ, i64_w, i32_w]
       rfl
      refine pure_ (i := 6) (N := some 19) (v := ?_) (a' := ?_) #[true, true, true, true, true, true, true, false, false, false, false, false, false, false, false, false, false, false, false, false, false] rfl rfl (any_of HT_.out (by kernel_rfl)) (fun _ _ _ h => h) (Or.inl ⟨rfl, ?_⟩) ?_ ?_
      rotate_left
      ·intro w'
       go_simp
       with_reducible rfl
      rotate_left
      ·simp only [Act.put, List.setIfInBounds_toArray, List.set_cons_zero, List.set_cons_succ, i64_w, i32_w]
       rfl
      refine pure_ (i := 7) (N := some 20) (v := ?_) (a' := ?_) #[true, true, true, true, true, true, true, true, false, false, false, false, false, false, false, false, false, false, false, false, false] rfl rfl (any_of HT_.out (by kernel_rfl)) (fun _ _ _ h => h) (Or.inl ⟨rfl, ?_⟩) ?_ ?_
      rotate_left
      ·intro w'
       go_simp
       with_reducible rfl
      rotate_left
      ·simp only [Act.put, List.setIfInBounds_toArray, List.set_cons_zero, List.set_cons_succ, i64_w, i32_w]
       rfl
      refine pure_ (i := 8) (N := some 21) (v := undef) (a' := ?_) #[true, true, true, true, true, true, true, true, true, false, false, false, false, false, false, false, false, false, false, false, false] rfl rfl (any_of HT_.out (by kernel_rfl)) (fun _ _ _ h => h) (Or.inr ⟨rfl, rfl⟩) ?_ ?_
      rotate_left
      ·simp only [Act.put, List.setIfInBounds_toArray, List.set_cons_zero, List.set_cons_succ, i64_w, i32_w]
       rfl
      refine pure_ (i := 9) (N := some 22) (v := undef) (a' := ?_) #[true, true, true, true, true, true, true, true, true, true, false, false, false, false, false, false, false, false, false, false, false] rfl rfl (any_of HT_.out (by kernel_rfl)) (fun _ _ _ h => h) (Or.inr ⟨rfl, rfl⟩) ?_ ?_
      rotate_left
      ·simp only [Act.put, List.setIfInBounds_toArray, List.set_cons_zero, List.set_cons_succ, i64_w, i32_w]
       rfl
      refine pure_ (i := 10) (N := some 23) (v := undef) (a' := ?_) #[true, true, true, true, true, true, true, true, true, true, true, false, false, false, false, false, false, false, false, false, false] rfl rfl (any_of HT_.out (by kernel_rfl)) (fun _ _ _ h => h) (Or.inr ⟨rfl, rfl⟩) ?_ ?_
      rotate_left
      ·simp only [Act.put, List.setIfInBounds_toArray, List.set_cons_zero, List.set_cons_succ, i64_w, i32_w]
       rfl
      refine pure_ (i := 11) (N := some 24) (v := undef) (a' := ?_) #[true, true, true, true, true, true, true, true, true, true, true, true, false, false, false, false, false, false, false, false, false] rfl rfl (any_of HT_.out (by kernel_rfl)) (fun _ _ _ h => h) (Or.inr ⟨rfl, rfl⟩) ?_ ?_
      rotate_left
      ·simp only [Act.put, List.setIfInBounds_toArray, List.set_cons_zero, List.set_cons_succ, i64_w, i32_w]
       rfl
      refine pure_ (i := 12) (N := some 25) (v := undef) (a' := ?_) #[true, true, true, true, true, true, true, true, true, true, true, true, true, false, false, false, false, false, false, false, false] rfl rfl (any_of HT_.out (by kernel_rfl)) (fun _ _ _ h => h) (Or.inr ⟨rfl, rfl⟩) ?_ ?_
      rotate_left
      ·simp only [Act.put, List.setIfInBounds_toArray, List.set_cons_zero, List.set_cons_succ, i64_w, i32_w]
       rfl
      refine pure_ (i := 13) (N := some 26) (v := undef) (a' := ?_) #[true, true, true, true, true, true, true, true, true, true, true, true, true, true, false, false, false, false, false, false, false] rfl rfl (any_of HT_.out (by kernel_rfl)) (fun _ _ _ h => h) (Or.inr ⟨rfl, rfl⟩) ?_ ?_
      rotate_left
      ·simp only [Act.put, List.setIfInBounds_toArray, List.set_cons_zero, List.set_cons_succ, i64_w, i32_w]
       rfl
      refine pure_ (i := 14) (N := some 27) (v := undef) (a' := ?_) #[true, true, true, true, true, true, true, true, true, true, true, true, true, true, true, false, false, false, false, false, false] rfl rfl (any_of HT_.out (by kernel_rfl)) (fun _ _ _ h => h) (Or.inr ⟨rfl, rfl⟩) ?_ ?_
      rotate_left
      ·simp only [Act.put, List.setIfInBounds_toArray, List.set_cons_zero, List.set_cons_succ, i64_w, i32_w]
       rfl
      refine pure_ (i := 15) (N := some 28) (v := undef) (a' := ?_) #[true, true, true, true, true, true, true, true, true, true, true, true, true, true, true, true, false, false, false, false, false] rfl rfl (any_of HT_.out (by kernel_rfl)) (fun _ _ _ h => h) (Or.inr ⟨rfl, rfl⟩) ?_ ?_
      rotate_left
      ·simp only [Act.put, List.setIfInBounds_toArray, List.set_cons_zero, List.set_cons_succ, i64_w, i32_w]
       rfl
      refine pure_ (i := 16) (N := some 29) (v := undef) (a' := ?_) #[true, true, true, true, true, true, true, true, true, true, true, true, true, true, true, true, true, false, false, false, false] rfl rfl (any_of HT_.out (by kernel_rfl)) (fun _ _ _ h => h) (Or.inr ⟨rfl, rfl⟩) ?_ ?_
      rotate_left
      ·simp only [Act.put, List.setIfInBounds_toArray, List.set_cons_zero, List.set_cons_succ, i64_w, i32_w]
       rfl
      refine pure_ (i := 17) (N := some 30) (v := undef) (a' := ?_) #[true, true, true, true, true, true, true, true, true, true, true, true, true, true, true, true, true, true, false, false, false] rfl rfl (any_of HT_.out (by kernel_rfl)) (fun _ _ _ h => h) (Or.inr ⟨rfl, rfl⟩) ?_ ?_
      rotate_left
      ·simp only [Act.put, List.setIfInBounds_toArray, List.set_cons_zero, List.set_cons_succ, i64_w, i32_w]
       rfl
      refine pure_ (i := 18) (N := some 31) (v := undef) (a' := ?_) #[true, true, true, true, true, true, true, true, true, true, true, true, true, true, true, true, true, true, true, false, false] rfl rfl (any_of HT_.out (by kernel_rfl)) (fun _ _ _ h => h) (Or.inr ⟨rfl, rfl⟩) ?_ ?_
      rotate_left
      ·simp only [Act.put, List.setIfInBounds_toArray, List.set_cons_zero, List.set_cons_succ, i64_w, i32_w]
       rfl
      refine pure_ (i := 19) (N := some 32) (v := undef) (a' := ?_) #[true, true, true, true, true, true, true, true, true, true, true, true, true, true, true, true, true, true, true, true, false] rfl rfl (any_of HT_.out (by kernel_rfl)) (fun _ _ _ h => h) (Or.inr ⟨rfl, rfl⟩) ?_ ?_
      rotate_left
      ·simp only [Act.put, List.setIfInBounds_toArray, List.set_cons_zero, List.set_cons_succ, i64_w, i32_w]
       rfl
      refine pure_ (i := 20) (N := some 33) (v := ?_) (a' := ?_) #[true, true, true, true, true, true, true, true, true, true, true, true, true, true, true, true, true, true, true, true, true] rfl rfl (any_of HT_.out (by kernel_rfl)) (fun _ _ _ h => h) (Or.inl ⟨rfl, ?_⟩) ?_ ?_
      rotate_left
      ·intro w'
       go_simp
       with_reducible rfl
      rotate_left
      ·simp only [Act.put, List.setIfInBounds_toArray, List.set_cons_zero, List.set_cons_succ, i64_w, i32_w]
       rfl
      refine done_ (done_of HT_.out (by kernel_rfl)) ?_
      try go_wp2
      go_ret
      exact ⟨rfl, HB.out⟩
    ·rw [if_neg c4] at H
     exact absurd H (by simp)
   ·rw [if_neg c3] at H
    have c3b0 : decide (x5_1 < (l0_0.length : Int)) = false := decide_eq_false c3
    clear c3
    by_cases c19 : x3_1 ≤ 24
    ·rw [if_pos c19] at H
     have c19b0 : decide (x3_1 ≤ 24) = true := decide_eq_true c19
     clear c19
     by_cases c20 : x4_1 ≤ 24
     ·rw [if_pos c20] at H
      have c20b0 : decide (x4_1 ≤ 24) = true := decide_eq_true c20
      clear c20
      by_cases c21 : (l0_0.length : Int) ≤ 40
      ·rw [if_pos c21] at H
       have c21b0 : decide ((l0_0.length : Int) ≤ 40) = true := decide_eq_true c21
       have c21b1 : decide (l0_0.length ≤ 40) = true := decide_eq_true (by omega)
       clear c21
       replace H := Option.bind_eq_some_iff.mp H
       obtain ⟨t1545, A220, H⟩ := H
       have A22 := Aside0.mk A220
       clear A220
       by_cases c23 : t1545 = true
       ·subst c23
        rw [if_pos rfl] at H
        replace H := Option.bind_eq_some_iff.mp H
        obtain ⟨t1546, A240, H⟩ := H
        have A24 := Aside0.mk A240
        clear A240
        obtain rfl := Option.some.inj H
        have hcz25_0 : wr.cell? ⟨gb1538, 0, none⟩ = some (.slice A0_0 l0_0.length c0_0) := (blk_cell BK1538.out 0).trans rfl
        have hcz25_1 : wr.cell? ⟨gb1538, 1, none⟩ = some (.int .i64 a0_1) := (blk_cell BK1538.out 1).trans rfl
        have hcz25_2 : wr.cell? ⟨gb1538, 2, none⟩ = some (.int .i64 a0_2) := (blk_cell BK1538.out 2).trans rfl
        have hfz25_0 := blk_frozen BK1538.out 0
        have hfz25_1 := blk_frozen BK1538.out 1
        have hfz25_2 := blk_frozen BK1538.out 2
        go_wp2_with (first | (go_at_call 119; (with_reducible refine (spec_l1In.calls a0_1 0 100000 true _ A22.out).mono ?_); rintro e w' ⟨rfl, ⟨nd, rfl⟩⟩) | (go_at_call 119; (with_reducible refine (spec_l1In.calls a0_2 0 1000 t1546 _ A24.out).mono ?_); rintro e w' ⟨rfl, ⟨nd, rfl⟩⟩))
        go_ret
        exact ⟨rfl, by repeat ((with_reducible first | exact HB.out | apply pw_below_drewN))⟩
       ·replace c23 := Bool.eq_false_iff.mpr c23
        subst c23
        rw [if_neg (show ¬ (false = true) by decide)] at H
        obtain rfl := Option.some.inj H
        have hcz26_0 : wr.cell? ⟨gb1538, 0, none⟩ = some (.slice A0_0 l0_0.length c0_0) := (blk_cell BK1538.out 0).trans rfl
        have hcz26_1 : wr.cell? ⟨gb1538, 1, none⟩ = some (.int .i64 a0_1) := (blk_cell BK1538.out 1).trans rfl
        have hcz26_2 : wr.cell? ⟨gb1538, 2, none⟩ = some (.int .i64 a0_2) := (blk_cell BK1538.out 2).trans rfl
        have hfz26_0 := blk_frozen BK1538.out 0
        have hfz26_1 := blk_frozen BK1538.out 1
        have hfz26_2 := blk_frozen BK1538.out 2
        go_wp2_with ((go_at_call 119; (with_reducible refine (spec_l1In.calls a0_1 0 100000 false _ A22.out).mono ?_); rintro e w' ⟨rfl, ⟨nd, rfl⟩⟩))
        go_ret
        exact ⟨rfl, by repeat ((with_reducible first | exact HB.out | apply pw_below_drewN))⟩
      ·rw [if_neg c21] at H
       have c21b0 : decide ((l0_0.length : Int) ≤ 40) = false := decide_eq_false c21
       have c21b1 : decide (l0_0.length ≤ 40) = false := decide_eq_false (by omega)
       clear c21
       obtain rfl := Option.some.inj H
       have hcz27_0 : wr.cell? ⟨gb1538, 0, none⟩ = some (.slice A0_0 l0_0.length c0_0) := (blk_cell BK1538.out 0).trans rfl
       have hcz27_1 : wr.cell? ⟨gb1538, 1, none⟩ = some (.int .i64 a0_1) := (blk_cell BK1538.out 1).trans rfl
       have hcz27_2 : wr.cell? ⟨gb1538, 2, none⟩ = some (.int .i64 a0_2) := (blk_cell BK1538.out 2).trans rfl
       have hfz27_0 := blk_frozen BK1538.out 0
       have hfz27_1 := blk_frozen BK1538.out 1
       have hfz27_2 := blk_frozen BK1538.out 2
       go_wp2
       go_ret
       exact ⟨rfl, HB.out⟩
     ·rw [if_neg c20] at H
      have c20b0 : decide (x4_1 ≤ 24) = false := decide_eq_false c20
      clear c20
      obtain rfl := Option.some.inj H
      have hcz28_0 : wr.cell? ⟨gb1538, 0, none⟩ = some (.slice A0_0 l0_0.length c0_0) := (blk_cell BK1538.out 0).trans rfl
      have hcz28_1 : wr.cell? ⟨gb1538, 1, none⟩ = some (.int .i64 a0_1) := (blk_cell BK1538.out 1).trans rfl
      have hcz28_2 : wr.cell? ⟨gb1538, 2, none⟩ = some (.int .i64 a0_2) := (blk_cell BK1538.out 2).trans rfl
      have hfz28_0 := blk_frozen BK1538.out 0
      have hfz28_1 := blk_frozen BK1538.out 1
      have hfz28_2 := blk_frozen BK1538.out 2
      go_wp2
      go_ret
      exact ⟨rfl, HB.out⟩
    ·rw [if_neg c19] at H
     have c19b0 : decide (x3_1 ≤ 24) = false := decide_eq_false c19
     clear c19
     obtain rfl := Option.some.inj H
     have hcz29_0 : wr.cell? ⟨gb1538, 0, none⟩ = some (.slice A0_0 l0_0.length c0_0) := (blk_cell BK1538.out 0).trans rfl
     have hcz29_1 : wr.cell? ⟨gb1538, 1, none⟩ = some (.int .i64 a0_1) := (blk_cell BK1538.out 1).trans rfl
     have hcz29_2 : wr.cell? ⟨gb1538, 2, none⟩ = some (.int .i64 a0_2) := (blk_cell BK1538.out 2).trans rfl
     have hfz29_0 := blk_frozen BK1538.out 0
     have hfz29_1 := blk_frozen BK1538.out 1
     have hfz29_2 := blk_frozen BK1538.out 2
     go_wp2
     go_ret
     exact ⟨rfl, HB.out⟩

def spec_FormatJoiner.l0 : Nat → ByteArray → Int → List (S40) → Int → Int → Option (ByteArray)
 | 0, _, _, _, _, _ => none
 | k + 1, x3, x4, x1548000, x1548001, x1548002 => if x4 < (x1548000.length : Int) then (if x3.size + 1 ≤ 9223372036854775807 then (if 0 ≤ x4 then ((spec_FormatTask.f k ((rd_T40 x1548000 x4).f0) ((rd_T40 x1548000 x4).f1) ((rd_T40 x1548000 x4).f2) ((rd_T40 x1548000 x4).f3) ((rd_T40 x1548000 x4).f4)).bind fun t1552 => (if (x3 ++ (⟨#[47]⟩ : ByteArray)).size + t1552.size ≤ 9223372036854775807 then (spec_FormatJoiner.l0 k ((x3 ++ (⟨#[47]⟩ : ByteArray)) ++ t1552) (wrap64 (x4 + 1)) x1548000 x1548001 x1548002) else (none))) else (none)) else (none)) else (some x3)
def spec_FormatJoiner.f (k : Nat) (l0_0 : List (S40)) (a0_1 : Int) (a0_2 : Int) : Option (ByteArray) := (spec_IsValidJoiner.f k l0_0 a0_1 a0_2).bind fun t1548 => (if t1548 = true then ((spec_FormatInt.f k a0_1).bind fun t1549 => (if t1549.size + 1 ≤ 9223372036854775807 then ((spec_FormatInt.f k a0_2).bind fun t1550 => (if (t1549 ++ (⟨#[47]⟩ : ByteArray)).size + t1550.size ≤ 9223372036854775807 then (spec_FormatJoiner.l0 k ((t1549 ++ (⟨#[47]⟩ : ByteArray)) ++ t1550) 0 l0_0 a0_1 a0_2) else (none))) else (none))) else (some (⟨#[]⟩ : ByteArray)))
def spec_FormatJoiner.T3 : Bool × List (List Nat × List Nat) := (true, [([], []), ([0], [0]), ([1], [1]), ([2], [2]), ([], []), ([4], [4]), ([5, 2], [5]), ([3, 6], [3, 6]), ([7, 6, 0, 1, 2, 3, 4, 5, 6, 7], [7])])
def spec_FormatJoiner.B3 : List Nat := [0, 1, 3, 7, 0, 16, 55, 127, 255]
theorem spec_FormatJoiner.tab3 : rtab .any (opsOf Try.f150 3) = spec_FormatJoiner.T3 := by kernel_rfl
theorem spec_FormatJoiner.bits3 : waitsOk spec_FormatJoiner.T3.2 spec_FormatJoiner.B3 = true := by kernel_rfl
theorem spec_FormatJoiner.calls (k : Nat) (A0_0 : Option Addr) (c0_0 : Nat) (l0_0 : List (S40)) (a0_1 : Int) (a0_2 : Int) (r : ByteArray) (w : World) (hr0_0 : Kd.C k40 w A0_0 l0_0.length l0_0) (hc0_0 : l0_0.length ≤ c0_0) (h : spec_FormatJoiner.f k l0_0 a0_1 a0_2 = some r) :
  Calls Try.prog 150 #[.agg #[.slice A0_0 l0_0.length c0_0, .int .i64 a0_1, .int .i64 a0_2]] w fun e w' => e = .returned (.string r) ∧ Below w.heap.size w w' := by
 have hu68 := Try.underlying68
 have hu40 := Try.underlying40
 have HR0_0 := Aside0.mk hr0_0
 have HC0_0 := Aside0.mk hc0_0
 clear hr0_0 hc0_0
 have HB := Aside0.mk (Below.refl w.heap.size w)
 have H : ((spec_IsValidJoiner.f k l0_0 a0_1 a0_2).bind fun t1548 => (if t1548 = true then ((spec_FormatInt.f k a0_1).bind fun t1549 => (if t1549.size + 1 ≤ 9223372036854775807 then ((spec_FormatInt.f k a0_2).bind fun t1550 => (if (t1549 ++ (⟨#[47]⟩ : ByteArray)).size + t1550.size ≤ 9223372036854775807 then (spec_FormatJoiner.l0 k ((t1549 ++ (⟨#[47]⟩ : ByteArray)) ++ t1550) 0 l0_0 a0_1 a0_2) else (none))) else (none))) else (some (⟨#[]⟩ : ByteArray)))) = some r := h
 clear h
 replace H := Option.bind_eq_some_iff.mp H
 obtain ⟨t1548, A20, H⟩ := H
 have A2 := Aside0.mk A20
 clear A20
 by_cases c3 : t1548 = true
 ·subst c3
  rw [if_pos rfl] at H
  replace H := Option.bind_eq_some_iff.mp H
  obtain ⟨t1549, A40, H⟩ := H
  have A4 := Aside0.mk A40
  clear A40
  by_cases c5 : t1549.size + 1 ≤ 9223372036854775807
  ·rw [if_pos c5] at H
   have c5b0 := eq_true c5
   have c5b1 : decide (t1549.size + 1 ≤ 9223372036854775807) = true := decide_eq_true c5
   try have c5b2 : (9223372036854775807 < t1549.size + 1) = False := eq_false (Nat.not_lt.2 c5)
   replace H := Option.bind_eq_some_iff.mp H
   obtain ⟨t1550, A60, H⟩ := H
   have A6 := Aside0.mk A60
   clear A60
   by_cases c7 : (t1549 ++ (⟨#[47]⟩ : ByteArray)).size + t1550.size ≤ 9223372036854775807
   ·rw [if_pos c7] at H
    have c7b0 := eq_true c7
    have c7b1 : decide ((t1549 ++ (⟨#[47]⟩ : ByteArray)).size + t1550.size ≤ 9223372036854775807) = true := decide_eq_true c7
    try have c7b3 : (9223372036854775807 < t1549.size + 1 + t1550.size) = False := eq_false (by have h_ := c7; simp only [ByteArray.size_append] at h_; (exact Nat.not_lt.2 h_))
    try have c7b2 : (9223372036854775807 < (t1549 ++ (⟨#[47]⟩ : ByteArray)).size + t1550.size) = False := eq_false (Nat.not_lt.2 c7)
    have H' := Aside0.mk H
    clear H
    go_enter Try.func150, Try.ntmps150
    try go_wp2_with (first | ((with_reducible refine gate_dst (N := 1) rfl ?_); refine box_event ?hg (N := 1) ?hd (cs := #[.slice A0_0 l0_0.length c0_0, .int .i64 a0_1, .int .i64 a0_2]) (t := 68) ?hr ?_; (case hd => rfl); (case hg => rfl); (case hr => (go_simp; done)); intro gb1547 hg w8 hbox hb; have n0_ := Aside0.mk (below_step HB.out hb); have n1_ := Aside0.mk (hbox); have n2_ := Aside0.mk ((by rw [hg]; exact (below_size HB.out) : w.heap.size ≤ gb1547)); have n3_ := Aside0.mk ((by rw [hg]; exact (below_size HB.out) : w.heap.size ≤ gb1547)); clear HB; have HB := n0_; have BK1547 := n1_; have GW1547 := n2_; have GE1547 := n3_; clear n0_ n1_ n2_ n3_; clear hb hbox hg; have hcz9_0 : w8.cell? ⟨gb1547, 0, none⟩ = some (.slice A0_0 l0_0.length c0_0) := (blk_cell BK1547.out 0).trans rfl; have hcz9_1 : w8.cell? ⟨gb1547, 1, none⟩ = some (.int .i64 a0_1) := (blk_cell BK1547.out 1).trans rfl; have hcz9_2 : w8.cell? ⟨gb1547, 2, none⟩ = some (.int .i64 a0_2) := (blk_cell BK1547.out 2).trans rfl; have hfz9_0 := blk_frozen BK1547.out 0; have hfz9_1 := blk_frozen BK1547.out 1; have hfz9_2 := blk_frozen BK1547.out 2) | ((with_reducible refine gate_callee (f := 73) rfl ?_); refine goesL_ (some 6) rfl rfl Try.func73 (by kernel_rfl) rfl #[.agg #[.slice A0_0 l0_0.length c0_0, .int .i64 a0_1, .int .i64 a0_2]] rfl (by (try simp only [List.map_toArray, List.map_cons, List.map_nil]); rfl) ?_; (with_reducible refine (spec_IsValidJoiner.calls k _ _ l0_0 a0_1 a0_2 true _ ?side1 ?side2 A2.out).mono ?_); (case side1 => repeat (exact (Kd.C_below HR0_0.out HB.out))); (case side2 => exact HC0_0.out); rintro e w10 ⟨rfl, hb⟩; refine ⟨_, rfl, ?_⟩; have n0_ := Aside0.mk (blk_below (g := gb1547) (o := .cells #[.slice A0_0 l0_0.length c0_0, .int .i64 a0_1, .int .i64 a0_2] 68 (0, 0)) BK1547.out hb); have n1_ := Aside0.mk (below_step HB.out hb); clear BK1547; clear HB; have BK1547 := n0_; have HB := n1_; clear n0_ n1_; (try clear hb)))
    have n0_ := Aside0.mk (blk_drew BK1547.out)
    have n1_ := Aside0.mk (below_drew1 HB.out)
    clear BK1547
    clear HB
    have BK1547 := n0_
    have HB := n1_
    clear n0_ n1_
    refine start_ (n := 9) (S := fun w' => w'.cell? ⟨gb1547, 0, none⟩ = some (.slice A0_0 l0_0.length c0_0) ∧ w'.cell? ⟨gb1547, 1, none⟩ = some (.int .i64 a0_1) ∧ w'.cell? ⟨gb1547, 2, none⟩ = some (.int .i64 a0_2)) (ds := []) #[false, false, false, false, false, false, false, false, false] (by kernel_rfl) rfl rfl ⟨(blk_cell BK1547.out 0).trans rfl, (blk_cell BK1547.out 1).trans rfl, (blk_cell BK1547.out 2).trans rfl⟩ (fun hHeld => ?_); refine with_tabW spec_FormatJoiner.tab3 spec_FormatJoiner.bits3 (fun HT_ HW_ => ?_)
    generalize w10.drew = w11 at BK1547 HB hHeld ⊢
    refine pure_ (i := 0) (N := some 8) (v := ?_) (a' := ?_) #[true, false, false, false, false, false, false, false, false] rfl rfl (any_of HT_.out (by kernel_rfl)) (fun _ _ _ h => h) (Or.inl ⟨rfl, ?_⟩) ?_ ?_
    rotate_left
    ·intro w'
     go_simp
     with_reducible rfl
    rotate_left
    ·simp only [Act.put, List.setIfInBounds_toArray, List.set_cons_zero, List.set_cons_succ, i64_w, i32_w]
     rfl
    refine pure_ (i := 4) (N := some 12) (v := ?_) (a' := ?_) #[true, false, false, false, true, false, false, false, false] rfl rfl (any_of HT_.out (by kernel_rfl)) (fun _ _ _ h => h) (Or.inl ⟨rfl, ?_⟩) ?_ ?_
    rotate_left
    ·intro w'
     go_simp
     with_reducible rfl
    rotate_left
    ·simp only [Act.put, List.setIfInBounds_toArray, List.set_cons_zero, List.set_cons_succ, i64_w, i32_w]
     rfl
    refine take_ (i := 1) (N := some 9) (v := ?_) (a' := ?_) #[true, true, false, false, true, false, false, false, false] rfl rfl (take_ofW HT_.out HW_.out (by kernel_rfl)) (fun _ _ _ h => h) (Or.inl ⟨rfl, ?_⟩) hHeld ?_ ?_
    rotate_left
    ·rintro w' ⟨s0, s1, s2⟩
     go_simp
     with_reducible rfl
    rotate_left
    ·simp only [Act.put, List.setIfInBounds_toArray, List.set_cons_zero, List.set_cons_succ, i64_w, i32_w]
     rfl
    refine take_ (i := 5) (N := some 13) (v := ?_) (a' := ?_) #[true, true, false, false, true, true, false, false, false] rfl rfl (take_ofW HT_.out HW_.out (by kernel_rfl)) (fun _ _ _ h => h) (Or.inl ⟨rfl, ?_⟩) hHeld ?_ ?_
    rotate_left
    ·rintro w' ⟨s0, s1, s2⟩
     go_simp
     with_reducible rfl
    rotate_left
    ·simp only [Act.put, List.setIfInBounds_toArray, List.set_cons_zero, List.set_cons_succ, i64_w, i32_w]
     rfl
    refine one_ (i := 2) (N := some 10) #[true, true, true, false, true, true, false, false, false] rfl rfl (one_of HT_.out (by kernel_rfl)) (by decide) (fun K hK => ?_)
    refine goes_ Try.func184 (by kernel_rfl) rfl #[.int .i64 a0_1] rfl rfl rfl (by (try simp only [List.map_toArray, List.map_cons, List.map_nil]); rfl) ?_
    with_reducible refine (spec_FormatInt.calls k a0_1 t1549 _ A4.out).mono ?_
    rintro e w12 ⟨rfl, hb⟩
    refine ⟨_, rfl, ?_⟩
    have n0_ := Aside0.mk (blk_below (g := gb1547) (o := .cells #[.slice A0_0 l0_0.length c0_0, .int .i64 a0_1, .int .i64 a0_2] 68 (0, 0)) BK1547.out hb)
    have n1_ := Aside0.mk (below_step HB.out hb)
    clear BK1547
    clear HB
    have BK1547 := n0_
    have HB := n1_
    clear n0_ n1_
    (try clear hb)
    (try clear hb2)
    (try clear hk)
    (try clear hi)
    refine hK.out _ _ ⟨(blk_cell BK1547.out 0).trans rfl, (blk_cell BK1547.out 1).trans rfl, (blk_cell BK1547.out 2).trans rfl⟩ (fun hHeld => ?_)
    clear hK K
    refine norm_ (a' := ?_) ?_ ?_
    rotate_left
    ·show Act.put _ (some 10) _ = _
     simp only [Act.put, List.setIfInBounds_toArray, List.set_cons_zero, List.set_cons_succ, i64_w, i32_w]
     rfl
    refine pure_ (i := 3) (N := some 11) (v := ?_) (a' := ?_) #[true, true, true, true, true, true, false, false, false] rfl rfl (any_of HT_.out (by kernel_rfl)) (fun _ _ _ h => h) (Or.inl ⟨rfl, ?_⟩) ?_ ?_
    rotate_left
    ·intro w'
     go_simp
     with_reducible rfl
    rotate_left
    ·simp only [Act.put, List.setIfInBounds_toArray, List.set_cons_zero, List.set_cons_succ, i64_w, i32_w]
     rfl
    refine one_ (i := 6) (N := some 14) #[true, true, true, true, true, true, true, false, false] rfl rfl (one_of HT_.out (by kernel_rfl)) (by decide) (fun K hK => ?_)
    refine goes_ Try.func184 (by kernel_rfl) rfl #[.int .i64 a0_2] rfl rfl rfl (by (try simp only [List.map_toArray, List.map_cons, List.map_nil]); rfl) ?_
    with_reducible refine (spec_FormatInt.calls k a0_2 t1550 _ A6.out).mono ?_
    rintro e w13 ⟨rfl, hb⟩
    refine ⟨_, rfl, ?_⟩
    have n0_ := Aside0.mk (blk_below (g := gb1547) (o := .cells #[.slice A0_0 l0_0.length c0_0, .int .i64 a0_1, .int .i64 a0_2] 68 (0, 0)) BK1547.out hb)
    have n1_ := Aside0.mk (below_step HB.out hb)
    clear BK1547
    clear HB
    have BK1547 := n0_
    have HB := n1_
    clear n0_ n1_
    (try clear hb)
    (try clear hb2)
    (try clear hk)
    (try clear hi)
    refine hK.out _ _ ⟨(blk_cell BK1547.out 0).trans rfl, (blk_cell BK1547.out 1).trans rfl, (blk_cell BK1547.out 2).trans rfl⟩ (fun hHeld => ?_)
    clear hK K
    refine norm_ (a' := ?_) ?_ ?_
    rotate_left
    ·show Act.put _ (some 14) _ = _
     simp only [Act.put, List.setIfInBounds_toArray, List.set_cons_zero, List.set_cons_succ, i64_w, i32_w]
     rfl
    refine pure_ (i := 7) (N := some 15) (v := ?_) (a' := ?_) #[true, true, true, true, true, true, true, true, false] rfl rfl (any_of HT_.out (by kernel_rfl)) (fun _ _ _ h => h) (Or.inl ⟨rfl, ?_⟩) ?_ ?_
    rotate_left
    ·intro w'
     go_simp
     with_reducible rfl
    rotate_left
    ·simp only [Act.put, List.setIfInBounds_toArray, List.set_cons_zero, List.set_cons_succ, i64_w, i32_w]
     rfl
    refine pure_ (i := 8) (N := some 3) (v := ?_) (a' := ?_) #[true, true, true, true, true, true, true, true, true] rfl rfl (any_of HT_.out (by kernel_rfl)) (fun _ _ _ h => h) (Or.inl ⟨rfl, ?_⟩) ?_ ?_
    rotate_left
    ·intro w'
     go_simp
     with_reducible rfl
    rotate_left
    ·simp only [Act.put, List.setIfInBounds_toArray, List.set_cons_zero, List.set_cons_succ, i64_w, i32_w]
     rfl
    refine done_ (done_of HT_.out (by kernel_rfl)) ?_
    try go_wp2
    go_loopg [3, 4] k (fun kq v3 v4 w' => ∃ (x3_1 : ByteArray) (x4_1 : Int), v3 = .string x3_1 ∧ v4 = .int .i64 x4_1 ∧ Aside0 (spec_FormatJoiner.l0 kq x3_1 x4_1 l0_0 a0_1 a0_2 = some r) ∧ Aside0 (kq ≤ k) ∧ Aside0 (w'.heap[gb1547]? = some (.cells #[(.slice A0_0 l0_0.length c0_0), .int .i64 a0_1, .int .i64 a0_2] 68 (0, 0))) ∧ Aside0 (Below w.heap.size w w'))
    case atStart => exact ⟨((t1549 ++ (⟨#[47]⟩ : ByteArray)) ++ t1550), (0), rfl, rfl, H', ⟨Nat.le_refl _⟩, ⟨BK1547.out⟩, ⟨HB.out⟩⟩
    case round =>
     clear H'
     try clear c5
     try clear c5b0
     try clear c5b1
     try clear c5b2
     try clear c7
     try clear c7b0
     try clear c7b1
     try clear c7b2
     try clear hcz9_0
     try clear hcz9_1
     try clear hcz9_2
     try clear hfz9_0
     try clear hfz9_1
     try clear hfz9_2
     obtain ⟨x3_1, x4_1, rfl, rfl, HA, HK1, BK1547, HB⟩ := hrel
     cases gk with
     | zero => exact absurd HA.out (by simp [spec_FormatJoiner.l0])
     | succ k1 =>
      have H := HA.out
      clear HA
      simp only [spec_FormatJoiner.l0] at H
      by_cases c14 : x4_1 < (l0_0.length : Int)
      ·rw [if_pos c14] at H
       have c14b0 : decide (x4_1 < (l0_0.length : Int)) = true := decide_eq_true c14
       clear c14
       by_cases c15 : x3_1.size + 1 ≤ 9223372036854775807
       ·rw [if_pos c15] at H
        have c15b0 := eq_true c15
        have c15b1 : decide (x3_1.size + 1 ≤ 9223372036854775807) = true := decide_eq_true c15
        try have c15b2 : (9223372036854775807 < x3_1.size + 1) = False := eq_false (Nat.not_lt.2 c15)
        by_cases c16 : 0 ≤ x4_1
        ·rw [if_pos c16] at H
         have c16b0 : decide (0 ≤ x4_1) = true := decide_eq_true c16
         clear c16
         replace H := Option.bind_eq_some_iff.mp H
         obtain ⟨t1552, A170, H⟩ := H
         have A17 := Aside0.mk A170
         clear A170
         by_cases c18 : (x3_1 ++ (⟨#[47]⟩ : ByteArray)).size + t1552.size ≤ 9223372036854775807
         ·rw [if_pos c18] at H
          have c18b0 := eq_true c18
          have c18b1 : decide ((x3_1 ++ (⟨#[47]⟩ : ByteArray)).size + t1552.size ≤ 9223372036854775807) = true := decide_eq_true c18
          try have c18b3 : (9223372036854775807 < x3_1.size + 1 + t1552.size) = False := eq_false (by have h_ := c18; simp only [ByteArray.size_append] at h_; (exact Nat.not_lt.2 h_))
          try have c18b2 : (9223372036854775807 < (x3_1 ++ (⟨#[47]⟩ : ByteArray)).size + t1552.size) = False := eq_false (Nat.not_lt.2 c18)
          have H' := Aside0.mk H
          clear H
          have hcz19_0 : wr.cell? ⟨gb1547, 0, none⟩ = some (.slice A0_0 l0_0.length c0_0) := (blk_cell BK1547.out 0).trans rfl
          have hcz19_1 : wr.cell? ⟨gb1547, 1, none⟩ = some (.int .i64 a0_1) := (blk_cell BK1547.out 1).trans rfl
          have hcz19_2 : wr.cell? ⟨gb1547, 2, none⟩ = some (.int .i64 a0_2) := (blk_cell BK1547.out 2).trans rfl
          have hfz19_0 := blk_frozen BK1547.out 0
          have hfz19_1 := blk_frozen BK1547.out 1
          have hfz19_2 := blk_frozen BK1547.out 2
          have p1551 : 0 ≤ (x4_1 : Int) := of_decide_eq_true (by (with_reducible assumption))
          have q1551 : x4_1 < (l0_0.length : Int) := of_decide_eq_true (by (with_reducible assumption))
          obtain ⟨ad1551, A1551_1, c1551_1, A1551_2, c1551_2, A1551_3, c1551_3, e1551, hx1551_0, hx1551_1, hx1551_2, hx1551_3, hx1551_4, hl1551_1, hi1551_1, hl1551_2, hi1551_2, hl1551_3, hi1551_3⟩ := at_T40 HR0_0.out x4_1 p1551 q1551
          cases e1551
          replace hx1551_0 := (HB.out.cell (World.block_lt_of_cell? w _ hx1551_0)).trans hx1551_0
          replace hx1551_1 := (HB.out.cell (World.block_lt_of_cell? w _ hx1551_1)).trans hx1551_1
          replace hx1551_2 := (HB.out.cell (World.block_lt_of_cell? w _ hx1551_2)).trans hx1551_2
          replace hx1551_3 := (HB.out.cell (World.block_lt_of_cell? w _ hx1551_3)).trans hx1551_3
          replace hx1551_4 := (HB.out.cell (World.block_lt_of_cell? w _ hx1551_4)).trans hx1551_4
          have HR1551_1 := Aside0.mk hi1551_1
          have HC1551_1 := Aside0.mk hl1551_1
          clear hi1551_1 hl1551_1
          have HR1551_2 := Aside0.mk hi1551_2
          have HC1551_2 := Aside0.mk hl1551_2
          clear hi1551_2 hl1551_2
          have HR1551_3 := Aside0.mk hi1551_3
          have HC1551_3 := Aside0.mk hl1551_3
          clear hi1551_3 hl1551_3
          replace p1551 := eq_true p1551
          replace q1551 := eq_true q1551
          go_wp2_with (((with_reducible refine gate_callee (f := 138) rfl ?_); refine goesL_ (some 30) rfl rfl Try.func138 (by kernel_rfl) rfl #[.agg #[.int .i64 ((rd_T40 l0_0 x4_1).f0), .slice A1551_1 ((rd_T40 l0_0 x4_1).f1).length c1551_1, .slice A1551_2 ((rd_T40 l0_0 x4_1).f2).length c1551_2, .slice A1551_3 ((rd_T40 l0_0 x4_1).f3).length c1551_3, .int .i64 ((rd_T40 l0_0 x4_1).f4)]] rfl (by (try simp only [List.map_toArray, List.map_cons, List.map_nil]); rfl) ?_; (with_reducible refine (spec_FormatTask.calls k1 ((rd_T40 l0_0 x4_1).f0) _ _ ((rd_T40 l0_0 x4_1).f1) _ _ ((rd_T40 l0_0 x4_1).f2) _ _ ((rd_T40 l0_0 x4_1).f3) ((rd_T40 l0_0 x4_1).f4) t1552 _ ?side1 ?side2 ?side3 ?side4 ?side5 ?side6 A17.out).mono ?_); (case side1 => repeat (exact (Kd.C_below HR1551_1.out HB.out))); (case side2 => exact HC1551_1.out); (case side3 => repeat (exact (Kd.C_below HR1551_2.out HB.out))); (case side4 => exact HC1551_2.out); (case side5 => repeat (exact (Kd.C_below HR1551_3.out HB.out))); (case side6 => exact HC1551_3.out); rintro e w20 ⟨rfl, hb⟩; refine ⟨_, rfl, ?_⟩; have n0_ := Aside0.mk (blk_below (g := gb1547) (o := .cells #[.slice (some ad1551) l0_0.length c0_0, .int .i64 a0_1, .int .i64 a0_2] 68 (0, 0)) BK1547.out hb); have n1_ := Aside0.mk (below_step HB.out hb); clear BK1547; clear HB; have BK1547 := n0_; have HB := n1_; clear n0_ n1_; (try clear hb)))
          go_roundg k1
          case measure => have := HK1.out; omega
          case rel => exact ⟨((x3_1 ++ (⟨#[47]⟩ : ByteArray)) ++ t1552), (wrap64 (x4_1 + 1)), rfl, rfl, H', ⟨by have := HK1.out; omega⟩, ⟨BK1547.out⟩, ⟨HB.out⟩⟩
         ·rw [if_neg c18] at H
          exact absurd H (by simp)
        ·rw [if_neg c16] at H
         exact absurd H (by simp)
       ·rw [if_neg c15] at H
        exact absurd H (by simp)
      ·rw [if_neg c14] at H
       have c14b0 : decide (x4_1 < (l0_0.length : Int)) = false := decide_eq_false c14
       clear c14
       obtain rfl := Option.some.inj H
       have hcz21_0 : wr.cell? ⟨gb1547, 0, none⟩ = some (.slice A0_0 l0_0.length c0_0) := (blk_cell BK1547.out 0).trans rfl
       have hcz21_1 : wr.cell? ⟨gb1547, 1, none⟩ = some (.int .i64 a0_1) := (blk_cell BK1547.out 1).trans rfl
       have hcz21_2 : wr.cell? ⟨gb1547, 2, none⟩ = some (.int .i64 a0_2) := (blk_cell BK1547.out 2).trans rfl
       have hfz21_0 := blk_frozen BK1547.out 0
       have hfz21_1 := blk_frozen BK1547.out 1
       have hfz21_2 := blk_frozen BK1547.out 2
       go_wp2
       go_ret
       exact ⟨rfl, HB.out⟩
   ·rw [if_neg c7] at H
    exact absurd H (by simp)
  ·rw [if_neg c5] at H
   exact absurd H (by simp)
 ·replace c3 := Bool.eq_false_iff.mpr c3
  subst c3
  rw [if_neg (show ¬ (false = true) by decide)] at H
  obtain rfl := Option.some.inj H
  go_enter Try.func150, Try.ntmps150
  go_wp2_with (first | ((with_reducible refine gate_dst (N := 1) rfl ?_); refine box_event ?hg (N := 1) ?hd (cs := #[.slice A0_0 l0_0.length c0_0, .int .i64 a0_1, .int .i64 a0_2]) (t := 68) ?hr ?_; (case hd => rfl); (case hg => rfl); (case hr => (go_simp; done)); intro gb1547 hg w22 hbox hb; have n0_ := Aside0.mk (below_step HB.out hb); have n1_ := Aside0.mk (hbox); have n2_ := Aside0.mk ((by rw [hg]; exact (below_size HB.out) : w.heap.size ≤ gb1547)); have n3_ := Aside0.mk ((by rw [hg]; exact (below_size HB.out) : w.heap.size ≤ gb1547)); clear HB; have HB := n0_; have BK1547 := n1_; have GW1547 := n2_; have GE1547 := n3_; clear n0_ n1_ n2_ n3_; clear hb hbox hg; have hcz23_0 : w22.cell? ⟨gb1547, 0, none⟩ = some (.slice A0_0 l0_0.length c0_0) := (blk_cell BK1547.out 0).trans rfl; have hcz23_1 : w22.cell? ⟨gb1547, 1, none⟩ = some (.int .i64 a0_1) := (blk_cell BK1547.out 1).trans rfl; have hcz23_2 : w22.cell? ⟨gb1547, 2, none⟩ = some (.int .i64 a0_2) := (blk_cell BK1547.out 2).trans rfl; have hfz23_0 := blk_frozen BK1547.out 0; have hfz23_1 := blk_frozen BK1547.out 1; have hfz23_2 := blk_frozen BK1547.out 2) | ((with_reducible refine gate_callee (f := 73) rfl ?_); refine goesL_ (some 6) rfl rfl Try.func73 (by kernel_rfl) rfl #[.agg #[.slice A0_0 l0_0.length c0_0, .int .i64 a0_1, .int .i64 a0_2]] rfl (by (try simp only [List.map_toArray, List.map_cons, List.map_nil]); rfl) ?_; (with_reducible refine (spec_IsValidJoiner.calls k _ _ l0_0 a0_1 a0_2 false _ ?side1 ?side2 A2.out).mono ?_); (case side1 => repeat (exact (Kd.C_below HR0_0.out HB.out))); (case side2 => exact HC0_0.out); rintro e w24 ⟨rfl, hb⟩; refine ⟨_, rfl, ?_⟩; have n0_ := Aside0.mk (blk_below (g := gb1547) (o := .cells #[.slice A0_0 l0_0.length c0_0, .int .i64 a0_1, .int .i64 a0_2] 68 (0, 0)) BK1547.out hb); have n1_ := Aside0.mk (below_step HB.out hb); clear BK1547; clear HB; have BK1547 := n0_; have HB := n1_; clear n0_ n1_; (try clear hb)))
  go_ret
  exact ⟨rfl, HB.out⟩

def spec_ParseJoiner.l0 : Nat → ByteArray → List ByteArray → Int → List (S40) → Int → Int → Option ((List (S40)) × Int × Int × Bool)
 | 0, _, _, _, _, _, _ => none
 | k + 1, x0, x4, x6, x1558000, x1558001, x1558002 => if x6 < (x4.length : Int) then (if 0 ≤ x6 then ((spec_ParseTask.f k (rdOf ByteArray.empty x4 x6)).bind fun bt1565 => (if x1558000.length < 1599289640401 then (spec_ParseJoiner.l0 k x0 x4 (wrap64 (x6 + 1)) (x1558000 ++ [(⟨bt1565.1, bt1565.2.1, bt1565.2.2.1, bt1565.2.2.2.1, bt1565.2.2.2.2.1⟩ : S40)]) x1558001 x1558002) else (none))) else (none)) else ((spec_FormatJoiner.f k x1558000 x1558001 x1558002).bind fun t1581 => (if t1581.toList = x0.toList then (some (x1558000, x1558001, x1558002, true)) else (some (([] : List (S40)), 0, 0, false))))
def spec_ParseJoiner.f (k : Nat) (a0 : ByteArray) : Option ((List (S40)) × Int × Int × Bool) := (spec_l2Cut.f k a0 47).bind fun t1554 => (if (t1554.length : Int) < 2 then (some (([] : List (S40)), 0, 0, false)) else (if 0 < (t1554.length : Int) then ((spec_ParseInt.f k (rdOf ByteArray.empty t1554 0)).bind fun bt1559 => (if 1 < (t1554.length : Int) then ((spec_ParseInt.f k (rdOf ByteArray.empty t1554 1)).bind fun bt1562 => (spec_ParseJoiner.l0 k a0 t1554 2 ([] : List (S40)) bt1559.1 bt1562.1)) else (none))) else (none)))
theorem spec_ParseJoiner.calls (k : Nat) (a0 : ByteArray) (r1 : List (S40)) (r2 : Int) (r3 : Int) (r4 : Bool) (w : World) (h : spec_ParseJoiner.f k a0 = some (r1, r2, r3, r4)) :
  Calls Try.prog 51 #[.string a0] w fun e w' => ∃ v0_ : Value, e = .returned (.tuple #[.agg #[v0_, .int .i64 r2, .int .i64 r3], .bool r4]) ∧ Kd.S k40 40 w' w.heap.size (fun _ => True) v0_ r1 ∧ Below w.heap.size w w' := by
 have hu68 := Try.underlying68
 have hu40 := Try.underlying40
 have HB := Aside0.mk (Below.refl w.heap.size w)
 have H : ((spec_l2Cut.f k a0 47).bind fun t1554 => (if (t1554.length : Int) < 2 then (some (([] : List (S40)), 0, 0, false)) else (if 0 < (t1554.length : Int) then ((spec_ParseInt.f k (rdOf ByteArray.empty t1554 0)).bind fun bt1559 => (if 1 < (t1554.length : Int) then ((spec_ParseInt.f k (rdOf ByteArray.empty t1554 1)).bind fun bt1562 => (spec_ParseJoiner.l0 k a0 t1554 2 ([] : List (S40)) bt1559.1 bt1562.1)) else (none))) else (none)))) = some (r1, r2, r3, r4) := h
 clear h
 replace H := Option.bind_eq_some_iff.mp H
 obtain ⟨t1554, A20, H⟩ := H
 have A2 := Aside0.mk A20
 clear A20
 by_cases c3 : (t1554.length : Int) < 2
 ·rw [if_pos c3] at H
  have c3b0 : decide ((t1554.length : Int) < 2) = true := decide_eq_true c3
  have c3b1 : decide (t1554.length < 2) = true := decide_eq_true (by omega)
  clear c3
  simp only [Option.some.injEq, Prod.mk.injEq] at H
  obtain ⟨rfl, rfl, rfl, rfl⟩ := H
  go_enter Try.func51, Try.ntmps51
  go_wp2_with (first | ((with_reducible refine gate_dst (N := 2) rfl ?_); refine box_event ?hg (N := 2) ?hd (cs := #[.slice none 0 0, .int .i64 0, .int .i64 0]) (t := 68) ?hr ?_; (case hd => rfl); (case hg => rfl); (case hr => (go_simp; done)); intro gb1553 hg w4 hbox hb; have n0_ := Aside0.mk (below_step HB.out hb); have n1_ := Aside0.mk (hbox); have n2_ := Aside0.mk ((by rw [hg]; exact (below_size HB.out) : w.heap.size ≤ gb1553)); have n3_ := Aside0.mk ((by rw [hg]; exact (below_size HB.out) : w.heap.size ≤ gb1553)); clear HB; have HB := n0_; have BK1553 := n1_; have GW1553 := n2_; have GE1553 := n3_; clear n0_ n1_ n2_ n3_; clear hb hbox hg) | ((with_reducible refine gate_callee (f := 135) rfl ?_); refine goesL_ (some 10) rfl rfl Try.func135 (by kernel_rfl) rfl #[.string a0, .int .u8 47] rfl (by (try simp only [List.map_toArray, List.map_cons, List.map_nil]); rfl) ?_; (with_reducible refine (spec_l2Cut.calls k a0 47 t1554 _ A2.out).mono ?_); rintro e w5 ⟨v1555, rfl, ho0, hb⟩; refine ⟨_, rfl, ?_⟩; have n0_ := Aside0.mk (Kd.R_lower ho0 (below_size HB.out)); have n1_ := Aside0.mk (blk_below (g := gb1553) (o := .cells #[.slice none 0 0, .int .i64 0, .int .i64 0] 68 (0, 0)) BK1553.out hb); have n2_ := Aside0.mk (below_step HB.out hb); clear BK1553; clear HB; have HO1556 := n0_; have BK1553 := n1_; have HB := n2_; clear n0_ n1_ n2_; (try clear hb); (try clear ho0); obtain ⟨Ao6, co6, eo6⟩ := Kd.R_slice HO1556.out; subst eo6; have hcz7_0 : w5.cell? ⟨gb1553, 0, none⟩ = some (.slice none 0 0) := (blk_cell BK1553.out 0).trans rfl; have hcz7_1 : w5.cell? ⟨gb1553, 1, none⟩ = some (.int .i64 0) := (blk_cell BK1553.out 1).trans rfl; have hcz7_2 : w5.cell? ⟨gb1553, 2, none⟩ = some (.int .i64 0) := (blk_cell BK1553.out 2).trans rfl; have hfz7_0 := blk_frozen BK1553.out 0; have hfz7_1 := blk_frozen BK1553.out 1; have hfz7_2 := blk_frozen BK1553.out 2))
  refine bodyPost_ret (results_ct rfl _ _ gb1553 68 #[.slice none 0 0, .int .i64 0, .int .i64 0] (0, 0) _ rfl (by refine blk_put (cs := #[.slice none 0 0, .int .i64 0, .int .i64 0]) ?_ 2 _ rfl; refine blk_put (cs := #[.slice none 0 0, .int .i64 0, .int .i64 0]) ?_ 1 _ rfl; refine blk_put (cs := #[.slice none 0 0, .int .i64 0, .int .i64 0]) ?_ 0 _ rfl; exact BK1553.out) Try.underlying68 rfl (by kernel_rfl)) rfl ?_
  exact ⟨_, rfl, by exact Kd.S_nil _ _ _ _ _, by repeat ((with_reducible first | exact HB.out | refine below_set ?_ GE1553.out))⟩
 ·rw [if_neg c3] at H
  have c3b0 : decide ((t1554.length : Int) < 2) = false := decide_eq_false c3
  have c3b1 : decide (t1554.length < 2) = false := decide_eq_false (by omega)
  clear c3
  by_cases c8 : 0 < (t1554.length : Int)
  ·rw [if_pos c8] at H
   have c8b0 : decide (0 < (t1554.length : Int)) = true := decide_eq_true c8
   have c8b1 : decide (0 < t1554.length) = true := decide_eq_true (by omega)
   clear c8
   replace H := Option.bind_eq_some_iff.mp H
   obtain ⟨⟨t1559, t1560⟩, A90, H⟩ := H
   have A9 := Aside0.mk A90
   clear A90
   by_cases c10 : 1 < (t1554.length : Int)
   ·rw [if_pos c10] at H
    have c10b0 : decide (1 < (t1554.length : Int)) = true := decide_eq_true c10
    have c10b1 : decide (1 < t1554.length) = true := decide_eq_true (by omega)
    clear c10
    replace H := Option.bind_eq_some_iff.mp H
    obtain ⟨⟨t1562, t1563⟩, A110, H⟩ := H
    have A11 := Aside0.mk A110
    clear A110
    have H' := Aside0.mk H
    clear H
    go_enter Try.func51, Try.ntmps51
    go_wp2_with (first | ((with_reducible refine gate_dst (N := 2) rfl ?_); refine box_event ?hg (N := 2) ?hd (cs := #[.slice none 0 0, .int .i64 0, .int .i64 0]) (t := 68) ?hr ?_; (case hd => rfl); (case hg => rfl); (case hr => (go_simp; done)); intro gb1553 hg w12 hbox hb; have n0_ := Aside0.mk (below_step HB.out hb); have n1_ := Aside0.mk (hbox); have n2_ := Aside0.mk ((by rw [hg]; exact (below_size HB.out) : w.heap.size ≤ gb1553)); have n3_ := Aside0.mk ((by rw [hg]; exact (below_size HB.out) : w.heap.size ≤ gb1553)); clear HB; have HB := n0_; have BK1553 := n1_; have GW1553 := n2_; have GE1553 := n3_; clear n0_ n1_ n2_ n3_; clear hb hbox hg) | ((with_reducible refine gate_callee (f := 135) rfl ?_); refine goesL_ (some 10) rfl rfl Try.func135 (by kernel_rfl) rfl #[.string a0, .int .u8 47] rfl (by (try simp only [List.map_toArray, List.map_cons, List.map_nil]); rfl) ?_; (with_reducible refine (spec_l2Cut.calls k a0 47 t1554 _ A2.out).mono ?_); rintro e w13 ⟨v1555, rfl, ho0, hb⟩; refine ⟨_, rfl, ?_⟩; have n0_ := Aside0.mk (Kd.R_lower ho0 (below_size HB.out)); have n1_ := Aside0.mk (blk_below (g := gb1553) (o := .cells #[.slice none 0 0, .int .i64 0, .int .i64 0] 68 (0, 0)) BK1553.out hb); have n2_ := Aside0.mk (below_step HB.out hb); clear BK1553; clear HB; have HO1556 := n0_; have BK1553 := n1_; have HB := n2_; clear n0_ n1_ n2_; (try clear hb); (try clear ho0); obtain ⟨Ao14, co14, eo14⟩ := Kd.R_slice HO1556.out; subst eo14) | ((with_reducible refine gate_dst (N := 5) rfl ?_); refine box_event ?hg (N := 5) ?hd (cs := #[.slice none 0 0, .int .i64 0, .int .i64 0]) (t := 68) ?hr ?_; (case hd => rfl); (case hg => rfl); (case hr => (go_simp; done)); intro gb1557 hg w15 hbox hb; have n0_ := Aside0.mk (Kd.R_below HO1556.out hb); have n1_ := Aside0.mk (blk_below (g := gb1553) (o := .cells #[.slice none 0 0, .int .i64 0, .int .i64 0] 68 (0, 0)) BK1553.out hb); have n2_ := Aside0.mk (below_step HB.out hb); have n3_ := Aside0.mk (hbox); have n4_ := Aside0.mk ((by rw [hg]; exact (below_size HB.out) : w.heap.size ≤ gb1557)); have n5_ := Aside0.mk ((by rw [hg]; exact (below_size HB.out) : w.heap.size ≤ gb1557)); have n6_ := Aside0.mk ((by rw [hg]; exact Nat.ne_of_lt (blk_lt (g := gb1553) (o := .cells #[.slice none 0 0, .int .i64 0, .int .i64 0] 68 (0, 0)) BK1553.out) : gb1553 ≠ gb1557)); have n7_ := Aside0.mk ((by rw [hg]; exact Nat.ne_of_gt (blk_lt (g := gb1553) (o := .cells #[.slice none 0 0, .int .i64 0, .int .i64 0] 68 (0, 0)) BK1553.out) : gb1557 ≠ gb1553)); clear HO1556; clear BK1553; clear HB; have HO1556 := n0_; have BK1553 := n1_; have HB := n2_; have BK1557 := n3_; have GW1557 := n4_; have GE1557 := n5_; have NB1553_1557 := n6_; have NB1557_1553 := n7_; clear n0_ n1_ n2_ n3_ n4_ n5_ n6_ n7_; clear hb hbox hg; have hnb16 := NB1557_1553.out; have hnc16 := NB1553_1557.out; have hcz17_0 : w15.cell? ⟨gb1557, 0, none⟩ = some (.slice none 0 0) := (blk_cell BK1557.out 0).trans rfl; have hcz17_1 : w15.cell? ⟨gb1557, 1, none⟩ = some (.int .i64 0) := (blk_cell BK1557.out 1).trans rfl; have hcz17_2 : w15.cell? ⟨gb1557, 2, none⟩ = some (.int .i64 0) := (blk_cell BK1557.out 2).trans rfl; have hfz17_0 := blk_frozen BK1557.out 0; have hfz17_1 := blk_frozen BK1557.out 1; have hfz17_2 := blk_frozen BK1557.out 2; have p1558 : 0 ≤ (0 : Int) := (by omega); have q1558 : 0 < (t1554.length : Int) := of_decide_eq_true (by (with_reducible assumption)); obtain ⟨ad1558, e1558, hx1558_0⟩ := Kd.at_string (Kd.R_reads' HO1556.out).2.2 0 p1558 q1558; cases e1558; have qi1558 : (0 < t1554.length) = True := eq_true (by omega); (try rw [show ((0 : Int)).toNat = 0 from rfl] at hx1558_0); (try rw [Addr.add_zero'] at hx1558_0); have hn1558_0 : ad1558.block ≠ gb1557 := Kd.own_blk (Kd.R_ne HO1556.out BK1557.out (by decide)); have hn1558_1 : ad1558.block ≠ gb1557 := Kd.own_blk (Kd.R_ne HO1556.out BK1557.out (by decide)); have hn1558_2 : ad1558.block ≠ gb1557 := Kd.own_blk (Kd.R_ne HO1556.out BK1557.out (by decide)); replace hx1558_0 := (cell_far (p := ⟨gb1557, 0, none⟩) (by exact hn1558_0) (.slice none 0 0)).trans hx1558_0; replace hx1558_0 := (cell_far (p := ⟨gb1557, 1, none⟩) (by exact hn1558_1) (.int .i64 0)).trans hx1558_0; replace hx1558_0 := (cell_far (p := ⟨gb1557, 2, none⟩) (by exact hn1558_2) (.int .i64 0)).trans hx1558_0; clear hn1558_0; clear hn1558_1; clear hn1558_2; replace p1558 := eq_true p1558; replace q1558 := eq_true q1558) | ((with_reducible refine gate_callee (f := 136) rfl ?_); refine goesL_ (some 20) rfl rfl Try.func136 (by kernel_rfl) rfl #[.string (rdOf ByteArray.empty t1554 0)] rfl (by (try simp only [List.map_toArray, List.map_cons, List.map_nil]); rfl) ?_; (with_reducible refine (spec_ParseInt.calls k (rdOf ByteArray.empty t1554 0) t1559 t1560 _ A9.out).mono ?_); rintro e w18 ⟨rfl, hb⟩; refine ⟨_, rfl, ?_⟩; have n0_ := Aside0.mk (Kd.R_below (by exact (Kd.R_mono (Kd.R_far (p := ⟨gb1557, 2, none⟩) (Kd.R_far (p := ⟨gb1557, 1, none⟩) (Kd.R_far (p := ⟨gb1557, 0, none⟩) (Kd.R_types HO1556.out BK1557.out (by decide)) (fun _ hk => hk.2) (.slice none 0 0)) (fun _ hk => hk.2) (.int .i64 0)) (fun _ hk => hk.2) (.int .i64 0)) (fun _ h_ => h_.1))) hb); have n1_ := Aside0.mk (blk_below (g := gb1553) (o := .cells #[.slice none 0 0, .int .i64 0, .int .i64 0] 68 (0, 0)) (by refine blk_far ?_ NB1553_1557.out _; refine blk_far ?_ NB1553_1557.out _; refine blk_far ?_ NB1553_1557.out _; exact BK1553.out) hb); have n2_ := Aside0.mk (blk_below (g := gb1557) (o := .cells #[.slice none 0 0, .int .i64 0, .int .i64 0] 68 (0, 0)) (by refine blk_put (cs := #[.slice none 0 0, .int .i64 0, .int .i64 0]) ?_ 2 _ rfl; refine blk_put (cs := #[.slice none 0 0, .int .i64 0, .int .i64 0]) ?_ 1 _ rfl; refine blk_put (cs := #[.slice none 0 0, .int .i64 0, .int .i64 0]) ?_ 0 _ rfl; exact BK1557.out) hb); have n3_ := Aside0.mk (below_step (by repeat (with_reducible first | exact HB.out | refine below_set ?_ GE1557.out)) hb); clear HO1556; clear BK1553; clear BK1557; clear HB; have HO1556 := n0_; have BK1553 := n1_; have BK1557 := n2_; have HB := n3_; clear n0_ n1_ n2_ n3_; (try clear hb); have hcz19_0 : w18.cell? ⟨gb1557, 0, none⟩ = some (.slice none 0 0) := (blk_cell BK1557.out 0).trans rfl; have hcz19_1 : w18.cell? ⟨gb1557, 1, none⟩ = some (.int .i64 0) := (blk_cell BK1557.out 1).trans rfl; have hcz19_2 : w18.cell? ⟨gb1557, 2, none⟩ = some (.int .i64 0) := (blk_cell BK1557.out 2).trans rfl; have hfz19_0 := blk_frozen BK1557.out 0; have hfz19_1 := blk_frozen BK1557.out 1; have hfz19_2 := blk_frozen BK1557.out 2; have p1561 : 0 ≤ (1 : Int) := (by omega); have q1561 : 1 < (t1554.length : Int) := of_decide_eq_true (by (with_reducible assumption)); obtain ⟨ad1561, e1561, hx1561_0⟩ := Kd.at_string (Kd.R_reads' HO1556.out).2.2 1 p1561 q1561; obtain rfl : ad1558 = ad1561 := (by injection e1561); (try simp only [show (1 : Int).toNat = 1 from rfl, Nat.reduceMul, Nat.reduceEqDiff, Go.Addr.add, ↓reduceIte] at hx1561_0); have qi1561 : (1 < t1554.length) = True := eq_true (by omega); (try rw [show ((1 : Int)).toNat = 1 from rfl] at hx1561_0); have hn1561_0 : ad1558.block ≠ gb1557 := Kd.own_blk (Kd.R_ne HO1556.out BK1557.out (by decide)); replace hx1561_0 := (cell_far (p := ⟨gb1557, 1, none⟩) (by exact hn1561_0) (.int .i64 t1559)).trans hx1561_0; clear hn1561_0; replace p1561 := eq_true p1561; replace q1561 := eq_true q1561) | ((with_reducible refine gate_callee (f := 136) rfl ?_); refine goesL_ (some 28) rfl rfl Try.func136 (by kernel_rfl) rfl #[.string (rdOf ByteArray.empty t1554 1)] rfl (by (try simp only [List.map_toArray, List.map_cons, List.map_nil]); rfl) ?_; (with_reducible refine (spec_ParseInt.calls k (rdOf ByteArray.empty t1554 1) t1562 t1563 _ A11.out).mono ?_); rintro e w20 ⟨rfl, hb⟩; refine ⟨_, rfl, ?_⟩; have n0_ := Aside0.mk (Kd.R_below (by exact (Kd.R_mono (Kd.R_far (p := ⟨gb1557, 1, none⟩) (Kd.R_types HO1556.out BK1557.out (by decide)) (fun _ hk => hk.2) (.int .i64 t1559)) (fun _ h_ => h_.1))) hb); have n1_ := Aside0.mk (blk_below (g := gb1553) (o := .cells #[.slice none 0 0, .int .i64 0, .int .i64 0] 68 (0, 0)) (by refine blk_far ?_ NB1553_1557.out _; exact BK1553.out) hb); have n2_ := Aside0.mk (blk_below (g := gb1557) (o := .cells #[.slice none 0 0, .int .i64 t1559, .int .i64 0] 68 (0, 0)) (by refine blk_put (cs := #[.slice none 0 0, .int .i64 0, .int .i64 0]) ?_ 1 _ rfl; exact BK1557.out) hb); have n3_ := Aside0.mk (below_step (by repeat (with_reducible first | exact HB.out | refine below_set ?_ GE1557.out)) hb); clear HO1556; clear BK1553; clear BK1557; clear HB; have HO1556 := n0_; have BK1553 := n1_; have BK1557 := n2_; have HB := n3_; clear n0_ n1_ n2_ n3_; (try clear hb); have hcz21_0 : w20.cell? ⟨gb1557, 0, none⟩ = some (.slice none 0 0) := (blk_cell BK1557.out 0).trans rfl; have hcz21_1 : w20.cell? ⟨gb1557, 1, none⟩ = some (.int .i64 t1559) := (blk_cell BK1557.out 1).trans rfl; have hcz21_2 : w20.cell? ⟨gb1557, 2, none⟩ = some (.int .i64 0) := (blk_cell BK1557.out 2).trans rfl; have hfz21_0 := blk_frozen BK1557.out 0; have hfz21_1 := blk_frozen BK1557.out 1; have hfz21_2 := blk_frozen BK1557.out 2))
    go_loopg [6] k (fun kq v6 w' => ∃ (x6_1 : Int) (x1558000_1 : List (S40)) (u1558000 : Value), v6 = .int .i64 x6_1 ∧ Aside0 (spec_ParseJoiner.l0 kq a0 t1554 x6_1 x1558000_1 t1559 t1562 = some (r1, r2, r3, r4)) ∧ Aside0 (kq ≤ k) ∧ Aside0 (Kd.R Kd.string 9 w' w.heap.size (fun _ => True) (.slice (some ad1558) t1554.length co14) t1554) ∧ Aside0 (Kd.S k40 40 w' w.heap.size (fun _ => True) u1558000 x1558000_1) ∧ Aside0 (w'.heap[gb1553]? = some (.cells #[(.slice none 0 0), .int .i64 0, .int .i64 0] 68 (0, 0))) ∧ Aside0 (w'.heap[gb1557]? = some (.cells #[u1558000, .int .i64 t1559, .int .i64 t1562] 68 (0, 0))) ∧ Aside0 (Below w.heap.size w w'))
    case atStart => exact ⟨(2), (([] : List (S40))), (.slice none 0 0), rfl, H', ⟨Nat.le_refl _⟩, ⟨by exact Kd.R_mono (Kd.R_far (p := ⟨gb1557, 2, none⟩) (Kd.R_types HO1556.out BK1557.out (by decide)) (fun _ hk => hk.2) (.int .i64 t1562)) (fun _ hk => trivial)⟩, ⟨by exact Kd.S_nil _ _ _ _ _⟩, ⟨by refine blk_far ?_ NB1553_1557.out _; exact BK1553.out⟩, ⟨by refine blk_put (cs := #[.slice none 0 0, .int .i64 t1559, .int .i64 0]) ?_ 2 _ rfl; exact BK1557.out⟩, ⟨by repeat ((with_reducible first | exact HB.out | refine below_set ?_ GE1557.out))⟩⟩
    case round =>
     clear H'
     try clear c3b0
     try clear c3b1
     try clear c8b0
     try clear c8b1
     try clear c10b0
     try clear c10b1
     try clear hcz17_0
     try clear hcz17_1
     try clear hcz17_2
     try clear hcz19_0
     try clear hcz19_1
     try clear hcz19_2
     try clear hcz21_0
     try clear hcz21_1
     try clear hcz21_2
     try clear hfz17_0
     try clear hfz17_1
     try clear hfz17_2
     try clear hfz19_0
     try clear hfz19_1
     try clear hfz19_2
     try clear hfz21_0
     try clear hfz21_1
     try clear hfz21_2
     try clear hx1558_0
     try clear hx1561_0
     try clear p1558
     try clear p1561
     try clear q1558
     try clear q1561
     obtain ⟨x6_1, x1558000_1, u1558000, rfl, HA, HK1, HO_4, HO_1558000, BK1553, BK1557, HB⟩ := hrel
     cases gk with
     | zero => exact absurd HA.out (by simp [spec_ParseJoiner.l0])
     | succ k1 =>
      have H := HA.out
      clear HA
      simp only [spec_ParseJoiner.l0] at H
      by_cases c22 : x6_1 < (t1554.length : Int)
      ·rw [if_pos c22] at H
       have c22b0 : decide (x6_1 < (t1554.length : Int)) = true := decide_eq_true c22
       clear c22
       by_cases c23 : 0 ≤ x6_1
       ·rw [if_pos c23] at H
        have c23b0 : decide (0 ≤ x6_1) = true := decide_eq_true c23
        clear c23
        replace H := Option.bind_eq_some_iff.mp H
        obtain ⟨⟨t1565, t1566, t1569, t1572, t1575, t1576⟩, A240, H⟩ := H
        have A24 := Aside0.mk A240
        clear A240
        by_cases c25 : x1558000_1.length < 1599289640401
        ·rw [if_pos c25] at H
         have LMc25 := Aside0.mk c25
         clear c25
         obtain ⟨y1578, hy1578⟩ : ∃ y_ : List (S40), y_ = (x1558000_1 ++ [(⟨t1565, t1566, t1569, t1572, t1575⟩ : S40)]) := ⟨_, rfl⟩
         replace H : (spec_ParseJoiner.l0 k1 a0 t1554 (wrap64 (x6_1 + 1)) y1578 t1559 t1562) = some (r1, r2, r3, r4) := by (rw [hy1578]; with_reducible exact H)
         have Ny1578 := Aside0.mk hy1578
         clear hy1578
         have H' := Aside0.mk H
         clear H
         have p1564 : 0 ≤ (x6_1 : Int) := of_decide_eq_true (by (with_reducible assumption))
         have q1564 : x6_1 < (t1554.length : Int) := of_decide_eq_true (by (with_reducible assumption))
         obtain ⟨ad1564, e1564, hx1564_0⟩ := Kd.at_string (Kd.R_reads' HO_4.out).2.2 x6_1 p1564 q1564
         obtain rfl : ad1558 = ad1564 := (by injection e1564)
         replace p1564 := eq_true p1564
         replace q1564 := eq_true q1564
         go_wp2_with (first | ((with_reducible refine gate_callee (f := 40) rfl ?_); refine goesL_ (some 43) rfl rfl Try.func40 (by kernel_rfl) rfl #[.string (rdOf ByteArray.empty t1554 x6_1)] rfl (by (try simp only [List.map_toArray, List.map_cons, List.map_nil]); rfl) ?_; (with_reducible refine (spec_ParseTask.calls k1 (rdOf ByteArray.empty t1554 x6_1) t1565 t1566 t1569 t1572 t1575 t1576 _ A24.out).mono ?_); rintro e w26 ⟨v1567, v1570, v1573, rfl, ho0, ho1, ho2, hb⟩; refine ⟨_, rfl, ?_⟩; have n0_ := Aside0.mk (Kd.R_below HO_4.out hb); have n1_ := Aside0.mk (Kd.S_mono (Kd.S_told (Kd.S_told (Kd.S_told (Kd.S_old HO_1558000.out hb) (Kd.R_base ho0)) (Kd.R_base ho1)) (Kd.R_base ho2)) (fun _ h_ => h_.1)); have n2_ := Aside0.mk (Kd.R_lower ho0 (below_size HB.out)); have n3_ := Aside0.mk (Kd.R_lower ho1 (below_size HB.out)); have n4_ := Aside0.mk (Kd.R_lower ho2 (below_size HB.out)); have n5_ := Aside0.mk (blk_below (g := gb1553) (o := .cells #[.slice none 0 0, .int .i64 0, .int .i64 0] 68 (0, 0)) BK1553.out hb); have n6_ := Aside0.mk (blk_below (g := gb1557) (o := .cells #[u1558000, .int .i64 t1559, .int .i64 t1562] 68 (0, 0)) BK1557.out hb); have n7_ := Aside0.mk (below_step HB.out hb); clear HO_4; clear HO_1558000; clear BK1553; clear BK1557; clear HB; have HO_4 := n0_; have HO_1558000 := n1_; have HO1568 := n2_; have HO1571 := n3_; have HO1574 := n4_; have BK1553 := n5_; have BK1557 := n6_; have HB := n7_; clear n0_ n1_ n2_ n3_ n4_ n5_ n6_ n7_; (try clear hb); (try clear ho0); (try clear ho1); (try clear ho2)) | ((with_reducible refine gate_dst (N := 7) rfl ?_); refine box_event ?hg (N := 7) ?hd (cs := #[.int .i64 0, .slice none 0 0, .slice none 0 0, .slice none 0 0, .int .i64 0]) (t := 40) ?hr ?_; (case hd => rfl); (case hg => rfl); (case hr => (go_simp; done)); intro gb1577 hg w27 hbox hb; have n0_ := Aside0.mk (Kd.R_below HO_4.out hb); have n1_ := Aside0.mk (Kd.S_below (Kd.S_elderB HO_1558000.out gb1577 (Nat.le_of_eq hg.symm)) hb); have n2_ := Aside0.mk (Kd.R_below HO1568.out hb); have n3_ := Aside0.mk (Kd.R_below HO1571.out hb); have n4_ := Aside0.mk (Kd.R_below HO1574.out hb); have n5_ := Aside0.mk (blk_below (g := gb1553) (o := .cells #[.slice none 0 0, .int .i64 0, .int .i64 0] 68 (0, 0)) BK1553.out hb); have n6_ := Aside0.mk (blk_below (g := gb1557) (o := .cells #[u1558000, .int .i64 t1559, .int .i64 t1562] 68 (0, 0)) BK1557.out hb); have n7_ := Aside0.mk (below_step HB.out hb); have n8_ := Aside0.mk (hbox); have n9_ := Aside0.mk ((by rw [hg]; exact (below_size HB.out) : w.heap.size ≤ gb1577)); have n10_ := Aside0.mk ((by rw [hg]; exact (below_size HB.out) : w.heap.size ≤ gb1577)); have n11_ := Aside0.mk ((by rw [hg]; exact Nat.ne_of_lt (blk_lt (g := gb1553) (o := .cells #[.slice none 0 0, .int .i64 0, .int .i64 0] 68 (0, 0)) BK1553.out) : gb1553 ≠ gb1577)); have n12_ := Aside0.mk ((by rw [hg]; exact Nat.ne_of_gt (blk_lt (g := gb1553) (o := .cells #[.slice none 0 0, .int .i64 0, .int .i64 0] 68 (0, 0)) BK1553.out) : gb1577 ≠ gb1553)); have n13_ := Aside0.mk ((by rw [hg]; exact Nat.ne_of_lt (blk_lt (g := gb1557) (o := .cells #[u1558000, .int .i64 t1559, .int .i64 t1562] 68 (0, 0)) BK1557.out) : gb1557 ≠ gb1577)); have n14_ := Aside0.mk ((by rw [hg]; exact Nat.ne_of_gt (blk_lt (g := gb1557) (o := .cells #[u1558000, .int .i64 t1559, .int .i64 t1562] 68 (0, 0)) BK1557.out) : gb1577 ≠ gb1557)); clear HO_4; clear HO_1558000; clear HO1568; clear HO1571; clear HO1574; clear BK1553; clear BK1557; clear HB; have HO_4 := n0_; have HO_1558000 := n1_; have HO1568 := n2_; have HO1571 := n3_; have HO1574 := n4_; have BK1553 := n5_; have BK1557 := n6_; have HB := n7_; have BK1577 := n8_; have GW1577 := n9_; have GE1577 := n10_; have NB1553_1577 := n11_; have NB1577_1553 := n12_; have NB1557_1577 := n13_; have NB1577_1557 := n14_; clear n0_ n1_ n2_ n3_ n4_ n5_ n6_ n7_ n8_ n9_ n10_ n11_ n12_ n13_ n14_; clear hb hbox hg; have hnb28 := NB1577_1553.out; have hnc28 := NB1553_1577.out; have hnb29 := NB1577_1557.out; have hnc29 := NB1557_1577.out; have hcz30_0 : w27.cell? ⟨gb1577, 0, none⟩ = some (.int .i64 0) := (blk_cell BK1577.out 0).trans rfl; have hcz30_1 : w27.cell? ⟨gb1577, 1, none⟩ = some (.slice none 0 0) := (blk_cell BK1577.out 1).trans rfl; have hcz30_2 : w27.cell? ⟨gb1577, 2, none⟩ = some (.slice none 0 0) := (blk_cell BK1577.out 2).trans rfl; have hcz30_3 : w27.cell? ⟨gb1577, 3, none⟩ = some (.slice none 0 0) := (blk_cell BK1577.out 3).trans rfl; have hcz30_4 : w27.cell? ⟨gb1577, 4, none⟩ = some (.int .i64 0) := (blk_cell BK1577.out 4).trans rfl; have hfz30_0 := blk_frozen BK1577.out 0; have hfz30_1 := blk_frozen BK1577.out 1; have hfz30_2 := blk_frozen BK1577.out 2; have hfz30_3 := blk_frozen BK1577.out 3; have hfz30_4 := blk_frozen BK1577.out 4; obtain ⟨Ao31, co31, eo31⟩ := Kd.R_slice HO1568.out; subst eo31; obtain ⟨Ao32, co32, eo32⟩ := Kd.R_slice HO1571.out; subst eo32; obtain ⟨Ao33, co33, eo33⟩ := Kd.R_slice HO1574.out; subst eo33) | ((with_reducible refine gate_store (t := 40) (p := 7) rfl ?_); refine store_event (t := 40) (p := 7) (v := ?vo_w34) (w1 := (((((w27.setCell ⟨gb1577, 0, none⟩ (.int .i64 t1565)).setCell ⟨gb1577, 1, none⟩ (.slice Ao31 t1566.length co31)).setCell ⟨gb1577, 2, none⟩ (.slice Ao32 t1569.length co32)).setCell ⟨gb1577, 3, none⟩ (.slice Ao33 t1572.length co33)).setCell ⟨gb1577, 4, none⟩ (.int .i64 t1575))) ?hg ?ho ?hn ?hr ?_; (case ho => rfl); (case hg => rfl); (case hn => rfl); (case hr => (go_simp; done)); intro w34 hw; have n0_ : Aside0 (Kd.R Kd.string 9 w34 w.heap.size (fun _ => True) (.slice (some ad1558) t1554.length co14) t1554) := ⟨(by rw [hw]; exact (by exact Kd.R_mono (Kd.R_far (p := ⟨gb1577, 4, none⟩) (Kd.R_far (p := ⟨gb1577, 3, none⟩) (Kd.R_far (p := ⟨gb1577, 2, none⟩) (Kd.R_far (p := ⟨gb1577, 1, none⟩) (Kd.R_far (p := ⟨gb1577, 0, none⟩) (Kd.R_types HO_4.out BK1577.out (by decide)) (fun _ hk => hk.2) (.int .i64 t1565)) (fun _ hk => hk.2) (.slice Ao31 t1566.length co31)) (fun _ hk => hk.2) (.slice Ao32 t1569.length co32)) (fun _ hk => hk.2) (.slice Ao33 t1572.length co33)) (fun _ hk => hk.2) (.int .i64 t1575)) (fun _ hk => trivial)))⟩; have n1_ : Aside0 (Kd.S k40 40 w34 w.heap.size (fun k_ => some k_ ≠ (.slice Ao31 t1566.length co31 : Value).ownBlock ∧ some k_ ≠ (.slice Ao32 t1569.length co32 : Value).ownBlock ∧ some k_ ≠ (.slice Ao33 t1572.length co33 : Value).ownBlock ∧ k_ ≠ gb1577) u1558000 x1558000_1) := ⟨(by rw [hw]; exact (by exact Kd.S_mono (Kd.S_far (p := ⟨gb1577, 4, none⟩) (Kd.S_far (p := ⟨gb1577, 3, none⟩) (Kd.S_far (p := ⟨gb1577, 2, none⟩) (Kd.S_far (p := ⟨gb1577, 1, none⟩) (Kd.S_far (p := ⟨gb1577, 0, none⟩) (Kd.S_mono HO_1558000.out (fun k_ hk => (⟨hk, hk.2⟩ : _ ∧ k_ ≠ gb1577))) (fun _ hk => hk.2) (.int .i64 t1565)) (fun _ hk => hk.2) (.slice Ao31 t1566.length co31)) (fun _ hk => hk.2) (.slice Ao32 t1569.length co32)) (fun _ hk => hk.2) (.slice Ao33 t1572.length co33)) (fun _ hk => hk.2) (.int .i64 t1575)) (fun _ hk => ⟨hk.1.1.1.1.2, ⟨hk.1.1.1.2, ⟨hk.1.1.2, hk.1.2⟩⟩⟩)))⟩; have n2_ : Aside0 (Kd.R k60 60 w34 w.heap.size (fun k_ => some k_ ≠ (.slice Ao32 t1569.length co32 : Value).ownBlock) (.slice Ao31 t1566.length co31) t1566) := ⟨(by rw [hw]; exact (by exact Kd.R_mono (Kd.R_far (p := ⟨gb1577, 4, none⟩) (Kd.R_far (p := ⟨gb1577, 3, none⟩) (Kd.R_far (p := ⟨gb1577, 2, none⟩) (Kd.R_far (p := ⟨gb1577, 1, none⟩) (Kd.R_far (p := ⟨gb1577, 0, none⟩) (Kd.R_types HO1568.out BK1577.out (by decide)) (fun _ hk => hk.2) (.int .i64 t1565)) (fun _ hk => hk.2) (.slice Ao31 t1566.length co31)) (fun _ hk => hk.2) (.slice Ao32 t1569.length co32)) (fun _ hk => hk.2) (.slice Ao33 t1572.length co33)) (fun _ hk => hk.2) (.int .i64 t1575)) (fun _ hk => hk.1)))⟩; have n3_ : Aside0 (Kd.R k60 60 w34 w.heap.size (fun k_ => some k_ ≠ (.slice Ao31 t1566.length co31 : Value).ownBlock) (.slice Ao32 t1569.length co32) t1569) := ⟨(by rw [hw]; exact (by exact Kd.R_mono (Kd.R_far (p := ⟨gb1577, 4, none⟩) (Kd.R_far (p := ⟨gb1577, 3, none⟩) (Kd.R_far (p := ⟨gb1577, 2, none⟩) (Kd.R_far (p := ⟨gb1577, 1, none⟩) (Kd.R_far (p := ⟨gb1577, 0, none⟩) (Kd.R_types HO1571.out BK1577.out (by decide)) (fun _ hk => hk.2) (.int .i64 t1565)) (fun _ hk => hk.2) (.slice Ao31 t1566.length co31)) (fun _ hk => hk.2) (.slice Ao32 t1569.length co32)) (fun _ hk => hk.2) (.slice Ao33 t1572.length co33)) (fun _ hk => hk.2) (.int .i64 t1575)) (fun _ hk => hk.1)))⟩; have n4_ : Aside0 (Kd.R Kd.bool 4 w34 w.heap.size (fun _ => True) (.slice Ao33 t1572.length co33) t1572) := ⟨(by rw [hw]; exact (by exact Kd.R_mono (Kd.R_far (p := ⟨gb1577, 4, none⟩) (Kd.R_far (p := ⟨gb1577, 3, none⟩) (Kd.R_far (p := ⟨gb1577, 2, none⟩) (Kd.R_far (p := ⟨gb1577, 1, none⟩) (Kd.R_far (p := ⟨gb1577, 0, none⟩) (Kd.R_types HO1574.out BK1577.out (by decide)) (fun _ hk => hk.2) (.int .i64 t1565)) (fun _ hk => hk.2) (.slice Ao31 t1566.length co31)) (fun _ hk => hk.2) (.slice Ao32 t1569.length co32)) (fun _ hk => hk.2) (.slice Ao33 t1572.length co33)) (fun _ hk => hk.2) (.int .i64 t1575)) (fun _ hk => trivial)))⟩; have n5_ : Aside0 (w34.heap[gb1553]? = some (.cells #[.slice none 0 0, .int .i64 0, .int .i64 0] 68 (0, 0))) := ⟨(by rw [hw]; exact (by refine blk_far ?_ NB1553_1577.out _; refine blk_far ?_ NB1553_1577.out _; refine blk_far ?_ NB1553_1577.out _; refine blk_far ?_ NB1553_1577.out _; refine blk_far ?_ NB1553_1577.out _; exact BK1553.out))⟩; have n6_ : Aside0 (w34.heap[gb1557]? = some (.cells #[u1558000, .int .i64 t1559, .int .i64 t1562] 68 (0, 0))) := ⟨(by rw [hw]; exact (by refine blk_far ?_ NB1557_1577.out _; refine blk_far ?_ NB1557_1577.out _; refine blk_far ?_ NB1557_1577.out _; refine blk_far ?_ NB1557_1577.out _; refine blk_far ?_ NB1557_1577.out _; exact BK1557.out))⟩; have n7_ : Aside0 (w34.heap[gb1577]? = some (.cells #[.int .i64 t1565, .slice Ao31 t1566.length co31, .slice Ao32 t1569.length co32, .slice Ao33 t1572.length co33, .int .i64 t1575] 40 (0, 0))) := ⟨(by rw [hw]; exact (by refine blk_put (cs := #[.int .i64 t1565, .slice Ao31 t1566.length co31, .slice Ao32 t1569.length co32, .slice Ao33 t1572.length co33, .int .i64 0]) ?_ 4 _ rfl; refine blk_put (cs := #[.int .i64 t1565, .slice Ao31 t1566.length co31, .slice Ao32 t1569.length co32, .slice none 0 0, .int .i64 0]) ?_ 3 _ rfl; refine blk_put (cs := #[.int .i64 t1565, .slice Ao31 t1566.length co31, .slice none 0 0, .slice none 0 0, .int .i64 0]) ?_ 2 _ rfl; refine blk_put (cs := #[.int .i64 t1565, .slice none 0 0, .slice none 0 0, .slice none 0 0, .int .i64 0]) ?_ 1 _ rfl; refine blk_put (cs := #[.int .i64 0, .slice none 0 0, .slice none 0 0, .slice none 0 0, .int .i64 0]) ?_ 0 _ rfl; exact BK1577.out))⟩; have n8_ : Aside0 (Below w.heap.size w w34) := ⟨(by rw [hw]; exact (by repeat (with_reducible first | exact HB.out | refine below_set ?_ GE1577.out)))⟩; clear hw; clear HO_4; clear HO_1558000; clear HO1568; clear HO1571; clear HO1574; clear BK1553; clear BK1557; clear BK1577; clear HB; have HO_4 := n0_; have HO_1558000 := n1_; have HO1568 := n2_; have HO1571 := n3_; have HO1574 := n4_; have BK1553 := n5_; have BK1557 := n6_; have BK1577 := n7_; have HB := n8_; clear n0_ n1_ n2_ n3_ n4_ n5_ n6_ n7_ n8_; have hnb35 := NB1557_1553.out; have hnc35 := NB1553_1557.out; have hcz36_0 : w34.cell? ⟨gb1557, 0, none⟩ = some (u1558000) := (blk_cell BK1557.out 0).trans rfl; have hcz36_1 : w34.cell? ⟨gb1557, 1, none⟩ = some (.int .i64 t1559) := (blk_cell BK1557.out 1).trans rfl; have hcz36_2 : w34.cell? ⟨gb1557, 2, none⟩ = some (.int .i64 t1562) := (blk_cell BK1557.out 2).trans rfl; have hfz36_0 := blk_frozen BK1557.out 0; have hfz36_1 := blk_frozen BK1557.out 1; have hfz36_2 := blk_frozen BK1557.out 2; have hcz37_0 : w34.cell? ⟨gb1577, 0, none⟩ = some (.int .i64 t1565) := (blk_cell BK1577.out 0).trans rfl; have hcz37_1 : w34.cell? ⟨gb1577, 1, none⟩ = some (.slice Ao31 t1566.length co31) := (blk_cell BK1577.out 1).trans rfl; have hcz37_2 : w34.cell? ⟨gb1577, 2, none⟩ = some (.slice Ao32 t1569.length co32) := (blk_cell BK1577.out 2).trans rfl; have hcz37_3 : w34.cell? ⟨gb1577, 3, none⟩ = some (.slice Ao33 t1572.length co33) := (blk_cell BK1577.out 3).trans rfl; have hcz37_4 : w34.cell? ⟨gb1577, 4, none⟩ = some (.int .i64 t1575) := (blk_cell BK1577.out 4).trans rfl; have hfz37_0 := blk_frozen BK1577.out 0; have hfz37_1 := blk_frozen BK1577.out 1; have hfz37_2 := blk_frozen BK1577.out 2; have hfz37_3 := blk_frozen BK1577.out 3; have hfz37_4 := blk_frozen BK1577.out 4) | ((with_reducible refine gate_builtin (b := .append) (xs := #[.tmp 47, .tmp 49]) rfl ?_); at_builtin; refine Kd.S_append k40 (w0 := w) w.heap.size rfl (.tmp 47) (.tmp 49) 66 40 (.agg #[(.int .i64 0), (.slice none 0 0), (.slice none 0 0), (.slice none 0 0), (.int .i64 0)]) 88 rfl Try.underlying66 info40 rfl (by decide) (by omega) u1558000 x1558000_1 (⟨t1565, t1566, t1569, t1572, t1575⟩ : S40) [.int .i64 t1565, .slice Ao31 t1566.length co31, .slice Ao32 t1569.length co32, .slice Ao33 t1572.length co33, .int .i64 t1575] (fun k_ => k_ ≠ gb1577) (fun k_ => some k_ = (.slice Ao31 t1566.length co31 : Value).ownBlock ∨ some k_ = (.slice Ao32 t1569.length co32 : Value).ownBlock ∨ some k_ = (.slice Ao33 t1572.length co33 : Value).ownBlock) rfl rfl ?aP (fun k_ hk_ => hk_.elim (fun h_ => ((Kd.R_mono (ok' := fun k_ => (fun k_ => k_ ≠ gb1577) k_ ∧ some k_ ≠ (u1558000 : Value).ownBlock) (Kd.R_types (Kd.R_apart' HO1568.out (Kd.S_typed HO_1558000.out) (by decide)) BK1577.out (by decide)) (fun k_ hk => ⟨hk.2, hk.1.2⟩))).1 k_ h_.symm) (fun h_ => h_.elim (fun h_ => ((Kd.R_mono (ok' := fun k_ => (fun k_ => k_ ≠ gb1577) k_ ∧ some k_ ≠ (u1558000 : Value).ownBlock) (Kd.R_types (Kd.R_apart' HO1571.out (Kd.S_typed HO_1558000.out) (by decide)) BK1577.out (by decide)) (fun k_ hk => ⟨hk.2, hk.1.2⟩))).1 k_ h_.symm) (fun h_ => ((Kd.R_mono (ok' := fun k_ => (fun k_ => k_ ≠ gb1577) k_ ∧ some k_ ≠ (u1558000 : Value).ownBlock) (Kd.R_types (Kd.R_apart' HO1574.out (Kd.S_typed HO_1558000.out) (by decide)) BK1577.out (by decide)) (fun k_ hk => ⟨hk.2, hk.1.2⟩))).1 k_ h_.symm))) ?aF ?aO ?aB ?aS ?aL ?_; (case aP => exact k40_mkM _ _ _ (⟨t1565, t1566, t1569, t1572, t1575⟩ : S40) (Kd.R_mono (Kd.R_tight rfl (Kd.R_mono (ok' := fun k_ => (fun k_ => k_ ≠ gb1577) k_ ∧ some k_ ≠ (u1558000 : Value).ownBlock) (Kd.R_types (Kd.R_apart' HO1568.out (Kd.S_typed HO_1558000.out) (by decide)) BK1577.out (by decide)) (fun k_ hk => ⟨hk.2, hk.1.2⟩))) (fun _ h_ => Or.inl h_)) (Kd.R_mono (Kd.R_tight rfl (Kd.R_mono (ok' := fun k_ => (fun k_ => k_ ≠ gb1577) k_ ∧ some k_ ≠ (u1558000 : Value).ownBlock) (Kd.R_types (Kd.R_apart' HO1571.out (Kd.S_typed HO_1558000.out) (by decide)) BK1577.out (by decide)) (fun k_ hk => ⟨hk.2, hk.1.2⟩))) (fun _ h_ => Or.inr (Or.inl h_))) (Kd.R_mono (Kd.R_tight rfl (Kd.R_mono (ok' := fun k_ => (fun k_ => k_ ≠ gb1577) k_ ∧ some k_ ≠ (u1558000 : Value).ownBlock) (Kd.R_types (Kd.R_apart' HO1574.out (Kd.S_typed HO_1558000.out) (by decide)) BK1577.out (by decide)) (fun k_ hk => ⟨hk.2, hk.1.2⟩))) (fun _ h_ => Or.inr (Or.inr (h_))))); (case aB => exact HB.out); (case aF => exact (fun k_ hk => Kd.freshB (g := gb1577) (o := .cells #[.int .i64 t1565, .slice Ao31 t1566.length co31, .slice Ao32 t1569.length co32, .slice Ao33 t1572.length co33, .int .i64 t1575] 40 (0, 0)) BK1577.out k_ hk)); (case aO => exact (by exact Kd.S_mono HO_1558000.out (fun k_ hk => ⟨hk.2.2.2, fun e_ => e_.elim (fun h_ => hk.1 h_) (fun h_ => h_.elim (fun h_ => hk.2.1 h_) (fun h_ => hk.2.2.1 h_))⟩))); (case aS => exact (below_size HB.out)); (case aL => have := LMc25.out; omega); intro v1579 w38 ho hb hg hat; rw [← Ny1578.out] at ho; have n0_ := Aside0.mk (Kd.R_over' HO_4.out (Kd.S_typed HO_1558000.out) (by decide) hg); have n1_ := Aside0.mk (blk_grown (g := gb1553) (o := .cells #[.slice none 0 0, .int .i64 0, .int .i64 0] 68 (0, 0)) BK1553.out hg (Kd.S_ne HO_1558000.out BK1553.out (by decide))); have n2_ := Aside0.mk (blk_grown (g := gb1557) (o := .cells #[u1558000, .int .i64 t1559, .int .i64 t1562] 68 (0, 0)) BK1557.out hg (Kd.S_ne HO_1558000.out BK1557.out (by decide))); have n3_ := Aside0.mk (blk_grown (g := gb1577) (o := .cells #[.int .i64 t1565, .slice Ao31 t1566.length co31, .slice Ao32 t1569.length co32, .slice Ao33 t1572.length co33, .int .i64 t1575] 40 (0, 0)) BK1577.out hg (Kd.S_away HO_1558000.out (fun _ hk => hk.2.2.2))); have n4_ := Aside0.mk (hb); have n5_ := Aside0.mk (ho); clear HO_4; clear BK1553; clear BK1557; clear BK1577; clear HB; clear HO_1558000; clear HO1568; clear HO1571; clear HO1574; have HO_4 := n0_; have BK1553 := n1_; have BK1557 := n2_; have BK1577 := n3_; have HB := n4_; have HO1580 := n5_; clear n0_ n1_ n2_ n3_ n4_ n5_; clear ho hb hg hat; obtain ⟨Ao39, co39, eo39⟩ := Kd.S_slice HO1580.out; subst eo39; have hcz40_0 : w38.cell? ⟨gb1557, 0, none⟩ = some (u1558000) := (blk_cell BK1557.out 0).trans rfl; have hcz40_1 : w38.cell? ⟨gb1557, 1, none⟩ = some (.int .i64 t1559) := (blk_cell BK1557.out 1).trans rfl; have hcz40_2 : w38.cell? ⟨gb1557, 2, none⟩ = some (.int .i64 t1562) := (blk_cell BK1557.out 2).trans rfl; have hfz40_0 := blk_frozen BK1557.out 0; have hfz40_1 := blk_frozen BK1557.out 1; have hfz40_2 := blk_frozen BK1557.out 2))
         go_roundg k1
         case measure => have := HK1.out; omega
         case rel => exact ⟨(wrap64 (x6_1 + 1)), (y1578), (.slice Ao39 y1578.length co39), rfl, H', ⟨by have := HK1.out; omega⟩, ⟨by exact Kd.R_mono (Kd.R_far (p := ⟨gb1557, 0, none⟩) (Kd.R_types HO_4.out BK1557.out (by decide)) (fun _ hk => hk.2) (.slice Ao39 y1578.length co39)) (fun _ hk => trivial)⟩, ⟨by exact Kd.S_mono (Kd.S_far (p := ⟨gb1557, 0, none⟩) (Kd.S_types HO1580.out BK1557.out (by decide)) (fun _ hk => hk.2) (.slice Ao39 y1578.length co39)) (fun _ hk => trivial)⟩, ⟨by refine blk_far ?_ NB1553_1557.out _; exact BK1553.out⟩, ⟨by refine blk_put (cs := #[u1558000, .int .i64 t1559, .int .i64 t1562]) ?_ 0 _ rfl; exact BK1557.out⟩, ⟨by repeat ((with_reducible first | exact HB.out | refine below_set ?_ GE1557.out))⟩⟩
        ·rw [if_neg c25] at H
         exact absurd H (by simp)
       ·rw [if_neg c23] at H
        exact absurd H (by simp)
      ·rw [if_neg c22] at H
       have c22b0 : decide (x6_1 < (t1554.length : Int)) = false := decide_eq_false c22
       clear c22
       replace H := Option.bind_eq_some_iff.mp H
       obtain ⟨t1581, A410, H⟩ := H
       have A41 := Aside0.mk A410
       clear A410
       by_cases c42 : t1581.toList = a0.toList
       ·rw [if_pos c42] at H
        have c42b0 : (t1581.toList == a0.toList) = true := beq_iff_eq.mpr c42
        have c42b1 : (t1581.toList != a0.toList) = false := bne_eq_false_iff_eq.mpr c42
        clear c42
        simp only [Option.some.injEq, Prod.mk.injEq] at H
        obtain ⟨rfl, rfl, rfl, rfl⟩ := H
        have hnb43 := NB1557_1553.out
        have hnc43 := NB1553_1557.out
        have hcz44_0 : wr.cell? ⟨gb1557, 0, none⟩ = some (u1558000) := (blk_cell BK1557.out 0).trans rfl
        have hcz44_1 : wr.cell? ⟨gb1557, 1, none⟩ = some (.int .i64 t1559) := (blk_cell BK1557.out 1).trans rfl
        have hcz44_2 : wr.cell? ⟨gb1557, 2, none⟩ = some (.int .i64 t1562) := (blk_cell BK1557.out 2).trans rfl
        have hfz44_0 := blk_frozen BK1557.out 0
        have hfz44_1 := blk_frozen BK1557.out 1
        have hfz44_2 := blk_frozen BK1557.out 2
        obtain ⟨Ao45, co45, eo45⟩ := Kd.S_slice HO_1558000.out
        subst eo45
        go_wp2_with (((with_reducible refine gate_callee (f := 150) rfl ?_); refine goesL_ (some 53) rfl rfl Try.func150 (by kernel_rfl) rfl #[.agg #[.slice Ao45 x1558000_1.length co45, .int .i64 t1559, .int .i64 t1562]] rfl (by (try simp only [List.map_toArray, List.map_cons, List.map_nil]); rfl) ?_; (with_reducible refine (spec_FormatJoiner.calls k1 _ _ x1558000_1 t1559 t1562 t1581 _ ?side1 ?side2 A41.out).mono ?_); (case side1 => repeat (exact (Kd.S_reads' HO_1558000.out).2.2)); (case side2 => exact (Kd.S_reads' HO_1558000.out).2.1); rintro e w46 ⟨rfl, hb⟩; refine ⟨_, rfl, ?_⟩; have n0_ := Aside0.mk (Kd.R_below HO_4.out hb); have n1_ := Aside0.mk (Kd.S_below HO_1558000.out hb); have n2_ := Aside0.mk (blk_below (g := gb1553) (o := .cells #[.slice none 0 0, .int .i64 0, .int .i64 0] 68 (0, 0)) BK1553.out hb); have n3_ := Aside0.mk (blk_below (g := gb1557) (o := .cells #[.slice Ao45 x1558000_1.length co45, .int .i64 t1559, .int .i64 t1562] 68 (0, 0)) BK1557.out hb); have n4_ := Aside0.mk (below_step HB.out hb); clear HO_4; clear HO_1558000; clear BK1553; clear BK1557; clear HB; have HO_4 := n0_; have HO_1558000 := n1_; have BK1553 := n2_; have BK1557 := n3_; have HB := n4_; clear n0_ n1_ n2_ n3_ n4_; (try clear hb); have hcz47_0 : w46.cell? ⟨gb1557, 0, none⟩ = some (.slice Ao45 x1558000_1.length co45) := (blk_cell BK1557.out 0).trans rfl; have hcz47_1 : w46.cell? ⟨gb1557, 1, none⟩ = some (.int .i64 t1559) := (blk_cell BK1557.out 1).trans rfl; have hcz47_2 : w46.cell? ⟨gb1557, 2, none⟩ = some (.int .i64 t1562) := (blk_cell BK1557.out 2).trans rfl; have hfz47_0 := blk_frozen BK1557.out 0; have hfz47_1 := blk_frozen BK1557.out 1; have hfz47_2 := blk_frozen BK1557.out 2; have hcz48_0 : w46.cell? ⟨gb1553, 0, none⟩ = some (.slice none 0 0) := (blk_cell BK1553.out 0).trans rfl; have hcz48_1 : w46.cell? ⟨gb1553, 1, none⟩ = some (.int .i64 0) := (blk_cell BK1553.out 1).trans rfl; have hcz48_2 : w46.cell? ⟨gb1553, 2, none⟩ = some (.int .i64 0) := (blk_cell BK1553.out 2).trans rfl; have hfz48_0 := blk_frozen BK1553.out 0; have hfz48_1 := blk_frozen BK1553.out 1; have hfz48_2 := blk_frozen BK1553.out 2))
        refine bodyPost_ret (results_ct rfl _ _ gb1553 68 #[.slice Ao45 x1558000_1.length co45, .int .i64 t1559, .int .i64 t1562] (0, 0) _ rfl (by refine blk_put (cs := #[.slice Ao45 x1558000_1.length co45, .int .i64 t1559, .int .i64 0]) ?_ 2 _ rfl; refine blk_put (cs := #[.slice Ao45 x1558000_1.length co45, .int .i64 0, .int .i64 0]) ?_ 1 _ rfl; refine blk_put (cs := #[.slice none 0 0, .int .i64 0, .int .i64 0]) ?_ 0 _ rfl; exact BK1553.out) Try.underlying68 rfl (by kernel_rfl)) rfl ?_
        exact ⟨_, rfl, by exact Kd.S_mono (Kd.S_far (p := ⟨gb1553, 2, none⟩) (Kd.S_far (p := ⟨gb1553, 1, none⟩) (Kd.S_far (p := ⟨gb1553, 0, none⟩) (Kd.S_types HO_1558000.out BK1553.out (by decide)) (fun _ hk => hk.2) (.slice Ao45 x1558000_1.length co45)) (fun _ hk => hk.2) (.int .i64 t1559)) (fun _ hk => hk.2) (.int .i64 t1562)) (fun _ hk => trivial), by repeat ((with_reducible first | exact HB.out | refine below_set ?_ GE1553.out))⟩
       ·rw [if_neg c42] at H
        have c42b0 : (t1581.toList == a0.toList) = false := beq_eq_false_iff_ne.mpr c42
        have c42b1 : (t1581.toList != a0.toList) = true := bne_iff_ne.mpr c42
        simp only [Option.some.injEq, Prod.mk.injEq] at H
        obtain ⟨rfl, rfl, rfl, rfl⟩ := H
        have hnb49 := NB1557_1553.out
        have hnc49 := NB1553_1557.out
        have hcz50_0 : wr.cell? ⟨gb1557, 0, none⟩ = some (u1558000) := (blk_cell BK1557.out 0).trans rfl
        have hcz50_1 : wr.cell? ⟨gb1557, 1, none⟩ = some (.int .i64 t1559) := (blk_cell BK1557.out 1).trans rfl
        have hcz50_2 : wr.cell? ⟨gb1557, 2, none⟩ = some (.int .i64 t1562) := (blk_cell BK1557.out 2).trans rfl
        have hfz50_0 := blk_frozen BK1557.out 0
        have hfz50_1 := blk_frozen BK1557.out 1
        have hfz50_2 := blk_frozen BK1557.out 2
        obtain ⟨Ao51, co51, eo51⟩ := Kd.S_slice HO_1558000.out
        subst eo51
        go_wp2_with (((with_reducible refine gate_callee (f := 150) rfl ?_); refine goesL_ (some 53) rfl rfl Try.func150 (by kernel_rfl) rfl #[.agg #[.slice Ao51 x1558000_1.length co51, .int .i64 t1559, .int .i64 t1562]] rfl (by (try simp only [List.map_toArray, List.map_cons, List.map_nil]); rfl) ?_; (with_reducible refine (spec_FormatJoiner.calls k1 _ _ x1558000_1 t1559 t1562 t1581 _ ?side1 ?side2 A41.out).mono ?_); (case side1 => repeat (exact (Kd.S_reads' HO_1558000.out).2.2)); (case side2 => exact (Kd.S_reads' HO_1558000.out).2.1); rintro e w52 ⟨rfl, hb⟩; refine ⟨_, rfl, ?_⟩; have n0_ := Aside0.mk (Kd.R_below HO_4.out hb); have n1_ := Aside0.mk (Kd.S_below HO_1558000.out hb); have n2_ := Aside0.mk (blk_below (g := gb1553) (o := .cells #[.slice none 0 0, .int .i64 0, .int .i64 0] 68 (0, 0)) BK1553.out hb); have n3_ := Aside0.mk (blk_below (g := gb1557) (o := .cells #[.slice Ao51 x1558000_1.length co51, .int .i64 t1559, .int .i64 t1562] 68 (0, 0)) BK1557.out hb); have n4_ := Aside0.mk (below_step HB.out hb); clear HO_4; clear HO_1558000; clear BK1553; clear BK1557; clear HB; have HO_4 := n0_; have HO_1558000 := n1_; have BK1553 := n2_; have BK1557 := n3_; have HB := n4_; clear n0_ n1_ n2_ n3_ n4_; (try clear hb); have hcz53_0 : w52.cell? ⟨gb1553, 0, none⟩ = some (.slice none 0 0) := (blk_cell BK1553.out 0).trans rfl; have hcz53_1 : w52.cell? ⟨gb1553, 1, none⟩ = some (.int .i64 0) := (blk_cell BK1553.out 1).trans rfl; have hcz53_2 : w52.cell? ⟨gb1553, 2, none⟩ = some (.int .i64 0) := (blk_cell BK1553.out 2).trans rfl; have hfz53_0 := blk_frozen BK1553.out 0; have hfz53_1 := blk_frozen BK1553.out 1; have hfz53_2 := blk_frozen BK1553.out 2))
        refine bodyPost_ret (results_ct rfl _ _ gb1553 68 #[.slice none 0 0, .int .i64 0, .int .i64 0] (0, 0) _ rfl (by refine blk_put (cs := #[.slice none 0 0, .int .i64 0, .int .i64 0]) ?_ 2 _ rfl; refine blk_put (cs := #[.slice none 0 0, .int .i64 0, .int .i64 0]) ?_ 1 _ rfl; refine blk_put (cs := #[.slice none 0 0, .int .i64 0, .int .i64 0]) ?_ 0 _ rfl; exact BK1553.out) Try.underlying68 rfl (by kernel_rfl)) rfl ?_
        exact ⟨_, rfl, by exact Kd.S_nil _ _ _ _ _, by repeat ((with_reducible first | exact HB.out | refine below_set ?_ GE1553.out))⟩
   ·rw [if_neg c10] at H
    exact absurd H (by simp)
  ·rw [if_neg c8] at H
   exact absurd H (by simp)

def impl_within.f (a0 : Int) (a1 : Int) (a2 : Int) : Option (Bool) := if a0 ≥ a1 then (some (decide (a0 ≤ a2))) else (some false)
theorem impl_within.calls (a0 : Int) (a1 : Int) (a2 : Int) (r : Bool) (w : World) (h : impl_within.f a0 a1 a2 = some r) :
  Calls Try.prog 134 #[.int .i64 a0, .int .i64 a1, .int .i64 a2] w fun e w' => e = .returned (.bool r) ∧ Drawn0 w w' := by
 have H : (if a0 ≥ a1 then (some (decide (a0 ≤ a2))) else (some false)) = some r := h
 clear h
 by_cases c4 : a0 ≥ a1
 ·rw [if_pos c4] at H
  have c4b0 : decide (a1 ≤ a0) = true := decide_eq_true c4
  clear c4
  obtain rfl := Option.some.inj H
  go_enter Try.func134, Try.ntmps134
  go_wp2
  go_ret
  exact ⟨rfl, by repeat (exact Drawn0.refl _)⟩
 ·rw [if_neg c4] at H
  have c4b0 : decide (a1 ≤ a0) = false := decide_eq_false c4
  clear c4
  obtain rfl := Option.some.inj H
  go_enter Try.func134, Try.ntmps134
  go_wp2
  go_ret
  exact ⟨rfl, by repeat (exact Drawn0.refl _)⟩

def impl_IsValidJoinKind.f (a0 : Int) : Option (Bool) := (impl_within.f a0 1 4).bind fun t367 => (some t367)
theorem impl_IsValidJoinKind.calls (a0 : Int) (r : Bool) (w : World) (h : impl_IsValidJoinKind.f a0 = some r) :
  Calls Try.prog 132 #[.int .i64 a0] w fun e w' => e = .returned (.bool r) ∧ Drawn0 w w' := by
 have H : ((impl_within.f a0 1 4).bind fun t367 => (some t367)) = some r := h
 clear h
 replace H := Option.bind_eq_some_iff.mp H
 obtain ⟨t367, A20, H⟩ := H
 have A2 := Aside0.mk A20
 clear A20
 obtain rfl := Option.some.inj H
 go_enter Try.func132, Try.ntmps132
 go_wp2_with (((with_reducible refine gate_callee (f := 134) rfl ?_); refine goesL_ (some 4) rfl rfl Try.func134 (by kernel_rfl) rfl #[.int .i64 a0, .int .i64 1, .int .i64 4] rfl (by (try simp only [List.map_toArray, List.map_cons, List.map_nil]); rfl) ?_; (with_reducible refine (impl_within.calls a0 1 4 t367 _ A2.out).mono ?_); rintro e w' ⟨rfl, ⟨nd, rfl⟩⟩; refine ⟨_, rfl, ?_⟩))
 go_ret
 exact ⟨rfl, by repeat (first | exact Drawn0.refl _ | apply Drawn0.step)⟩

def impl_IsValidRow.f (a0_0 : Int) (a0_1 : Int) (a0_2 : Int) : Option (Bool) := (impl_within.f a0_0 0 9).bind fun t220 => (if t220 = true then ((impl_within.f a0_1 0 99).bind fun t221 => (if t221 = true then ((impl_within.f a0_2 0 3).bind fun t222 => (some t222)) else (some false))) else (some false))
theorem impl_IsValidRow.calls (a0_0 : Int) (a0_1 : Int) (a0_2 : Int) (r : Bool) (w : World) (h : impl_IsValidRow.f a0_0 a0_1 a0_2 = some r) :
  Calls Try.prog 196 #[.agg #[.int .i64 a0_0, .int .i64 a0_1, .int .i64 a0_2]] w fun e w' => e = .returned (.bool r) ∧ Below w.heap.size w w' := by
 have hu60 := Try.underlying60
 have HB := Aside0.mk (Below.refl w.heap.size w)
 have H : ((impl_within.f a0_0 0 9).bind fun t220 => (if t220 = true then ((impl_within.f a0_1 0 99).bind fun t221 => (if t221 = true then ((impl_within.f a0_2 0 3).bind fun t222 => (some t222)) else (some false))) else (some false))) = some r := h
 clear h
 replace H := Option.bind_eq_some_iff.mp H
 obtain ⟨t220, A20, H⟩ := H
 have A2 := Aside0.mk A20
 clear A20
 by_cases c3 : t220 = true
 ·subst c3
  rw [if_pos rfl] at H
  replace H := Option.bind_eq_some_iff.mp H
  obtain ⟨t221, A40, H⟩ := H
  have A4 := Aside0.mk A40
  clear A40
  by_cases c5 : t221 = true
  ·subst c5
   rw [if_pos rfl] at H
   replace H := Option.bind_eq_some_iff.mp H
   obtain ⟨t222, A60, H⟩ := H
   have A6 := Aside0.mk A60
   clear A60
   obtain rfl := Option.some.inj H
   go_enter Try.func196, Try.ntmps196
   go_wp2_with (first | ((with_reducible refine gate_dst (N := 1) rfl ?_); refine box_event ?hg (N := 1) ?hd (cs := #[.int .i64 a0_0, .int .i64 a0_1, .int .i64 a0_2]) (t := 60) ?hr ?_; (case hd => rfl); (case hg => rfl); (case hr => (go_simp; done)); intro gb219 hg w7 hbox hb; have n0_ := Aside0.mk (below_step HB.out hb); have n1_ := Aside0.mk (hbox); have n2_ := Aside0.mk ((by rw [hg]; exact (below_size HB.out) : w.heap.size ≤ gb219)); have n3_ := Aside0.mk ((by rw [hg]; exact (below_size HB.out) : w.heap.size ≤ gb219)); clear HB; have HB := n0_; have BK219 := n1_; have GW219 := n2_; have GE219 := n3_; clear n0_ n1_ n2_ n3_; clear hb hbox hg; have hcz8_0 : w7.cell? ⟨gb219, 0, none⟩ = some (.int .i64 a0_0) := (blk_cell BK219.out 0).trans rfl; have hcz8_1 : w7.cell? ⟨gb219, 1, none⟩ = some (.int .i64 a0_1) := (blk_cell BK219.out 1).trans rfl; have hcz8_2 : w7.cell? ⟨gb219, 2, none⟩ = some (.int .i64 a0_2) := (blk_cell BK219.out 2).trans rfl; have hfz8_0 := blk_frozen BK219.out 0; have hfz8_1 := blk_frozen BK219.out 1; have hfz8_2 := blk_frozen BK219.out 2) | ((with_reducible refine gate_callee (f := 134) rfl ?_); refine goesL_ (some 5) rfl rfl Try.func134 (by kernel_rfl) rfl #[.int .i64 a0_0, .int .i64 0, .int .i64 9] rfl (by (try simp only [List.map_toArray, List.map_cons, List.map_nil]); rfl) ?_; (with_reducible refine (impl_within.calls a0_0 0 9 true _ A2.out).mono ?_); rintro e w' ⟨rfl, ⟨nd, rfl⟩⟩; refine ⟨_, rfl, ?_⟩) | (go_at_call 134; (with_reducible refine (impl_within.calls a0_1 0 99 true _ A4.out).mono ?_); rintro e w' ⟨rfl, ⟨nd, rfl⟩⟩) | (go_at_call 134; (with_reducible refine (impl_within.calls a0_2 0 3 t222 _ A6.out).mono ?_); rintro e w' ⟨rfl, ⟨nd, rfl⟩⟩))
   go_ret
   exact ⟨rfl, by repeat ((with_reducible first | exact HB.out | apply pw_below_drewN))⟩
  ·replace c5 := Bool.eq_false_iff.mpr c5
   subst c5
   rw [if_neg (show ¬ (false = true) by decide)] at H
   obtain rfl := Option.some.inj H
   go_enter Try.func196, Try.ntmps196
   go_wp2_with (first | ((with_reducible refine gate_dst (N := 1) rfl ?_); refine box_event ?hg (N := 1) ?hd (cs := #[.int .i64 a0_0, .int .i64 a0_1, .int .i64 a0_2]) (t := 60) ?hr ?_; (case hd => rfl); (case hg => rfl); (case hr => (go_simp; done)); intro gb219 hg w9 hbox hb; have n0_ := Aside0.mk (below_step HB.out hb); have n1_ := Aside0.mk (hbox); have n2_ := Aside0.mk ((by rw [hg]; exact (below_size HB.out) : w.heap.size ≤ gb219)); have n3_ := Aside0.mk ((by rw [hg]; exact (below_size HB.out) : w.heap.size ≤ gb219)); clear HB; have HB := n0_; have BK219 := n1_; have GW219 := n2_; have GE219 := n3_; clear n0_ n1_ n2_ n3_; clear hb hbox hg; have hcz10_0 : w9.cell? ⟨gb219, 0, none⟩ = some (.int .i64 a0_0) := (blk_cell BK219.out 0).trans rfl; have hcz10_1 : w9.cell? ⟨gb219, 1, none⟩ = some (.int .i64 a0_1) := (blk_cell BK219.out 1).trans rfl; have hcz10_2 : w9.cell? ⟨gb219, 2, none⟩ = some (.int .i64 a0_2) := (blk_cell BK219.out 2).trans rfl; have hfz10_0 := blk_frozen BK219.out 0; have hfz10_1 := blk_frozen BK219.out 1; have hfz10_2 := blk_frozen BK219.out 2) | ((with_reducible refine gate_callee (f := 134) rfl ?_); refine goesL_ (some 5) rfl rfl Try.func134 (by kernel_rfl) rfl #[.int .i64 a0_0, .int .i64 0, .int .i64 9] rfl (by (try simp only [List.map_toArray, List.map_cons, List.map_nil]); rfl) ?_; (with_reducible refine (impl_within.calls a0_0 0 9 true _ A2.out).mono ?_); rintro e w' ⟨rfl, ⟨nd, rfl⟩⟩; refine ⟨_, rfl, ?_⟩) | (go_at_call 134; (with_reducible refine (impl_within.calls a0_1 0 99 false _ A4.out).mono ?_); rintro e w' ⟨rfl, ⟨nd, rfl⟩⟩))
   go_ret
   exact ⟨rfl, by repeat ((with_reducible first | exact HB.out | apply pw_below_drewN))⟩
 ·replace c3 := Bool.eq_false_iff.mpr c3
  subst c3
  rw [if_neg (show ¬ (false = true) by decide)] at H
  obtain rfl := Option.some.inj H
  go_enter Try.func196, Try.ntmps196
  go_wp2_with (first | ((with_reducible refine gate_dst (N := 1) rfl ?_); refine box_event ?hg (N := 1) ?hd (cs := #[.int .i64 a0_0, .int .i64 a0_1, .int .i64 a0_2]) (t := 60) ?hr ?_; (case hd => rfl); (case hg => rfl); (case hr => (go_simp; done)); intro gb219 hg w11 hbox hb; have n0_ := Aside0.mk (below_step HB.out hb); have n1_ := Aside0.mk (hbox); have n2_ := Aside0.mk ((by rw [hg]; exact (below_size HB.out) : w.heap.size ≤ gb219)); have n3_ := Aside0.mk ((by rw [hg]; exact (below_size HB.out) : w.heap.size ≤ gb219)); clear HB; have HB := n0_; have BK219 := n1_; have GW219 := n2_; have GE219 := n3_; clear n0_ n1_ n2_ n3_; clear hb hbox hg; have hcz12_0 : w11.cell? ⟨gb219, 0, none⟩ = some (.int .i64 a0_0) := (blk_cell BK219.out 0).trans rfl; have hcz12_1 : w11.cell? ⟨gb219, 1, none⟩ = some (.int .i64 a0_1) := (blk_cell BK219.out 1).trans rfl; have hcz12_2 : w11.cell? ⟨gb219, 2, none⟩ = some (.int .i64 a0_2) := (blk_cell BK219.out 2).trans rfl; have hfz12_0 := blk_frozen BK219.out 0; have hfz12_1 := blk_frozen BK219.out 1; have hfz12_2 := blk_frozen BK219.out 2) | ((with_reducible refine gate_callee (f := 134) rfl ?_); refine goesL_ (some 5) rfl rfl Try.func134 (by kernel_rfl) rfl #[.int .i64 a0_0, .int .i64 0, .int .i64 9] rfl (by (try simp only [List.map_toArray, List.map_cons, List.map_nil]); rfl) ?_; (with_reducible refine (impl_within.calls a0_0 0 9 false _ A2.out).mono ?_); rintro e w' ⟨rfl, ⟨nd, rfl⟩⟩; refine ⟨_, rfl, ?_⟩))
  go_ret
  exact ⟨rfl, by repeat ((with_reducible first | exact HB.out | apply pw_below_drewN))⟩

def impl_allValid.l0 : Nat → List (S60) → Int → Int → Option (Bool)
 | 0, _, _, _ => none
 | k + 1, x5, x6, x7 => if x7 < x6 then (if 0 ≤ x7 then (if x7 < (x5.length : Int) then ((impl_IsValidRow.f ((rd_T60 x5 x7).f0) ((rd_T60 x5 x7).f1) ((rd_T60 x5 x7).f2)).bind fun t370 => (if t370 = true then (impl_allValid.l0 k x5 x6 (wrap64 (x7 + 1))) else (some false))) else (none)) else (none)) else (some true)
def impl_allValid.f (k : Nat) (l0 : List (S60)) : Option (Bool) := impl_allValid.l0 k l0 (l0.length : Int) 0
theorem impl_allValid.calls (k : Nat) (A0 : Option Addr) (c0 : Nat) (l0 : List (S60)) (r : Bool) (w : World) (hr0 : Kd.C k60 w A0 l0.length l0) (hc0 : l0.length ≤ c0) (h : impl_allValid.f k l0 = some r) :
  Calls Try.prog 183 #[.slice A0 l0.length c0] w fun e w' => e = .returned (.bool r) ∧ Below w.heap.size w w' := by
 have hu60 := Try.underlying60
 have HR0 := Aside0.mk hr0
 have HC0 := Aside0.mk hc0
 clear hr0 hc0
 have HB := Aside0.mk (Below.refl w.heap.size w)
 have H : (impl_allValid.l0 k l0 (l0.length : Int) 0) = some r := h
 clear h
 have H' := Aside0.mk H
 clear H
 go_enter Try.func183, Try.ntmps183
 go_wp2
 go_loopg [7] k (fun kq v7 w' => ∃ (x7_1 : Int), v7 = .int .i64 x7_1 ∧ Aside0 (impl_allValid.l0 kq l0 (l0.length : Int) x7_1 = some r) ∧ Aside0 (kq ≤ k) ∧ Aside0 (Below w.heap.size w w'))
 case atStart => exact ⟨(0), rfl, H', ⟨Nat.le_refl _⟩, ⟨HB.out⟩⟩
 case round =>
  clear H'
  obtain ⟨x7_1, rfl, HA, HK1, HB⟩ := hrel
  cases gk with
  | zero => exact absurd HA.out (by simp [impl_allValid.l0])
  | succ k1 =>
   have H := HA.out
   clear HA
   simp only [impl_allValid.l0] at H
   by_cases c2 : x7_1 < (l0.length : Int)
   ·rw [if_pos c2] at H
    have c2b0 : decide (x7_1 < (l0.length : Int)) = true := decide_eq_true c2
    clear c2
    by_cases c3 : 0 ≤ x7_1
    ·rw [if_pos c3] at H
     have c3b0 : decide (0 ≤ x7_1) = true := decide_eq_true c3
     clear c3
     by_cases c4 : x7_1 < (l0.length : Int)
     ·rw [if_pos c4] at H
      have c4b0 : decide (x7_1 < (l0.length : Int)) = true := decide_eq_true c4
      clear c4
      replace H := Option.bind_eq_some_iff.mp H
      obtain ⟨t370, A50, H⟩ := H
      have A5 := Aside0.mk A50
      clear A50
      by_cases c6 : t370 = true
      ·subst c6
       rw [if_pos rfl] at H
       have H' := Aside0.mk H
       clear H
       have p368 : 0 ≤ (x7_1 : Int) := of_decide_eq_true (by (with_reducible assumption))
       have q368 : x7_1 < (l0.length : Int) := of_decide_eq_true (by (with_reducible assumption))
       obtain ⟨ad368, e368, hx368_0, hx368_1, hx368_2⟩ := at_T60 HR0.out x7_1 p368 q368
       cases e368
       replace hx368_0 := (HB.out.cell (World.block_lt_of_cell? w _ hx368_0)).trans hx368_0
       replace hx368_1 := (HB.out.cell (World.block_lt_of_cell? w _ hx368_1)).trans hx368_1
       replace hx368_2 := (HB.out.cell (World.block_lt_of_cell? w _ hx368_2)).trans hx368_2
       replace p368 := eq_true p368
       replace q368 := eq_true q368
       go_wp2_with (first | ((with_reducible refine gate_dst (N := 4) rfl ?_); refine box_event ?hg (N := 4) ?hd (cs := #[.int .i64 0, .int .i64 0, .int .i64 0]) (t := 60) ?hr ?_; (case hd => rfl); (case hg => rfl); (case hr => (go_simp; done)); intro gb369 hg w7 hbox hb; have n0_ := Aside0.mk (below_step HB.out hb); have n1_ := Aside0.mk (hbox); have n2_ := Aside0.mk ((by rw [hg]; exact (below_size HB.out) : w.heap.size ≤ gb369)); have n3_ := Aside0.mk ((by rw [hg]; exact (below_size HB.out) : w.heap.size ≤ gb369)); clear HB; have HB := n0_; have BK369 := n1_; have GW369 := n2_; have GE369 := n3_; clear n0_ n1_ n2_ n3_; clear hb hbox hg; have hcz8_0 : w7.cell? ⟨gb369, 0, none⟩ = some (.int .i64 0) := (blk_cell BK369.out 0).trans rfl; have hcz8_1 : w7.cell? ⟨gb369, 1, none⟩ = some (.int .i64 0) := (blk_cell BK369.out 1).trans rfl; have hcz8_2 : w7.cell? ⟨gb369, 2, none⟩ = some (.int .i64 0) := (blk_cell BK369.out 2).trans rfl; have hfz8_0 := blk_frozen BK369.out 0; have hfz8_1 := blk_frozen BK369.out 1; have hfz8_2 := blk_frozen BK369.out 2) | ((with_reducible refine gate_callee (f := 196) rfl ?_); refine goesL_ (some 12) rfl rfl Try.func196 (by kernel_rfl) rfl #[.agg #[.int .i64 ((rd_T60 l0 x7_1).f0), .int .i64 ((rd_T60 l0 x7_1).f1), .int .i64 ((rd_T60 l0 x7_1).f2)]] rfl (by (try simp only [List.map_toArray, List.map_cons, List.map_nil]); rfl) ?_; (with_reducible refine (impl_IsValidRow.calls ((rd_T60 l0 x7_1).f0) ((rd_T60 l0 x7_1).f1) ((rd_T60 l0 x7_1).f2) true _ A5.out).mono ?_); rintro e w9 ⟨rfl, hb⟩; refine ⟨_, rfl, ?_⟩; have n0_ := Aside0.mk (blk_below (g := gb369) (o := .cells #[.int .i64 ((rd_T60 l0 x7_1).f0), .int .i64 ((rd_T60 l0 x7_1).f1), .int .i64 ((rd_T60 l0 x7_1).f2)] 60 (0, 0)) (by refine blk_put (cs := #[.int .i64 ((rd_T60 l0 x7_1).f0), .int .i64 ((rd_T60 l0 x7_1).f1), .int .i64 0]) ?_ 2 _ rfl; refine blk_put (cs := #[.int .i64 ((rd_T60 l0 x7_1).f0), .int .i64 0, .int .i64 0]) ?_ 1 _ rfl; refine blk_put (cs := #[.int .i64 0, .int .i64 0, .int .i64 0]) ?_ 0 _ rfl; exact BK369.out) hb); have n1_ := Aside0.mk (below_step (by repeat (with_reducible first | exact HB.out | refine below_set ?_ GE369.out)) hb); clear BK369; clear HB; have BK369 := n0_; have HB := n1_; clear n0_ n1_; (try clear hb)))
       go_roundg k1
       case measure => have := HK1.out; omega
       case rel => exact ⟨(wrap64 (x7_1 + 1)), rfl, H', ⟨by have := HK1.out; omega⟩, ⟨HB.out⟩⟩
      ·replace c6 := Bool.eq_false_iff.mpr c6
       subst c6
       rw [if_neg (show ¬ (false = true) by decide)] at H
       obtain rfl := Option.some.inj H
       have p368 : 0 ≤ (x7_1 : Int) := of_decide_eq_true (by (with_reducible assumption))
       have q368 : x7_1 < (l0.length : Int) := of_decide_eq_true (by (with_reducible assumption))
       obtain ⟨ad368, e368, hx368_0, hx368_1, hx368_2⟩ := at_T60 HR0.out x7_1 p368 q368
       cases e368
       replace hx368_0 := (HB.out.cell (World.block_lt_of_cell? w _ hx368_0)).trans hx368_0
       replace hx368_1 := (HB.out.cell (World.block_lt_of_cell? w _ hx368_1)).trans hx368_1
       replace hx368_2 := (HB.out.cell (World.block_lt_of_cell? w _ hx368_2)).trans hx368_2
       replace p368 := eq_true p368
       replace q368 := eq_true q368
       go_wp2_with (first | ((with_reducible refine gate_dst (N := 4) rfl ?_); refine box_event ?hg (N := 4) ?hd (cs := #[.int .i64 0, .int .i64 0, .int .i64 0]) (t := 60) ?hr ?_; (case hd => rfl); (case hg => rfl); (case hr => (go_simp; done)); intro gb369 hg w10 hbox hb; have n0_ := Aside0.mk (below_step HB.out hb); have n1_ := Aside0.mk (hbox); have n2_ := Aside0.mk ((by rw [hg]; exact (below_size HB.out) : w.heap.size ≤ gb369)); have n3_ := Aside0.mk ((by rw [hg]; exact (below_size HB.out) : w.heap.size ≤ gb369)); clear HB; have HB := n0_; have BK369 := n1_; have GW369 := n2_; have GE369 := n3_; clear n0_ n1_ n2_ n3_; clear hb hbox hg; have hcz11_0 : w10.cell? ⟨gb369, 0, none⟩ = some (.int .i64 0) := (blk_cell BK369.out 0).trans rfl; have hcz11_1 : w10.cell? ⟨gb369, 1, none⟩ = some (.int .i64 0) := (blk_cell BK369.out 1).trans rfl; have hcz11_2 : w10.cell? ⟨gb369, 2, none⟩ = some (.int .i64 0) := (blk_cell BK369.out 2).trans rfl; have hfz11_0 := blk_frozen BK369.out 0; have hfz11_1 := blk_frozen BK369.out 1; have hfz11_2 := blk_frozen BK369.out 2) | ((with_reducible refine gate_callee (f := 196) rfl ?_); refine goesL_ (some 12) rfl rfl Try.func196 (by kernel_rfl) rfl #[.agg #[.int .i64 ((rd_T60 l0 x7_1).f0), .int .i64 ((rd_T60 l0 x7_1).f1), .int .i64 ((rd_T60 l0 x7_1).f2)]] rfl (by (try simp only [List.map_toArray, List.map_cons, List.map_nil]); rfl) ?_; (with_reducible refine (impl_IsValidRow.calls ((rd_T60 l0 x7_1).f0) ((rd_T60 l0 x7_1).f1) ((rd_T60 l0 x7_1).f2) false _ A5.out).mono ?_); rintro e w12 ⟨rfl, hb⟩; refine ⟨_, rfl, ?_⟩; have n0_ := Aside0.mk (blk_below (g := gb369) (o := .cells #[.int .i64 ((rd_T60 l0 x7_1).f0), .int .i64 ((rd_T60 l0 x7_1).f1), .int .i64 ((rd_T60 l0 x7_1).f2)] 60 (0, 0)) (by refine blk_put (cs := #[.int .i64 ((rd_T60 l0 x7_1).f0), .int .i64 ((rd_T60 l0 x7_1).f1), .int .i64 0]) ?_ 2 _ rfl; refine blk_put (cs := #[.int .i64 ((rd_T60 l0 x7_1).f0), .int .i64 0, .int .i64 0]) ?_ 1 _ rfl; refine blk_put (cs := #[.int .i64 0, .int .i64 0, .int .i64 0]) ?_ 0 _ rfl; exact BK369.out) hb); have n1_ := Aside0.mk (below_step (by repeat (with_reducible first | exact HB.out | refine below_set ?_ GE369.out)) hb); clear BK369; clear HB; have BK369 := n0_; have HB := n1_; clear n0_ n1_; (try clear hb)))
       go_ret
       exact ⟨rfl, HB.out⟩
     ·rw [if_neg c4] at H
      exact absurd H (by simp)
    ·rw [if_neg c3] at H
     exact absurd H (by simp)
   ·rw [if_neg c2] at H
    have c2b0 : decide (x7_1 < (l0.length : Int)) = false := decide_eq_false c2
    clear c2
    obtain rfl := Option.some.inj H
    go_wp2
    go_ret
    exact ⟨rfl, HB.out⟩

def impl_AreValidRows.f (k : Nat) (l0 : List (S60)) : Option (Bool) := if (l0.length : Int) ≤ 24 then ((impl_allValid.f k l0).bind fun t371 => (some t371)) else (some false)
theorem impl_AreValidRows.calls (k : Nat) (A0 : Option Addr) (c0 : Nat) (l0 : List (S60)) (r : Bool) (w : World) (hr0 : Kd.C k60 w A0 l0.length l0) (hc0 : l0.length ≤ c0) (h : impl_AreValidRows.f k l0 = some r) :
  Calls Try.prog 133 #[.slice A0 l0.length c0] w fun e w' => e = .returned (.bool r) ∧ Below w.heap.size w w' := by
 have HR0 := Aside0.mk hr0
 have HC0 := Aside0.mk hc0
 clear hr0 hc0
 have HB := Aside0.mk (Below.refl w.heap.size w)
 have H : (if (l0.length : Int) ≤ 24 then ((impl_allValid.f k l0).bind fun t371 => (some t371)) else (some false)) = some r := h
 clear h
 by_cases c2 : (l0.length : Int) ≤ 24
 ·rw [if_pos c2] at H
  have c2b0 : decide ((l0.length : Int) ≤ 24) = true := decide_eq_true c2
  have c2b1 : decide (l0.length ≤ 24) = true := decide_eq_true (by omega)
  clear c2
  replace H := Option.bind_eq_some_iff.mp H
  obtain ⟨t371, A30, H⟩ := H
  have A3 := Aside0.mk A30
  clear A30
  obtain rfl := Option.some.inj H
  go_enter Try.func133, Try.ntmps133
  go_wp2_with ((go_at_call 183; (with_reducible refine (impl_allValid.calls k _ _ l0 t371 _ ?side1 ?side2 A3.out).mono ?_); (case side1 => repeat (exact HR0.out)); (case side2 => exact HC0.out); rintro e w4 ⟨rfl, hb⟩; have n0_ := Aside0.mk (below_step HB.out hb); clear HB; have HB := n0_; clear n0_; (try clear hb)))
  go_ret
  exact ⟨rfl, HB.out⟩
 ·rw [if_neg c2] at H
  have c2b0 : decide ((l0.length : Int) ≤ 24) = false := decide_eq_false c2
  have c2b1 : decide (l0.length ≤ 24) = false := decide_eq_false (by omega)
  clear c2
  obtain rfl := Option.some.inj H
  go_enter Try.func133, Try.ntmps133
  go_wp2
  go_ret
  exact ⟨rfl, HB.out⟩

def impl_IsValidTask.f (k : Nat) (a0_0 : Int) (l0_1 : List (S60)) (l0_2 : List (S60)) (l0_3 : List Bool) (a0_4 : Int) : Option (Bool) := (impl_IsValidJoinKind.f a0_0).bind fun t387 => (if t387 = true then ((impl_AreValidRows.f k l0_1).bind fun t388 => (if t388 = true then ((impl_AreValidRows.f k l0_2).bind fun t389 => (if t389 = true then (if (l0_3.length : Int) = (l0_1.length : Int) then ((impl_within.f a0_4 0 4).bind fun t390 => (some t390)) else (some false)) else (some false))) else (some false))) else (some false))
theorem impl_IsValidTask.calls (k : Nat) (a0_0 : Int) (A0_1 : Option Addr) (c0_1 : Nat) (l0_1 : List (S60)) (A0_2 : Option Addr) (c0_2 : Nat) (l0_2 : List (S60)) (A0_3 : Option Addr) (c0_3 : Nat) (l0_3 : List Bool) (a0_4 : Int) (r : Bool) (w : World) (hr0_1 : Kd.C k60 w A0_1 l0_1.length l0_1) (hc0_1 : l0_1.length ≤ c0_1) (hr0_2 : Kd.C k60 w A0_2 l0_2.length l0_2) (hc0_2 : l0_2.length ≤ c0_2) (hr0_3 : Kd.C Kd.bool w A0_3 l0_3.length l0_3) (hc0_3 : l0_3.length ≤ c0_3) (h : impl_IsValidTask.f k a0_0 l0_1 l0_2 l0_3 a0_4 = some r) :
  Calls Try.prog 39 #[.agg #[.int .i64 a0_0, .slice A0_1 l0_1.length c0_1, .slice A0_2 l0_2.length c0_2, .slice A0_3 l0_3.length c0_3, .int .i64 a0_4]] w fun e w' => e = .returned (.bool r) ∧ Below w.heap.size w w' := by
 have hu40 := Try.underlying40
 have HR0_1 := Aside0.mk hr0_1
 have HC0_1 := Aside0.mk hc0_1
 clear hr0_1 hc0_1
 have HR0_2 := Aside0.mk hr0_2
 have HC0_2 := Aside0.mk hc0_2
 clear hr0_2 hc0_2
 have HR0_3 := Aside0.mk hr0_3
 have HC0_3 := Aside0.mk hc0_3
 clear hr0_3 hc0_3
 have HB := Aside0.mk (Below.refl w.heap.size w)
 have H : ((impl_IsValidJoinKind.f a0_0).bind fun t387 => (if t387 = true then ((impl_AreValidRows.f k l0_1).bind fun t388 => (if t388 = true then ((impl_AreValidRows.f k l0_2).bind fun t389 => (if t389 = true then (if (l0_3.length : Int) = (l0_1.length : Int) then ((impl_within.f a0_4 0 4).bind fun t390 => (some t390)) else (some false)) else (some false))) else (some false))) else (some false))) = some r := h
 clear h
 replace H := Option.bind_eq_some_iff.mp H
 obtain ⟨t387, A20, H⟩ := H
 have A2 := Aside0.mk A20
 clear A20
 by_cases c3 : t387 = true
 ·subst c3
  rw [if_pos rfl] at H
  replace H := Option.bind_eq_some_iff.mp H
  obtain ⟨t388, A40, H⟩ := H
  have A4 := Aside0.mk A40
  clear A40
  by_cases c5 : t388 = true
  ·subst c5
   rw [if_pos rfl] at H
   replace H := Option.bind_eq_some_iff.mp H
   obtain ⟨t389, A60, H⟩ := H
   have A6 := Aside0.mk A60
   clear A60
   by_cases c7 : t389 = true
   ·subst c7
    rw [if_pos rfl] at H
    by_cases c8 : (l0_3.length : Int) = (l0_1.length : Int)
    ·rw [if_pos c8] at H
     have c8b0 : ((l0_3.length : Int) == (l0_1.length : Int)) = true := beq_iff_eq.mpr c8
     have c8b1 : ((l0_3.length : Int) != (l0_1.length : Int)) = false := bne_eq_false_iff_eq.mpr c8
     have c8b2 : (l0_3.length == l0_1.length) = true := by (simp at c8 ⊢; omega)
     clear c8
     replace H := Option.bind_eq_some_iff.mp H
     obtain ⟨t390, A90, H⟩ := H
     have A9 := Aside0.mk A90
     clear A90
     obtain rfl := Option.some.inj H
     go_enter Try.func39, Try.ntmps39
     go_wp2_with (first | ((with_reducible refine gate_dst (N := 1) rfl ?_); (try (refine gate_guard rfl ?_; dsimp only)); refine box_event ?hg (N := 1) ?hd (cs := #[.int .i64 a0_0, .slice A0_1 l0_1.length c0_1, .slice A0_2 l0_2.length c0_2, .slice A0_3 l0_3.length c0_3, .int .i64 a0_4]) (t := 40) ?hr ?_; (case hd => rfl); (case hg => rfl); (case hr => (go_simp; done)); intro gb386 hg w10 hbox hb; have n0_ := Aside0.mk (below_step HB.out hb); have n1_ := Aside0.mk (hbox); have n2_ := Aside0.mk ((by rw [hg]; exact (below_size HB.out) : w.heap.size ≤ gb386)); have n3_ := Aside0.mk ((by rw [hg]; exact (below_size HB.out) : w.heap.size ≤ gb386)); clear HB; have HB := n0_; have BK386 := n1_; have GW386 := n2_; have GE386 := n3_; clear n0_ n1_ n2_ n3_; clear hb hbox hg; have hcz11_0 : w10.cell? ⟨gb386, 0, none⟩ = some (.int .i64 a0_0) := (blk_cell BK386.out 0).trans rfl; have hcz11_1 : w10.cell? ⟨gb386, 1, none⟩ = some (.slice A0_1 l0_1.length c0_1) := (blk_cell BK386.out 1).trans rfl; have hcz11_2 : w10.cell? ⟨gb386, 2, none⟩ = some (.slice A0_2 l0_2.length c0_2) := (blk_cell BK386.out 2).trans rfl; have hcz11_3 : w10.cell? ⟨gb386, 3, none⟩ = some (.slice A0_3 l0_3.length c0_3) := (blk_cell BK386.out 3).trans rfl; have hcz11_4 : w10.cell? ⟨gb386, 4, none⟩ = some (.int .i64 a0_4) := (blk_cell BK386.out 4).trans rfl; have hfz11_0 := blk_frozen BK386.out 0; have hfz11_1 := blk_frozen BK386.out 1; have hfz11_2 := blk_frozen BK386.out 2; have hfz11_3 := blk_frozen BK386.out 3; have hfz11_4 := blk_frozen BK386.out 4) | ((with_reducible refine gate_callee (f := 132) rfl ?_); refine goesL_ (some 5) rfl rfl Try.func132 (by kernel_rfl) rfl #[.int .i64 a0_0] rfl (by (try simp only [List.map_toArray, List.map_cons, List.map_nil]); rfl) ?_; (with_reducible refine (impl_IsValidJoinKind.calls a0_0 true _ A2.out).mono ?_); rintro e w' ⟨rfl, ⟨nd, rfl⟩⟩; refine ⟨_, rfl, ?_⟩) | (go_at_call 133; (with_reducible refine (impl_AreValidRows.calls k _ _ l0_1 true _ ?side1 ?side2 A4.out).mono ?_); (case side1 => repeat (exact (Kd.C_below HR0_1.out (by repeat (with_reducible first | exact HB.out | apply pw_below_drewN))))); (case side2 => exact HC0_1.out); rintro e w12 ⟨rfl, hb⟩; have n0_ := Aside0.mk (blk_below (g := gb386) (o := .cells #[.int .i64 a0_0, .slice A0_1 l0_1.length c0_1, .slice A0_2 l0_2.length c0_2, .slice A0_3 l0_3.length c0_3, .int .i64 a0_4] 40 (0, 0)) (by (with_reducible repeat (refine blk_drewN ?_ _)); exact BK386.out) hb); have n1_ := Aside0.mk (below_step (by repeat (with_reducible first | exact HB.out | apply pw_below_drewN)) hb); clear BK386; clear HB; have BK386 := n0_; have HB := n1_; clear n0_ n1_; (try clear hb); have hcz13_0 : w12.cell? ⟨gb386, 0, none⟩ = some (.int .i64 a0_0) := (blk_cell BK386.out 0).trans rfl; have hcz13_1 : w12.cell? ⟨gb386, 1, none⟩ = some (.slice A0_1 l0_1.length c0_1) := (blk_cell BK386.out 1).trans rfl; have hcz13_2 : w12.cell? ⟨gb386, 2, none⟩ = some (.slice A0_2 l0_2.length c0_2) := (blk_cell BK386.out 2).trans rfl; have hcz13_3 : w12.cell? ⟨gb386, 3, none⟩ = some (.slice A0_3 l0_3.length c0_3) := (blk_cell BK386.out 3).trans rfl; have hcz13_4 : w12.cell? ⟨gb386, 4, none⟩ = some (.int .i64 a0_4) := (blk_cell BK386.out 4).trans rfl; have hfz13_0 := blk_frozen BK386.out 0; have hfz13_1 := blk_frozen BK386.out 1; have hfz13_2 := blk_frozen BK386.out 2; have hfz13_3 := blk_frozen BK386.out 3; have hfz13_4 := blk_frozen BK386.out 4) | (go_at_call 133; (with_reducible refine (impl_AreValidRows.calls k _ _ l0_2 true _ ?side1 ?side2 A6.out).mono ?_); (case side1 => repeat (exact (Kd.C_below HR0_2.out HB.out))); (case side2 => exact HC0_2.out); rintro e w14 ⟨rfl, hb⟩; have n0_ := Aside0.mk (blk_below (g := gb386) (o := .cells #[.int .i64 a0_0, .slice A0_1 l0_1.length c0_1, .slice A0_2 l0_2.length c0_2, .slice A0_3 l0_3.length c0_3, .int .i64 a0_4] 40 (0, 0)) BK386.out hb); have n1_ := Aside0.mk (below_step HB.out hb); clear BK386; clear HB; have BK386 := n0_; have HB := n1_; clear n0_ n1_; (try clear hb); have hcz15_0 : w14.cell? ⟨gb386, 0, none⟩ = some (.int .i64 a0_0) := (blk_cell BK386.out 0).trans rfl; have hcz15_1 : w14.cell? ⟨gb386, 1, none⟩ = some (.slice A0_1 l0_1.length c0_1) := (blk_cell BK386.out 1).trans rfl; have hcz15_2 : w14.cell? ⟨gb386, 2, none⟩ = some (.slice A0_2 l0_2.length c0_2) := (blk_cell BK386.out 2).trans rfl; have hcz15_3 : w14.cell? ⟨gb386, 3, none⟩ = some (.slice A0_3 l0_3.length c0_3) := (blk_cell BK386.out 3).trans rfl; have hcz15_4 : w14.cell? ⟨gb386, 4, none⟩ = some (.int .i64 a0_4) := (blk_cell BK386.out 4).trans rfl; have hfz15_0 := blk_frozen BK386.out 0; have hfz15_1 := blk_frozen BK386.out 1; have hfz15_2 := blk_frozen BK386.out 2; have hfz15_3 := blk_frozen BK386.out 3; have hfz15_4 := blk_frozen BK386.out 4) | (go_at_call 134; (with_reducible refine (impl_within.calls a0_4 0 4 t390 _ A9.out).mono ?_); rintro e w' ⟨rfl, ⟨nd, rfl⟩⟩))
     go_ret
     exact ⟨rfl, by repeat ((with_reducible first | exact HB.out | apply pw_below_drewN))⟩
    ·rw [if_neg c8] at H
     have c8b0 : ((l0_3.length : Int) == (l0_1.length : Int)) = false := beq_eq_false_iff_ne.mpr c8
     have c8b1 : ((l0_3.length : Int) != (l0_1.length : Int)) = true := bne_iff_ne.mpr c8
     have c8b2 : (l0_3.length == l0_1.length) = false := by (simp at c8 ⊢; omega)
     obtain rfl := Option.some.inj H
     go_enter Try.func39, Try.ntmps39
     go_wp2_with (first | ((with_reducible refine gate_dst (N := 1) rfl ?_); (try (refine gate_guard rfl ?_; dsimp only)); refine box_event ?hg (N := 1) ?hd (cs := #[.int .i64 a0_0, .slice A0_1 l0_1.length c0_1, .slice A0_2 l0_2.length c0_2, .slice A0_3 l0_3.length c0_3, .int .i64 a0_4]) (t := 40) ?hr ?_; (case hd => rfl); (case hg => rfl); (case hr => (go_simp; done)); intro gb386 hg w16 hbox hb; have n0_ := Aside0.mk (below_step HB.out hb); have n1_ := Aside0.mk (hbox); have n2_ := Aside0.mk ((by rw [hg]; exact (below_size HB.out) : w.heap.size ≤ gb386)); have n3_ := Aside0.mk ((by rw [hg]; exact (below_size HB.out) : w.heap.size ≤ gb386)); clear HB; have HB := n0_; have BK386 := n1_; have GW386 := n2_; have GE386 := n3_; clear n0_ n1_ n2_ n3_; clear hb hbox hg; have hcz17_0 : w16.cell? ⟨gb386, 0, none⟩ = some (.int .i64 a0_0) := (blk_cell BK386.out 0).trans rfl; have hcz17_1 : w16.cell? ⟨gb386, 1, none⟩ = some (.slice A0_1 l0_1.length c0_1) := (blk_cell BK386.out 1).trans rfl; have hcz17_2 : w16.cell? ⟨gb386, 2, none⟩ = some (.slice A0_2 l0_2.length c0_2) := (blk_cell BK386.out 2).trans rfl; have hcz17_3 : w16.cell? ⟨gb386, 3, none⟩ = some (.slice A0_3 l0_3.length c0_3) := (blk_cell BK386.out 3).trans rfl; have hcz17_4 : w16.cell? ⟨gb386, 4, none⟩ = some (.int .i64 a0_4) := (blk_cell BK386.out 4).trans rfl; have hfz17_0 := blk_frozen BK386.out 0; have hfz17_1 := blk_frozen BK386.out 1; have hfz17_2 := blk_frozen BK386.out 2; have hfz17_3 := blk_frozen BK386.out 3; have hfz17_4 := blk_frozen BK386.out 4) | ((with_reducible refine gate_callee (f := 132) rfl ?_); refine goesL_ (some 5) rfl rfl Try.func132 (by kernel_rfl) rfl #[.int .i64 a0_0] rfl (by (try simp only [List.map_toArray, List.map_cons, List.map_nil]); rfl) ?_; (with_reducible refine (impl_IsValidJoinKind.calls a0_0 true _ A2.out).mono ?_); rintro e w' ⟨rfl, ⟨nd, rfl⟩⟩; refine ⟨_, rfl, ?_⟩) | (go_at_call 133; (with_reducible refine (impl_AreValidRows.calls k _ _ l0_1 true _ ?side1 ?side2 A4.out).mono ?_); (case side1 => repeat (exact (Kd.C_below HR0_1.out (by repeat (with_reducible first | exact HB.out | apply pw_below_drewN))))); (case side2 => exact HC0_1.out); rintro e w18 ⟨rfl, hb⟩; have n0_ := Aside0.mk (blk_below (g := gb386) (o := .cells #[.int .i64 a0_0, .slice A0_1 l0_1.length c0_1, .slice A0_2 l0_2.length c0_2, .slice A0_3 l0_3.length c0_3, .int .i64 a0_4] 40 (0, 0)) (by (with_reducible repeat (refine blk_drewN ?_ _)); exact BK386.out) hb); have n1_ := Aside0.mk (below_step (by repeat (with_reducible first | exact HB.out | apply pw_below_drewN)) hb); clear BK386; clear HB; have BK386 := n0_; have HB := n1_; clear n0_ n1_; (try clear hb); have hcz19_0 : w18.cell? ⟨gb386, 0, none⟩ = some (.int .i64 a0_0) := (blk_cell BK386.out 0).trans rfl; have hcz19_1 : w18.cell? ⟨gb386, 1, none⟩ = some (.slice A0_1 l0_1.length c0_1) := (blk_cell BK386.out 1).trans rfl; have hcz19_2 : w18.cell? ⟨gb386, 2, none⟩ = some (.slice A0_2 l0_2.length c0_2) := (blk_cell BK386.out 2).trans rfl; have hcz19_3 : w18.cell? ⟨gb386, 3, none⟩ = some (.slice A0_3 l0_3.length c0_3) := (blk_cell BK386.out 3).trans rfl; have hcz19_4 : w18.cell? ⟨gb386, 4, none⟩ = some (.int .i64 a0_4) := (blk_cell BK386.out 4).trans rfl; have hfz19_0 := blk_frozen BK386.out 0; have hfz19_1 := blk_frozen BK386.out 1; have hfz19_2 := blk_frozen BK386.out 2; have hfz19_3 := blk_frozen BK386.out 3; have hfz19_4 := blk_frozen BK386.out 4) | (go_at_call 133; (with_reducible refine (impl_AreValidRows.calls k _ _ l0_2 true _ ?side1 ?side2 A6.out).mono ?_); (case side1 => repeat (exact (Kd.C_below HR0_2.out HB.out))); (case side2 => exact HC0_2.out); rintro e w20 ⟨rfl, hb⟩; have n0_ := Aside0.mk (blk_below (g := gb386) (o := .cells #[.int .i64 a0_0, .slice A0_1 l0_1.length c0_1, .slice A0_2 l0_2.length c0_2, .slice A0_3 l0_3.length c0_3, .int .i64 a0_4] 40 (0, 0)) BK386.out hb); have n1_ := Aside0.mk (below_step HB.out hb); clear BK386; clear HB; have BK386 := n0_; have HB := n1_; clear n0_ n1_; (try clear hb); have hcz21_0 : w20.cell? ⟨gb386, 0, none⟩ = some (.int .i64 a0_0) := (blk_cell BK386.out 0).trans rfl; have hcz21_1 : w20.cell? ⟨gb386, 1, none⟩ = some (.slice A0_1 l0_1.length c0_1) := (blk_cell BK386.out 1).trans rfl; have hcz21_2 : w20.cell? ⟨gb386, 2, none⟩ = some (.slice A0_2 l0_2.length c0_2) := (blk_cell BK386.out 2).trans rfl; have hcz21_3 : w20.cell? ⟨gb386, 3, none⟩ = some (.slice A0_3 l0_3.length c0_3) := (blk_cell BK386.out 3).trans rfl; have hcz21_4 : w20.cell? ⟨gb386, 4, none⟩ = some (.int .i64 a0_4) := (blk_cell BK386.out 4).trans rfl; have hfz21_0 := blk_frozen BK386.out 0; have hfz21_1 := blk_frozen BK386.out 1; have hfz21_2 := blk_frozen BK386.out 2; have hfz21_3 := blk_frozen BK386.out 3; have hfz21_4 := blk_frozen BK386.out 4))
     go_ret
     exact ⟨rfl, HB.out⟩
   ·replace c7 := Bool.eq_false_iff.mpr c7
    subst c7
    rw [if_neg (show ¬ (false = true) by decide)] at H
    obtain rfl := Option.some.inj H
    go_enter Try.func39, Try.ntmps39
    go_wp2_with (first | ((with_reducible refine gate_dst (N := 1) rfl ?_); (try (refine gate_guard rfl ?_; dsimp only)); refine box_event ?hg (N := 1) ?hd (cs := #[.int .i64 a0_0, .slice A0_1 l0_1.length c0_1, .slice A0_2 l0_2.length c0_2, .slice A0_3 l0_3.length c0_3, .int .i64 a0_4]) (t := 40) ?hr ?_; (case hd => rfl); (case hg => rfl); (case hr => (go_simp; done)); intro gb386 hg w22 hbox hb; have n0_ := Aside0.mk (below_step HB.out hb); have n1_ := Aside0.mk (hbox); have n2_ := Aside0.mk ((by rw [hg]; exact (below_size HB.out) : w.heap.size ≤ gb386)); have n3_ := Aside0.mk ((by rw [hg]; exact (below_size HB.out) : w.heap.size ≤ gb386)); clear HB; have HB := n0_; have BK386 := n1_; have GW386 := n2_; have GE386 := n3_; clear n0_ n1_ n2_ n3_; clear hb hbox hg; have hcz23_0 : w22.cell? ⟨gb386, 0, none⟩ = some (.int .i64 a0_0) := (blk_cell BK386.out 0).trans rfl; have hcz23_1 : w22.cell? ⟨gb386, 1, none⟩ = some (.slice A0_1 l0_1.length c0_1) := (blk_cell BK386.out 1).trans rfl; have hcz23_2 : w22.cell? ⟨gb386, 2, none⟩ = some (.slice A0_2 l0_2.length c0_2) := (blk_cell BK386.out 2).trans rfl; have hcz23_3 : w22.cell? ⟨gb386, 3, none⟩ = some (.slice A0_3 l0_3.length c0_3) := (blk_cell BK386.out 3).trans rfl; have hcz23_4 : w22.cell? ⟨gb386, 4, none⟩ = some (.int .i64 a0_4) := (blk_cell BK386.out 4).trans rfl; have hfz23_0 := blk_frozen BK386.out 0; have hfz23_1 := blk_frozen BK386.out 1; have hfz23_2 := blk_frozen BK386.out 2; have hfz23_3 := blk_frozen BK386.out 3; have hfz23_4 := blk_frozen BK386.out 4) | ((with_reducible refine gate_callee (f := 132) rfl ?_); refine goesL_ (some 5) rfl rfl Try.func132 (by kernel_rfl) rfl #[.int .i64 a0_0] rfl (by (try simp only [List.map_toArray, List.map_cons, List.map_nil]); rfl) ?_; (with_reducible refine (impl_IsValidJoinKind.calls a0_0 true _ A2.out).mono ?_); rintro e w' ⟨rfl, ⟨nd, rfl⟩⟩; refine ⟨_, rfl, ?_⟩) | (go_at_call 133; (with_reducible refine (impl_AreValidRows.calls k _ _ l0_1 true _ ?side1 ?side2 A4.out).mono ?_); (case side1 => repeat (exact (Kd.C_below HR0_1.out (by repeat (with_reducible first | exact HB.out | apply pw_below_drewN))))); (case side2 => exact HC0_1.out); rintro e w24 ⟨rfl, hb⟩; have n0_ := Aside0.mk (blk_below (g := gb386) (o := .cells #[.int .i64 a0_0, .slice A0_1 l0_1.length c0_1, .slice A0_2 l0_2.length c0_2, .slice A0_3 l0_3.length c0_3, .int .i64 a0_4] 40 (0, 0)) (by (with_reducible repeat (refine blk_drewN ?_ _)); exact BK386.out) hb); have n1_ := Aside0.mk (below_step (by repeat (with_reducible first | exact HB.out | apply pw_below_drewN)) hb); clear BK386; clear HB; have BK386 := n0_; have HB := n1_; clear n0_ n1_; (try clear hb); have hcz25_0 : w24.cell? ⟨gb386, 0, none⟩ = some (.int .i64 a0_0) := (blk_cell BK386.out 0).trans rfl; have hcz25_1 : w24.cell? ⟨gb386, 1, none⟩ = some (.slice A0_1 l0_1.length c0_1) := (blk_cell BK386.out 1).trans rfl; have hcz25_2 : w24.cell? ⟨gb386, 2, none⟩ = some (.slice A0_2 l0_2.length c0_2) := (blk_cell BK386.out 2).trans rfl; have hcz25_3 : w24.cell? ⟨gb386, 3, none⟩ = some (.slice A0_3 l0_3.length c0_3) := (blk_cell BK386.out 3).trans rfl; have hcz25_4 : w24.cell? ⟨gb386, 4, none⟩ = some (.int .i64 a0_4) := (blk_cell BK386.out 4).trans rfl; have hfz25_0 := blk_frozen BK386.out 0; have hfz25_1 := blk_frozen BK386.out 1; have hfz25_2 := blk_frozen BK386.out 2; have hfz25_3 := blk_frozen BK386.out 3; have hfz25_4 := blk_frozen BK386.out 4) | (go_at_call 133; (with_reducible refine (impl_AreValidRows.calls k _ _ l0_2 false _ ?side1 ?side2 A6.out).mono ?_); (case side1 => repeat (exact (Kd.C_below HR0_2.out HB.out))); (case side2 => exact HC0_2.out); rintro e w26 ⟨rfl, hb⟩; have n0_ := Aside0.mk (blk_below (g := gb386) (o := .cells #[.int .i64 a0_0, .slice A0_1 l0_1.length c0_1, .slice A0_2 l0_2.length c0_2, .slice A0_3 l0_3.length c0_3, .int .i64 a0_4] 40 (0, 0)) BK386.out hb); have n1_ := Aside0.mk (below_step HB.out hb); clear BK386; clear HB; have BK386 := n0_; have HB := n1_; clear n0_ n1_; (try clear hb)))
    go_ret
    exact ⟨rfl, HB.out⟩
  ·replace c5 := Bool.eq_false_iff.mpr c5
   subst c5
   rw [if_neg (show ¬ (false = true) by decide)] at H
   obtain rfl := Option.some.inj H
   go_enter Try.func39, Try.ntmps39
   go_wp2_with (first | ((with_reducible refine gate_dst (N := 1) rfl ?_); (try (refine gate_guard rfl ?_; dsimp only)); refine box_event ?hg (N := 1) ?hd (cs := #[.int .i64 a0_0, .slice A0_1 l0_1.length c0_1, .slice A0_2 l0_2.length c0_2, .slice A0_3 l0_3.length c0_3, .int .i64 a0_4]) (t := 40) ?hr ?_; (case hd => rfl); (case hg => rfl); (case hr => (go_simp; done)); intro gb386 hg w27 hbox hb; have n0_ := Aside0.mk (below_step HB.out hb); have n1_ := Aside0.mk (hbox); have n2_ := Aside0.mk ((by rw [hg]; exact (below_size HB.out) : w.heap.size ≤ gb386)); have n3_ := Aside0.mk ((by rw [hg]; exact (below_size HB.out) : w.heap.size ≤ gb386)); clear HB; have HB := n0_; have BK386 := n1_; have GW386 := n2_; have GE386 := n3_; clear n0_ n1_ n2_ n3_; clear hb hbox hg; have hcz28_0 : w27.cell? ⟨gb386, 0, none⟩ = some (.int .i64 a0_0) := (blk_cell BK386.out 0).trans rfl; have hcz28_1 : w27.cell? ⟨gb386, 1, none⟩ = some (.slice A0_1 l0_1.length c0_1) := (blk_cell BK386.out 1).trans rfl; have hcz28_2 : w27.cell? ⟨gb386, 2, none⟩ = some (.slice A0_2 l0_2.length c0_2) := (blk_cell BK386.out 2).trans rfl; have hcz28_3 : w27.cell? ⟨gb386, 3, none⟩ = some (.slice A0_3 l0_3.length c0_3) := (blk_cell BK386.out 3).trans rfl; have hcz28_4 : w27.cell? ⟨gb386, 4, none⟩ = some (.int .i64 a0_4) := (blk_cell BK386.out 4).trans rfl; have hfz28_0 := blk_frozen BK386.out 0; have hfz28_1 := blk_frozen BK386.out 1; have hfz28_2 := blk_frozen BK386.out 2; have hfz28_3 := blk_frozen BK386.out 3; have hfz28_4 := blk_frozen BK386.out 4) | ((with_reducible refine gate_callee (f := 132) rfl ?_); refine goesL_ (some 5) rfl rfl Try.func132 (by kernel_rfl) rfl #[.int .i64 a0_0] rfl (by (try simp only [List.map_toArray, List.map_cons, List.map_nil]); rfl) ?_; (with_reducible refine (impl_IsValidJoinKind.calls a0_0 true _ A2.out).mono ?_); rintro e w' ⟨rfl, ⟨nd, rfl⟩⟩; refine ⟨_, rfl, ?_⟩) | (go_at_call 133; (with_reducible refine (impl_AreValidRows.calls k _ _ l0_1 false _ ?side1 ?side2 A4.out).mono ?_); (case side1 => repeat (exact (Kd.C_below HR0_1.out (by repeat (with_reducible first | exact HB.out | apply pw_below_drewN))))); (case side2 => exact HC0_1.out); rintro e w29 ⟨rfl, hb⟩; have n0_ := Aside0.mk (blk_below (g := gb386) (o := .cells #[.int .i64 a0_0, .slice A0_1 l0_1.length c0_1, .slice A0_2 l0_2.length c0_2, .slice A0_3 l0_3.length c0_3, .int .i64 a0_4] 40 (0, 0)) (by (with_reducible repeat (refine blk_drewN ?_ _)); exact BK386.out) hb); have n1_ := Aside0.mk (below_step (by repeat (with_reducible first | exact HB.out | apply pw_below_drewN)) hb); clear BK386; clear HB; have BK386 := n0_; have HB := n1_; clear n0_ n1_; (try clear hb)))
   go_ret
   exact ⟨rfl, HB.out⟩
 ·replace c3 := Bool.eq_false_iff.mpr c3
  subst c3
  rw [if_neg (show ¬ (false = true) by decide)] at H
  obtain rfl := Option.some.inj H
  go_enter Try.func39, Try.ntmps39
  go_wp2_with (first | ((with_reducible refine gate_dst (N := 1) rfl ?_); (try (refine gate_guard rfl ?_; dsimp only)); refine box_event ?hg (N := 1) ?hd (cs := #[.int .i64 a0_0, .slice A0_1 l0_1.length c0_1, .slice A0_2 l0_2.length c0_2, .slice A0_3 l0_3.length c0_3, .int .i64 a0_4]) (t := 40) ?hr ?_; (case hd => rfl); (case hg => rfl); (case hr => (go_simp; done)); intro gb386 hg w30 hbox hb; have n0_ := Aside0.mk (below_step HB.out hb); have n1_ := Aside0.mk (hbox); have n2_ := Aside0.mk ((by rw [hg]; exact (below_size HB.out) : w.heap.size ≤ gb386)); have n3_ := Aside0.mk ((by rw [hg]; exact (below_size HB.out) : w.heap.size ≤ gb386)); clear HB; have HB := n0_; have BK386 := n1_; have GW386 := n2_; have GE386 := n3_; clear n0_ n1_ n2_ n3_; clear hb hbox hg; have hcz31_0 : w30.cell? ⟨gb386, 0, none⟩ = some (.int .i64 a0_0) := (blk_cell BK386.out 0).trans rfl; have hcz31_1 : w30.cell? ⟨gb386, 1, none⟩ = some (.slice A0_1 l0_1.length c0_1) := (blk_cell BK386.out 1).trans rfl; have hcz31_2 : w30.cell? ⟨gb386, 2, none⟩ = some (.slice A0_2 l0_2.length c0_2) := (blk_cell BK386.out 2).trans rfl; have hcz31_3 : w30.cell? ⟨gb386, 3, none⟩ = some (.slice A0_3 l0_3.length c0_3) := (blk_cell BK386.out 3).trans rfl; have hcz31_4 : w30.cell? ⟨gb386, 4, none⟩ = some (.int .i64 a0_4) := (blk_cell BK386.out 4).trans rfl; have hfz31_0 := blk_frozen BK386.out 0; have hfz31_1 := blk_frozen BK386.out 1; have hfz31_2 := blk_frozen BK386.out 2; have hfz31_3 := blk_frozen BK386.out 3; have hfz31_4 := blk_frozen BK386.out 4) | ((with_reducible refine gate_callee (f := 132) rfl ?_); refine goesL_ (some 5) rfl rfl Try.func132 (by kernel_rfl) rfl #[.int .i64 a0_0] rfl (by (try simp only [List.map_toArray, List.map_cons, List.map_nil]); rfl) ?_; (with_reducible refine (impl_IsValidJoinKind.calls a0_0 false _ A2.out).mono ?_); rintro e w' ⟨rfl, ⟨nd, rfl⟩⟩; refine ⟨_, rfl, ?_⟩))
  go_ret
  exact ⟨rfl, by repeat ((with_reducible first | exact HB.out | apply pw_below_drewN))⟩

def impl_joined.l0 : Nat → ByteArray → ByteArray → List ByteArray → Int → Int → Option (ByteArray)
 | 0, _, _, _, _, _ => none
 | k + 1, x1, x5, x8, x9, x10 => if x10 < x9 then (if 0 ≤ x10 then (if x10 < (x8.length : Int) then (if x10 > 0 then (if x5.size + x1.size ≤ 9223372036854775807 then (if (x5 ++ x1).size + (rdOf ByteArray.empty x8 x10).size ≤ 9223372036854775807 then (impl_joined.l0 k x1 ((x5 ++ x1) ++ (rdOf ByteArray.empty x8 x10)) x8 x9 (wrap64 (x10 + 1))) else (none)) else (none)) else (if x5.size + (rdOf ByteArray.empty x8 x10).size ≤ 9223372036854775807 then (impl_joined.l0 k x1 (x5 ++ (rdOf ByteArray.empty x8 x10)) x8 x9 (wrap64 (x10 + 1))) else (none))) else (none)) else (none)) else (some x5)
def impl_joined.f (k : Nat) (l0 : List ByteArray) (a1 : ByteArray) : Option (ByteArray) := impl_joined.l0 k a1 (⟨#[]⟩ : ByteArray) l0 (l0.length : Int) 0
theorem impl_joined.calls (k : Nat) (A0 : Option Addr) (c0 : Nat) (l0 : List ByteArray) (a1 : ByteArray) (r : ByteArray) (w : World) (hr0 : Kd.C Kd.string w A0 l0.length l0) (hc0 : l0.length ≤ c0) (h : impl_joined.f k l0 a1 = some r) :
  Calls Try.prog 154 #[.slice A0 l0.length c0, .string a1] w fun e w' => e = .returned (.string r) ∧ Drawn0 w w' := by
 have HR0 := Aside0.mk hr0
 have HC0 := Aside0.mk hc0
 clear hr0 hc0
 have H : (impl_joined.l0 k a1 (⟨#[]⟩ : ByteArray) l0 (l0.length : Int) 0) = some r := h
 clear h
 have H' := Aside0.mk H
 clear H
 go_enter Try.func154, Try.ntmps154
 go_wp2
 go_loopg [5, 10] k (fun kq v5 v10 w' => ∃ (x5_1 : ByteArray) (x10_1 : Int), v5 = .string x5_1 ∧ v10 = .int .i64 x10_1 ∧ Aside0 (impl_joined.l0 kq a1 x5_1 l0 (l0.length : Int) x10_1 = some r) ∧ Aside0 (kq ≤ k) ∧ Drawn0 w w')
 case atStart => exact ⟨((⟨#[]⟩ : ByteArray)), (0), rfl, rfl, H', ⟨Nat.le_refl _⟩, by repeat (exact Drawn0.refl _)⟩
 case round =>
  clear H'
  obtain ⟨x5_1, x10_1, rfl, rfl, HA, HK1, ⟨m1, rfl⟩⟩ := hrel
  cases gk with
  | zero => exact absurd HA.out (by simp [impl_joined.l0])
  | succ k1 =>
   have H := HA.out
   clear HA
   simp only [impl_joined.l0] at H
   by_cases c3 : x10_1 < (l0.length : Int)
   ·rw [if_pos c3] at H
    have c3b0 : decide (x10_1 < (l0.length : Int)) = true := decide_eq_true c3
    clear c3
    by_cases c4 : 0 ≤ x10_1
    ·rw [if_pos c4] at H
     have c4b0 : decide (0 ≤ x10_1) = true := decide_eq_true c4
     clear c4
     by_cases c5 : x10_1 < (l0.length : Int)
     ·rw [if_pos c5] at H
      have c5b0 : decide (x10_1 < (l0.length : Int)) = true := decide_eq_true c5
      clear c5
      by_cases c6 : x10_1 > 0
      ·rw [if_pos c6] at H
       have c6b0 : decide (0 < x10_1) = true := decide_eq_true c6
       clear c6
       by_cases c7 : x5_1.size + a1.size ≤ 9223372036854775807
       ·rw [if_pos c7] at H
        have c7b0 := eq_true c7
        have c7b1 : decide (x5_1.size + a1.size ≤ 9223372036854775807) = true := decide_eq_true c7
        try have c7b2 : (9223372036854775807 < x5_1.size + a1.size) = False := eq_false (Nat.not_lt.2 c7)
        by_cases c8 : (x5_1 ++ a1).size + (rdOf ByteArray.empty l0 x10_1).size ≤ 9223372036854775807
        ·rw [if_pos c8] at H
         have c8b0 := eq_true c8
         have c8b1 : decide ((x5_1 ++ a1).size + (rdOf ByteArray.empty l0 x10_1).size ≤ 9223372036854775807) = true := decide_eq_true c8
         try have c8b3 : (9223372036854775807 < x5_1.size + a1.size + (rdOf ByteArray.empty l0 x10_1).size) = False := eq_false (by have h_ := c8; simp only [ByteArray.size_append] at h_; (exact Nat.not_lt.2 h_))
         try have c8b2 : (9223372036854775807 < (x5_1 ++ a1).size + (rdOf ByteArray.empty l0 x10_1).size) = False := eq_false (Nat.not_lt.2 c8)
         have H' := Aside0.mk H
         clear H
         have p1204 : 0 ≤ (x10_1 : Int) := of_decide_eq_true (by (with_reducible assumption))
         have q1204 : x10_1 < (l0.length : Int) := of_decide_eq_true (by (with_reducible assumption))
         obtain ⟨ad1204, e1204, hx1204_0⟩ := Kd.at_string HR0.out x10_1 p1204 q1204
         cases e1204
         replace p1204 := eq_true p1204
         replace q1204 := eq_true q1204
         go_wp2
         go_roundg k1
         case measure => have := HK1.out; omega
         case rel => exact ⟨((x5_1 ++ a1) ++ (rdOf ByteArray.empty l0 x10_1)), (wrap64 (x10_1 + 1)), rfl, rfl, H', ⟨by have := HK1.out; omega⟩, by repeat (first | exact Drawn0.refl _ | apply Drawn0.step)⟩
        ·rw [if_neg c8] at H
         exact absurd H (by simp)
       ·rw [if_neg c7] at H
        exact absurd H (by simp)
      ·rw [if_neg c6] at H
       have c6b0 : decide (0 < x10_1) = false := decide_eq_false c6
       clear c6
       by_cases c9 : x5_1.size + (rdOf ByteArray.empty l0 x10_1).size ≤ 9223372036854775807
       ·rw [if_pos c9] at H
        have c9b0 := eq_true c9
        have c9b1 : decide (x5_1.size + (rdOf ByteArray.empty l0 x10_1).size ≤ 9223372036854775807) = true := decide_eq_true c9
        try have c9b2 : (9223372036854775807 < x5_1.size + (rdOf ByteArray.empty l0 x10_1).size) = False := eq_false (Nat.not_lt.2 c9)
        have H' := Aside0.mk H
        clear H
        have p1204 : 0 ≤ (x10_1 : Int) := of_decide_eq_true (by (with_reducible assumption))
        have q1204 : x10_1 < (l0.length : Int) := of_decide_eq_true (by (with_reducible assumption))
        obtain ⟨ad1204, e1204, hx1204_0⟩ := Kd.at_string HR0.out x10_1 p1204 q1204
        cases e1204
        replace p1204 := eq_true p1204
        replace q1204 := eq_true q1204
        go_wp2
        go_roundg k1
        case measure => have := HK1.out; omega
        case rel => exact ⟨(x5_1 ++ (rdOf ByteArray.empty l0 x10_1)), (wrap64 (x10_1 + 1)), rfl, rfl, H', ⟨by have := HK1.out; omega⟩, by repeat (first | exact Drawn0.refl _ | apply Drawn0.step)⟩
       ·rw [if_neg c9] at H
        exact absurd H (by simp)
     ·rw [if_neg c5] at H
      exact absurd H (by simp)
    ·rw [if_neg c4] at H
     exact absurd H (by simp)
   ·rw [if_neg c3] at H
    have c3b0 : decide (x10_1 < (l0.length : Int)) = false := decide_eq_false c3
    clear c3
    obtain rfl := Option.some.inj H
    go_wp2
    go_ret
    exact ⟨rfl, by repeat (first | exact Drawn0.refl _ | apply Drawn0.step)⟩

def impl_decimal.f : Nat → Int → Option (ByteArray)
 | 0, _ => none
 | k + 1, a0 => if a0 < 10 then (some (strOfNums (([(IntKind.u64.wrap (48 + a0)) % 256] : List Int)))) else ((impl_decimal.f k (IntKind.u64.wrap (Int.tdiv a0 10))).bind fun t1208 => ((some (([(IntKind.u64.wrap (48 + (Int.tmod a0 10))) % 256] : List Int) : List Int)).bind fun y1209 => (if t1208.size + (strOfNums y1209).size ≤ 9223372036854775807 then (some (t1208 ++ (strOfNums y1209))) else (none))))
def impl_decimal.T3 : Bool × List (List Nat × List Nat) := (true, [([], []), ([0], [0]), ([1], [1]), ([], []), ([3], [3]), ([4], [4]), ([5], [5]), ([6], [6]), ([7], [7]), ([2, 8], [2, 8]), ([9, 2, 0, 1, 2, 3, 4, 5, 6, 7, 8, 9], [9])])
def impl_decimal.B3 : List Nat := [0, 1, 3, 0, 8, 24, 56, 120, 248, 511, 1023]
theorem impl_decimal.tab3 : rtab .any (opsOf Try.f188 3) = impl_decimal.T3 := by kernel_rfl
theorem impl_decimal.bits3 : waitsOk impl_decimal.T3.2 impl_decimal.B3 = true := by kernel_rfl
theorem impl_decimal.calls (k : Nat) : ∀ (a0 : Int) (r : ByteArray) (w : World) (h : impl_decimal.f k a0 = some r),
  Calls Try.prog 188 #[.int .u64 a0] w fun e w' => e = .returned (.string r) ∧ Below w.heap.size w w' := by
 induction k using Nat.strongRecOn with
 | _ k ih =>
 intro a0 r w h
 cases k with
 | zero => exact absurd h (by simp [impl_decimal.f])
 | succ k =>
 simp only [impl_decimal.f] at h
 have HB := Aside0.mk (Below.refl w.heap.size w)
 have H : (if a0 < 10 then (some (strOfNums (([(IntKind.u64.wrap (48 + a0)) % 256] : List Int)))) else ((impl_decimal.f k (IntKind.u64.wrap (Int.tdiv a0 10))).bind fun t1208 => ((some (([(IntKind.u64.wrap (48 + (Int.tmod a0 10))) % 256] : List Int) : List Int)).bind fun y1209 => (if t1208.size + (strOfNums y1209).size ≤ 9223372036854775807 then (some (t1208 ++ (strOfNums y1209))) else (none))))) = some r := h
 clear h
 by_cases c2 : a0 < 10
 ·rw [if_pos c2] at H
  have c2b0 : decide (a0 < 10) = true := decide_eq_true c2
  clear c2
  obtain ⟨y1205, hy1205⟩ : ∃ y_ : List Int, y_ = (([(IntKind.u64.wrap (48 + a0)) % 256] : List Int)) := ⟨_, rfl⟩
  replace H : (some (strOfNums y1205)) = some r := by (rw [hy1205]; with_reducible exact H)
  have Ny1205 := Aside0.mk hy1205
  clear hy1205
  obtain rfl := Option.some.inj H
  go_enter Try.func188, Try.ntmps188
  go_wp2_with (((with_reducible refine gate_dst (N := 8) rfl ?_); refine Kd.R_lit (Kd.int .u8) _ 5 ?hg (N := 8) ?hd (xs := ([(IntKind.u64.wrap (48 + a0)) % 256] : List Int)) (inner := [.int .u8 ((IntKind.u64.wrap (48 + a0)) % 256)]) (ok := fun _ => True) (okp := fun _ => True) ?hr ?hp (fun _ hk => hk) trivial (Below.refl _ _) (Nat.le_refl _) (by simp) ?_; (case hd => rfl); (case hg => rfl); (case hr => (go_simp; done)); (case hp => exact (Reps.one (show Kd.M (Kd.int .u8) _ _ _ ((IntKind.u64.wrap (48 + a0)) % 256) [.int .u8 ((IntKind.u64.wrap (48 + a0)) % 256)] from rfl) (Reps.none _ _))); intro v1206 w3 ho4 hb hg_ hnew_; clear hg_ hnew_; (rw [← Ny1205.out] at ho4); have n0_ := Aside0.mk (Kd.R_lower ho4 (below_size HB.out)); have n1_ := Aside0.mk (below_step HB.out hb); clear HB; have HO1207 := n0_; have HB := n1_; clear n0_ n1_; clear hb ho4; have hcv5 := own_string (P := Try.prog) Try.underlying22 Try.underlying5 Try.underlying9 (Kd.own_of_R HO1207.out)))
  go_ret
  exact ⟨rfl, HB.out⟩
 ·rw [if_neg c2] at H
  have c2b0 : decide (a0 < 10) = false := decide_eq_false c2
  clear c2
  replace H := Option.bind_eq_some_iff.mp H
  obtain ⟨t1208, A60, H⟩ := H
  have A6 := Aside0.mk A60
  clear A60
  obtain ⟨y1209, hy1209, H⟩ := bindO_ H
  have Ny1209 := Aside0.mk hy1209
  clear hy1209
  by_cases c7 : t1208.size + (strOfNums y1209).size ≤ 9223372036854775807
  ·rw [if_pos c7] at H
   have c7b0 := eq_true c7
   have c7b1 : decide (t1208.size + (strOfNums y1209).size ≤ 9223372036854775807) = true := decide_eq_true c7
   try have c7b2 : (9223372036854775807 < t1208.size + (strOfNums y1209).size) = False := eq_false (Nat.not_lt.2 c7)
   obtain rfl := Option.some.inj H
   go_enter Try.func188, Try.ntmps188
   try go_wp2
   have n0_ := Aside0.mk (below_drew1 HB.out)
   clear HB
   have HB := n0_
   clear n0_
   refine start_ (n := 11) (S := fun w' => True) (ds := []) #[false, false, false, false, false, false, false, false, false, false, false] (by kernel_rfl) rfl rfl trivial (fun hHeld => ?_); refine with_tabW impl_decimal.tab3 impl_decimal.bits3 (fun HT_ HW_ => ?_)
   generalize w.drew = w8 at HB hHeld ⊢
   refine pure_ (i := 0) (N := some 10) (v := ?_) (a' := ?_) #[true, false, false, false, false, false, false, false, false, false, false] rfl rfl (any_of HT_.out (by kernel_rfl)) (fun _ _ _ h => h) (Or.inl ⟨rfl, ?_⟩) ?_ ?_
   rotate_left
   ·intro w'
    go_simp
    with_reducible rfl
   rotate_left
   ·simp only [Act.put, List.setIfInBounds_toArray, List.set_cons_zero, List.set_cons_succ, i64_w, i32_w]
    rfl
   refine pure_ (i := 1) (N := some 11) (v := ?_) (a' := ?_) #[true, true, false, false, false, false, false, false, false, false, false] rfl rfl (any_of HT_.out (by kernel_rfl)) (fun _ _ _ h => h) (Or.inl ⟨rfl, ?_⟩) ?_ ?_
   rotate_left
   ·intro w'
    go_simp
    with_reducible rfl
   rotate_left
   ·simp only [Act.put, List.setIfInBounds_toArray, List.set_cons_zero, List.set_cons_succ, i64_w, i32_w]
    rfl
   refine pure_ (i := 3) (N := some 13) (v := ?_) (a' := ?_) #[true, true, false, true, false, false, false, false, false, false, false] rfl rfl (any_of HT_.out (by kernel_rfl)) (fun _ _ _ h => h) (Or.inl ⟨rfl, ?_⟩) ?_ ?_
   rotate_left
   ·intro w'
    go_simp
    with_reducible rfl
   rotate_left
   ·simp only [Act.put, List.setIfInBounds_toArray, List.set_cons_zero, List.set_cons_succ, i64_w, i32_w]
    rfl
   refine pure_ (i := 4) (N := some 14) (v := ?_) (a' := ?_) #[true, true, false, true, true, false, false, false, false, false, false] rfl rfl (any_of HT_.out (by kernel_rfl)) (fun _ _ _ h => h) (Or.inl ⟨rfl, ?_⟩) ?_ ?_
   rotate_left
   ·intro w'
    go_simp
    with_reducible rfl
   rotate_left
   ·simp only [Act.put, List.setIfInBounds_toArray, List.set_cons_zero, List.set_cons_succ, i64_w, i32_w]
    rfl
   refine pure_ (i := 5) (N := some 15) (v := ?_) (a' := ?_) #[true, true, false, true, true, true, false, false, false, false, false] rfl rfl (any_of HT_.out (by kernel_rfl)) (fun _ _ _ h => h) (Or.inl ⟨rfl, ?_⟩) ?_ ?_
   rotate_left
   ·intro w'
    go_simp
    with_reducible rfl
   rotate_left
   ·simp only [Act.put, List.setIfInBounds_toArray, List.set_cons_zero, List.set_cons_succ, i64_w, i32_w]
    rfl
   refine pure_ (i := 6) (N := some 16) (v := ?_) (a' := ?_) #[true, true, false, true, true, true, true, false, false, false, false] rfl rfl (any_of HT_.out (by kernel_rfl)) (fun _ _ _ h => h) (Or.inl ⟨rfl, ?_⟩) ?_ ?_
   rotate_left
   ·intro w'
    go_simp
    with_reducible rfl
   rotate_left
   ·simp only [Act.put, List.setIfInBounds_toArray, List.set_cons_zero, List.set_cons_succ, i64_w, i32_w]
    rfl
   refine join_ (σ := Value) 2 #[true, true, true, true, true, true, true, true, true, false, false] (fun s_ => [(12, .string t1208), (17, s_), (18, .string (strOfNums y1209))]) (fun s_ w' => (Kd.R (Kd.int .u8) 5 w' w.heap.size (fun _ => True) s_ y1209) ∧ (Below w.heap.size w w')) ?_ ?_
   rotate_left
   ·intro hCont
    refine two_ (i := 2) (j := 7) (Ni := some 12) (Nj := some 17) #[true, true, true, true, true, true, true, false, false, false, false] #[true, true, false, true, true, true, true, true, false, false, false] rfl rfl rfl rfl (two_of HT_.out (by kernel_rfl)) (by decide) (by decide) (fun K hK => ?_) (fun K hK => ?_)
    ·skip
     refine goes_ Try.func188 (by kernel_rfl) rfl #[.int .u64 (IntKind.u64.wrap (Int.tdiv a0 10))] rfl rfl rfl (by (try simp only [List.map_toArray, List.map_cons, List.map_nil]); rfl) ?_
     with_reducible refine (ih k (by omega) (IntKind.u64.wrap (Int.tdiv a0 10)) t1208 _ A6.out).mono ?_
     rintro e w9 ⟨rfl, hb⟩
     refine ⟨_, rfl, ?_⟩
     have n0_ := Aside0.mk (below_step HB.out hb)
     clear HB
     have HB := n0_
     clear n0_
     (try clear hb)
     (try clear hb2)
     (try clear hk)
     (try clear hi)
     refine hK.out _ _ trivial (fun hHeld => ?_)
     clear hK K
     refine norm_ (a' := ?_) ?_ ?_
     rotate_left
     ·show Act.put _ (some 12) _ = _
      simp only [Act.put, List.setIfInBounds_toArray, List.set_cons_zero, List.set_cons_succ, i64_w, i32_w]
      rfl
     refine one_ (i := 7) (N := some 17) #[true, true, true, true, true, true, true, true, false, false, false] rfl rfl (one_of HT_.out (by kernel_rfl)) (by decide) (fun K hK => ?_)
     refine Kd.R_lit_step (Kd.int .u8) _ 5 ?hg (N := 17) ?hd (xs := ([(IntKind.u64.wrap (48 + (Int.tmod a0 10))) % 256] : List Int)) (inner := [.int .u8 ((IntKind.u64.wrap (48 + (Int.tmod a0 10))) % 256)]) (ok := fun _ => True) (okp := fun _ => True) ?hr ?hp (fun _ hk => hk) trivial (Below.refl _ _) (Nat.le_refl _) (by simp) ?_; (case hd => rfl); (case hg => rfl); (case hr => (go_simp; rfl)); (case hp => exact (Reps.one (show Kd.M (Kd.int .u8) _ _ _ ((IntKind.u64.wrap (48 + (Int.tmod a0 10))) % 256) [.int .u8 ((IntKind.u64.wrap (48 + (Int.tmod a0 10))) % 256)] from rfl) (Reps.none _ _)))
     intro v1210 w10 ho11 hb hg_ hnew_
     clear hg_ hnew_
     (rw [← Ny1209.out] at ho11)
     have n0_ := Aside0.mk (Kd.R_lower ho11 (below_size HB.out))
     have n1_ := Aside0.mk (below_step HB.out hb)
     clear HB
     have HO1211 := n0_
     have HB := n1_
     clear n0_ n1_
     clear hb ho11
     refine hK.out _ _ trivial (fun hHeld => ?_)
     clear hK K
     refine norm_ (a' := ?_) ?_ ?_
     rotate_left
     ·show Act.put _ (some 17) _ = _
      simp only [Act.put, List.setIfInBounds_toArray, List.set_cons_zero, List.set_cons_succ, i64_w, i32_w]
      rfl
     refine one_ (i := 8) (N := some 18) #[true, true, true, true, true, true, true, true, true, false, false] rfl rfl (one_of HT_.out (by kernel_rfl)) (by decide) (fun K hK => ?_)
     have hcv12 := own_string (P := Try.prog) Try.underlying22 Try.underlying5 Try.underlying9 (Kd.own_of_R HO1211.out)
     refine value_ (w1 := ?_) (v := ?_) rfl rfl ?_ ?_
     rotate_left 2
     ·go_simp
      constructor
      ·rfl
      ·rfl
     clear hcv12
     refine hK.out _ _ trivial (fun hHeld => ?_)
     clear hK K
     refine norm_ (a' := ?_) ?_ ?_
     rotate_left
     ·show Act.put _ (some 18) _ = _
      simp only [Act.put, List.setIfInBounds_toArray, List.set_cons_zero, List.set_cons_succ, i64_w, i32_w]
      rfl
     exact norm_ (by simp only [putAll, Act.put, List.setIfInBounds_toArray, List.set_cons_zero, List.set_cons_succ]) (hCont (v1210) _ ⟨HO1211.out, HB.out⟩)
    ·skip
     refine Kd.R_lit_step (Kd.int .u8) _ 5 ?hg (N := 17) ?hd (xs := ([(IntKind.u64.wrap (48 + (Int.tmod a0 10))) % 256] : List Int)) (inner := [.int .u8 ((IntKind.u64.wrap (48 + (Int.tmod a0 10))) % 256)]) (ok := fun _ => True) (okp := fun _ => True) ?hr ?hp (fun _ hk => hk) trivial (Below.refl _ _) (Nat.le_refl _) (by simp) ?_; (case hd => rfl); (case hg => rfl); (case hr => (go_simp; rfl)); (case hp => exact (Reps.one (show Kd.M (Kd.int .u8) _ _ _ ((IntKind.u64.wrap (48 + (Int.tmod a0 10))) % 256) [.int .u8 ((IntKind.u64.wrap (48 + (Int.tmod a0 10))) % 256)] from rfl) (Reps.none _ _)))
     intro v1210 w9 ho10 hb hg_ hnew_
     clear hg_ hnew_
     (rw [← Ny1209.out] at ho10)
     have n0_ := Aside0.mk (Kd.R_lower ho10 (below_size HB.out))
     have n1_ := Aside0.mk (below_step HB.out hb)
     clear HB
     have HO1211 := n0_
     have HB := n1_
     clear n0_ n1_
     clear hb ho10
     refine hK.out _ _ trivial (fun hHeld => ?_)
     clear hK K
     refine norm_ (a' := ?_) ?_ ?_
     rotate_left
     ·show Act.put _ (some 17) _ = _
      simp only [Act.put, List.setIfInBounds_toArray, List.set_cons_zero, List.set_cons_succ, i64_w, i32_w]
      rfl
     refine two_ (i := 2) (j := 8) (Ni := some 12) (Nj := some 18) #[true, true, true, true, true, true, true, true, false, false, false] #[true, true, false, true, true, true, true, true, true, false, false] rfl rfl rfl rfl (two_of HT_.out (by kernel_rfl)) (by decide) (by decide) (fun K hK => ?_) (fun K hK => ?_)
     ·skip
      refine goes_ Try.func188 (by kernel_rfl) rfl #[.int .u64 (IntKind.u64.wrap (Int.tdiv a0 10))] rfl rfl rfl (by (try simp only [List.map_toArray, List.map_cons, List.map_nil]); rfl) ?_
      with_reducible refine (ih k (by omega) (IntKind.u64.wrap (Int.tdiv a0 10)) t1208 _ A6.out).mono ?_
      rintro e w11 ⟨rfl, hb⟩
      refine ⟨_, rfl, ?_⟩
      have n0_ := Aside0.mk (Kd.R_below HO1211.out hb)
      have n1_ := Aside0.mk (below_step HB.out hb)
      clear HO1211
      clear HB
      have HO1211 := n0_
      have HB := n1_
      clear n0_ n1_
      (try clear hb)
      (try clear hb2)
      (try clear hk)
      (try clear hi)
      refine hK.out _ _ trivial (fun hHeld => ?_)
      clear hK K
      refine norm_ (a' := ?_) ?_ ?_
      rotate_left
      ·show Act.put _ (some 12) _ = _
       simp only [Act.put, List.setIfInBounds_toArray, List.set_cons_zero, List.set_cons_succ, i64_w, i32_w]
       rfl
      refine one_ (i := 8) (N := some 18) #[true, true, true, true, true, true, true, true, true, false, false] rfl rfl (one_of HT_.out (by kernel_rfl)) (by decide) (fun K hK => ?_)
      have hcv12 := own_string (P := Try.prog) Try.underlying22 Try.underlying5 Try.underlying9 (Kd.own_of_R HO1211.out)
      refine value_ (w1 := ?_) (v := ?_) rfl rfl ?_ ?_
      rotate_left 2
      ·go_simp
       constructor
       ·rfl
       ·rfl
      clear hcv12
      refine hK.out _ _ trivial (fun hHeld => ?_)
      clear hK K
      refine norm_ (a' := ?_) ?_ ?_
      rotate_left
      ·show Act.put _ (some 18) _ = _
       simp only [Act.put, List.setIfInBounds_toArray, List.set_cons_zero, List.set_cons_succ, i64_w, i32_w]
       rfl
      exact norm_ (by simp only [putAll, Act.put, List.setIfInBounds_toArray, List.set_cons_zero, List.set_cons_succ]) (hCont (v1210) _ ⟨HO1211.out, HB.out⟩)
     ·skip
      have hcv11 := own_string (P := Try.prog) Try.underlying22 Try.underlying5 Try.underlying9 (Kd.own_of_R HO1211.out)
      refine value_ (w1 := ?_) (v := ?_) rfl rfl ?_ ?_
      rotate_left 2
      ·go_simp
       constructor
       ·rfl
       ·rfl
      clear hcv11
      refine hK.out _ _ trivial (fun hHeld => ?_)
      clear hK K
      refine norm_ (a' := ?_) ?_ ?_
      rotate_left
      ·show Act.put _ (some 18) _ = _
       simp only [Act.put, List.setIfInBounds_toArray, List.set_cons_zero, List.set_cons_succ, i64_w, i32_w]
       rfl
      refine one_ (i := 2) (N := some 12) #[true, true, true, true, true, true, true, true, true, false, false] rfl rfl (one_of HT_.out (by kernel_rfl)) (by decide) (fun K hK => ?_)
      refine goes_ Try.func188 (by kernel_rfl) rfl #[.int .u64 (IntKind.u64.wrap (Int.tdiv a0 10))] rfl rfl rfl (by (try simp only [List.map_toArray, List.map_cons, List.map_nil]); rfl) ?_
      with_reducible refine (ih k (by omega) (IntKind.u64.wrap (Int.tdiv a0 10)) t1208 _ A6.out).mono ?_
      rintro e w12 ⟨rfl, hb⟩
      refine ⟨_, rfl, ?_⟩
      have n0_ := Aside0.mk (Kd.R_below HO1211.out hb)
      have n1_ := Aside0.mk (below_step HB.out hb)
      clear HO1211
      clear HB
      have HO1211 := n0_
      have HB := n1_
      clear n0_ n1_
      (try clear hb)
      (try clear hb2)
      (try clear hk)
      (try clear hi)
      refine hK.out _ _ trivial (fun hHeld => ?_)
      clear hK K
      refine norm_ (a' := ?_) ?_ ?_
      rotate_left
      ·show Act.put _ (some 12) _ = _
       simp only [Act.put, List.setIfInBounds_toArray, List.set_cons_zero, List.set_cons_succ, i64_w, i32_w]
       rfl
      exact norm_ (by simp only [putAll, Act.put, List.setIfInBounds_toArray, List.set_cons_zero, List.set_cons_succ]) (hCont (v1210) _ ⟨HO1211.out, HB.out⟩)
   rintro v1210 w13 ⟨h0_, h1_⟩
   have n0_ : Aside0 (Kd.R (Kd.int .u8) 5 w13 w.heap.size (fun _ => True) v1210 y1209) := ⟨h0_⟩
   have n1_ : Aside0 (Below w.heap.size w w13) := ⟨h1_⟩
   clear HB
   clear h0_ h1_
   have HO1211 := n0_
   have HB := n1_
   clear n0_ n1_
   have hHeld := trivial
   refine norm_ (a' := ?_) ?_ ?_
   rotate_left
   ·simp only [putAll, Act.put, List.setIfInBounds_toArray, List.set_cons_zero, List.set_cons_succ]
    rfl
   refine pure_ (i := 9) (N := some 19) (v := ?_) (a' := ?_) #[true, true, true, true, true, true, true, true, true, true, false] rfl rfl (any_of HT_.out (by kernel_rfl)) (fun _ _ _ h => h) (Or.inl ⟨rfl, ?_⟩) ?_ ?_
   rotate_left
   ·intro w'
    go_simp
    with_reducible rfl
   rotate_left
   ·simp only [Act.put, List.setIfInBounds_toArray, List.set_cons_zero, List.set_cons_succ, i64_w, i32_w]
    rfl
   refine pure_ (i := 10) (N := some 2) (v := ?_) (a' := ?_) #[true, true, true, true, true, true, true, true, true, true, true] rfl rfl (any_of HT_.out (by kernel_rfl)) (fun _ _ _ h => h) (Or.inl ⟨rfl, ?_⟩) ?_ ?_
   rotate_left
   ·intro w'
    go_simp
    with_reducible rfl
   rotate_left
   ·simp only [Act.put, List.setIfInBounds_toArray, List.set_cons_zero, List.set_cons_succ, i64_w, i32_w]
    rfl
   refine done_ (done_of HT_.out (by kernel_rfl)) ?_
   try go_wp2
   go_ret
   exact ⟨rfl, HB.out⟩
  ·rw [if_neg c7] at H
   exact absurd H (by simp)

def impl_FormatInt.f (k : Nat) (a0 : Int) : Option (ByteArray) := if a0 < 0 then ((impl_decimal.f k (IntKind.u64.wrap (-(IntKind.u64.wrap (a0))))).bind fun t1212 => (if 1 + t1212.size ≤ 9223372036854775807 then (some ((⟨#[45]⟩ : ByteArray) ++ t1212)) else (none))) else ((impl_decimal.f k (IntKind.u64.wrap (a0))).bind fun t1213 => (some t1213))
theorem impl_FormatInt.calls (k : Nat) (a0 : Int) (r : ByteArray) (w : World) (h : impl_FormatInt.f k a0 = some r) :
  Calls Try.prog 155 #[.int .i64 a0] w fun e w' => e = .returned (.string r) ∧ Below w.heap.size w w' := by
 have HB := Aside0.mk (Below.refl w.heap.size w)
 have H : (if a0 < 0 then ((impl_decimal.f k (IntKind.u64.wrap (-(IntKind.u64.wrap (a0))))).bind fun t1212 => (if 1 + t1212.size ≤ 9223372036854775807 then (some ((⟨#[45]⟩ : ByteArray) ++ t1212)) else (none))) else ((impl_decimal.f k (IntKind.u64.wrap (a0))).bind fun t1213 => (some t1213))) = some r := h
 clear h
 by_cases c2 : a0 < 0
 ·rw [if_pos c2] at H
  have c2b0 : decide (a0 < 0) = true := decide_eq_true c2
  clear c2
  replace H := Option.bind_eq_some_iff.mp H
  obtain ⟨t1212, A30, H⟩ := H
  have A3 := Aside0.mk A30
  clear A30
  by_cases c4 : 1 + t1212.size ≤ 9223372036854775807
  ·rw [if_pos c4] at H
   have c4b0 := eq_true c4
   have c4b1 : decide (1 + t1212.size ≤ 9223372036854775807) = true := decide_eq_true c4
   try have c4b2 : (9223372036854775807 < 1 + t1212.size) = False := eq_false (Nat.not_lt.2 c4)
   obtain rfl := Option.some.inj H
   go_enter Try.func155, Try.ntmps155
   go_wp2_with (((with_reducible refine gate_callee (f := 188) rfl ?_); refine goesL_ (some 8) rfl rfl Try.func188 (by kernel_rfl) rfl #[.int .u64 (IntKind.u64.wrap (-(IntKind.u64.wrap (a0))))] rfl (by (try simp only [List.map_toArray, List.map_cons, List.map_nil]); rfl) ?_; (with_reducible refine (impl_decimal.calls k (IntKind.u64.wrap (-(IntKind.u64.wrap (a0)))) t1212 _ A3.out).mono ?_); rintro e w5 ⟨rfl, hb⟩; refine ⟨_, rfl, ?_⟩; have n0_ := Aside0.mk (below_step HB.out hb); clear HB; have HB := n0_; clear n0_; (try clear hb)))
   go_ret
   exact ⟨rfl, HB.out⟩
  ·rw [if_neg c4] at H
   exact absurd H (by simp)
 ·rw [if_neg c2] at H
  have c2b0 : decide (a0 < 0) = false := decide_eq_false c2
  clear c2
  replace H := Option.bind_eq_some_iff.mp H
  obtain ⟨t1213, A60, H⟩ := H
  have A6 := Aside0.mk A60
  clear A60
  obtain rfl := Option.some.inj H
  go_enter Try.func155, Try.ntmps155
  go_wp2_with (((with_reducible refine gate_callee (f := 188) rfl ?_); refine goesL_ (some 12) rfl rfl Try.func188 (by kernel_rfl) rfl #[.int .u64 (IntKind.u64.wrap (a0))] rfl (by (try simp only [List.map_toArray, List.map_cons, List.map_nil]); rfl) ?_; (with_reducible refine (impl_decimal.calls k (IntKind.u64.wrap (a0)) t1213 _ A6.out).mono ?_); rintro e w7 ⟨rfl, hb⟩; refine ⟨_, rfl, ?_⟩; have n0_ := Aside0.mk (below_step HB.out hb); clear HB; have HB := n0_; clear n0_; (try clear hb)))
  go_ret
  exact ⟨rfl, HB.out⟩

def impl_FormatRow.f (k : Nat) (a0_0 : Int) (a0_1 : Int) (a0_2 : Int) : Option (ByteArray) := (impl_IsValidRow.f a0_0 a0_1 a0_2).bind fun t1215 => (if t1215 = true then ((impl_FormatInt.f k a0_0).bind fun t1216 => (if t1216.size + 1 ≤ 9223372036854775807 then ((impl_FormatInt.f k a0_1).bind fun t1217 => (if (t1216 ++ (⟨#[46]⟩ : ByteArray)).size + t1217.size ≤ 9223372036854775807 then (if ((t1216 ++ (⟨#[46]⟩ : ByteArray)) ++ t1217).size + 1 ≤ 9223372036854775807 then ((impl_FormatInt.f k a0_2).bind fun t1218 => (if (((t1216 ++ (⟨#[46]⟩ : ByteArray)) ++ t1217) ++ (⟨#[46]⟩ : ByteArray)).size + t1218.size ≤ 9223372036854775807 then (some ((((t1216 ++ (⟨#[46]⟩ : ByteArray)) ++ t1217) ++ (⟨#[46]⟩ : ByteArray)) ++ t1218)) else (none))) else (none)) else (none))) else (none))) else (some (⟨#[]⟩ : ByteArray)))
def impl_FormatRow.T3 : Bool × List (List Nat × List Nat) := (true, [([], []), ([0], [0]), ([1], [1]), ([2], [2]), ([], []), ([4], [4]), ([5, 2], [5]), ([3, 6], [3, 6]), ([7], [7]), ([], []), ([9], [9]), ([10, 6], [10]), ([8, 11], [8, 11]), ([12, 11, 0, 1, 2, 3, 4, 5, 6, 7, 8, 9, 10, 11, 12], [12])])
def impl_FormatRow.B3 : List Nat := [0, 1, 3, 7, 0, 16, 55, 127, 255, 0, 512, 1655, 4095, 8191]
theorem impl_FormatRow.tab3 : rtab .any (opsOf Try.f199 3) = impl_FormatRow.T3 := by kernel_rfl
theorem impl_FormatRow.bits3 : waitsOk impl_FormatRow.T3.2 impl_FormatRow.B3 = true := by kernel_rfl
theorem impl_FormatRow.calls (k : Nat) (a0_0 : Int) (a0_1 : Int) (a0_2 : Int) (r : ByteArray) (w : World) (h : impl_FormatRow.f k a0_0 a0_1 a0_2 = some r) :
  Calls Try.prog 199 #[.agg #[.int .i64 a0_0, .int .i64 a0_1, .int .i64 a0_2]] w fun e w' => e = .returned (.string r) ∧ Below w.heap.size w w' := by
 have hu60 := Try.underlying60
 have HB := Aside0.mk (Below.refl w.heap.size w)
 have H : ((impl_IsValidRow.f a0_0 a0_1 a0_2).bind fun t1215 => (if t1215 = true then ((impl_FormatInt.f k a0_0).bind fun t1216 => (if t1216.size + 1 ≤ 9223372036854775807 then ((impl_FormatInt.f k a0_1).bind fun t1217 => (if (t1216 ++ (⟨#[46]⟩ : ByteArray)).size + t1217.size ≤ 9223372036854775807 then (if ((t1216 ++ (⟨#[46]⟩ : ByteArray)) ++ t1217).size + 1 ≤ 9223372036854775807 then ((impl_FormatInt.f k a0_2).bind fun t1218 => (if (((t1216 ++ (⟨#[46]⟩ : ByteArray)) ++ t1217) ++ (⟨#[46]⟩ : ByteArray)).size + t1218.size ≤ 9223372036854775807 then (some ((((t1216 ++ (⟨#[46]⟩ : ByteArray)) ++ t1217) ++ (⟨#[46]⟩ : ByteArray)) ++ t1218)) else (none))) else (none)) else (none))) else (none))) else (some (⟨#[]⟩ : ByteArray)))) = some r := h
 clear h
 replace H := Option.bind_eq_some_iff.mp H
 obtain ⟨t1215, A20, H⟩ := H
 have A2 := Aside0.mk A20
 clear A20
 by_cases c3 : t1215 = true
 ·subst c3
  rw [if_pos rfl] at H
  replace H := Option.bind_eq_some_iff.mp H
  obtain ⟨t1216, A40, H⟩ := H
  have A4 := Aside0.mk A40
  clear A40
  by_cases c5 : t1216.size + 1 ≤ 9223372036854775807
  ·rw [if_pos c5] at H
   have c5b0 := eq_true c5
   have c5b1 : decide (t1216.size + 1 ≤ 9223372036854775807) = true := decide_eq_true c5
   try have c5b2 : (9223372036854775807 < t1216.size + 1) = False := eq_false (Nat.not_lt.2 c5)
   replace H := Option.bind_eq_some_iff.mp H
   obtain ⟨t1217, A60, H⟩ := H
   have A6 := Aside0.mk A60
   clear A60
   by_cases c7 : (t1216 ++ (⟨#[46]⟩ : ByteArray)).size + t1217.size ≤ 9223372036854775807
   ·rw [if_pos c7] at H
    have c7b0 := eq_true c7
    have c7b1 : decide ((t1216 ++ (⟨#[46]⟩ : ByteArray)).size + t1217.size ≤ 9223372036854775807) = true := decide_eq_true c7
    try have c7b3 : (9223372036854775807 < t1216.size + 1 + t1217.size) = False := eq_false (by have h_ := c7; simp only [ByteArray.size_append] at h_; (exact Nat.not_lt.2 h_))
    try have c7b2 : (9223372036854775807 < (t1216 ++ (⟨#[46]⟩ : ByteArray)).size + t1217.size) = False := eq_false (Nat.not_lt.2 c7)
    by_cases c8 : ((t1216 ++ (⟨#[46]⟩ : ByteArray)) ++ t1217).size + 1 ≤ 9223372036854775807
    ·rw [if_pos c8] at H
     have c8b0 := eq_true c8
     have c8b1 : decide (((t1216 ++ (⟨#[46]⟩ : ByteArray)) ++ t1217).size + 1 ≤ 9223372036854775807) = true := decide_eq_true c8
     try have c8b3 : (9223372036854775807 < t1216.size + 1 + t1217.size + 1) = False := eq_false (by have h_ := c8; simp only [ByteArray.size_append] at h_; (exact Nat.not_lt.2 h_))
     try have c8b2 : (9223372036854775807 < ((t1216 ++ (⟨#[46]⟩ : ByteArray)) ++ t1217).size + 1) = False := eq_false (Nat.not_lt.2 c8)
     replace H := Option.bind_eq_some_iff.mp H
     obtain ⟨t1218, A90, H⟩ := H
     have A9 := Aside0.mk A90
     clear A90
     by_cases c10 : (((t1216 ++ (⟨#[46]⟩ : ByteArray)) ++ t1217) ++ (⟨#[46]⟩ : ByteArray)).size + t1218.size ≤ 9223372036854775807
     ·rw [if_pos c10] at H
      have c10b0 := eq_true c10
      have c10b1 : decide ((((t1216 ++ (⟨#[46]⟩ : ByteArray)) ++ t1217) ++ (⟨#[46]⟩ : ByteArray)).size + t1218.size ≤ 9223372036854775807) = true := decide_eq_true c10
      try have c10b3 : (9223372036854775807 < t1216.size + 1 + t1217.size + 1 + t1218.size) = False := eq_false (by have h_ := c10; simp only [ByteArray.size_append] at h_; (exact Nat.not_lt.2 h_))
      try have c10b2 : (9223372036854775807 < (((t1216 ++ (⟨#[46]⟩ : ByteArray)) ++ t1217) ++ (⟨#[46]⟩ : ByteArray)).size + t1218.size) = False := eq_false (Nat.not_lt.2 c10)
      obtain rfl := Option.some.inj H
      go_enter Try.func199, Try.ntmps199
      try go_wp2_with (first | ((with_reducible refine gate_dst (N := 1) rfl ?_); refine box_event ?hg (N := 1) ?hd (cs := #[.int .i64 a0_0, .int .i64 a0_1, .int .i64 a0_2]) (t := 60) ?hr ?_; (case hd => rfl); (case hg => rfl); (case hr => (go_simp; done)); intro gb1214 hg w11 hbox hb; have n0_ := Aside0.mk (below_step HB.out hb); have n1_ := Aside0.mk (hbox); have n2_ := Aside0.mk ((by rw [hg]; exact (below_size HB.out) : w.heap.size ≤ gb1214)); have n3_ := Aside0.mk ((by rw [hg]; exact (below_size HB.out) : w.heap.size ≤ gb1214)); clear HB; have HB := n0_; have BK1214 := n1_; have GW1214 := n2_; have GE1214 := n3_; clear n0_ n1_ n2_ n3_; clear hb hbox hg; have hcz12_0 : w11.cell? ⟨gb1214, 0, none⟩ = some (.int .i64 a0_0) := (blk_cell BK1214.out 0).trans rfl; have hcz12_1 : w11.cell? ⟨gb1214, 1, none⟩ = some (.int .i64 a0_1) := (blk_cell BK1214.out 1).trans rfl; have hcz12_2 : w11.cell? ⟨gb1214, 2, none⟩ = some (.int .i64 a0_2) := (blk_cell BK1214.out 2).trans rfl; have hfz12_0 := blk_frozen BK1214.out 0; have hfz12_1 := blk_frozen BK1214.out 1; have hfz12_2 := blk_frozen BK1214.out 2) | ((with_reducible refine gate_callee (f := 196) rfl ?_); refine goesL_ (some 4) rfl rfl Try.func196 (by kernel_rfl) rfl #[.agg #[.int .i64 a0_0, .int .i64 a0_1, .int .i64 a0_2]] rfl (by (try simp only [List.map_toArray, List.map_cons, List.map_nil]); rfl) ?_; (with_reducible refine (impl_IsValidRow.calls a0_0 a0_1 a0_2 true _ A2.out).mono ?_); rintro e w13 ⟨rfl, hb⟩; refine ⟨_, rfl, ?_⟩; have n0_ := Aside0.mk (blk_below (g := gb1214) (o := .cells #[.int .i64 a0_0, .int .i64 a0_1, .int .i64 a0_2] 60 (0, 0)) BK1214.out hb); have n1_ := Aside0.mk (below_step HB.out hb); clear BK1214; clear HB; have BK1214 := n0_; have HB := n1_; clear n0_ n1_; (try clear hb)))
      have n0_ := Aside0.mk (blk_drew BK1214.out)
      have n1_ := Aside0.mk (below_drew1 HB.out)
      clear BK1214
      clear HB
      have BK1214 := n0_
      have HB := n1_
      clear n0_ n1_
      refine start_ (n := 14) (S := fun w' => w'.cell? ⟨gb1214, 0, none⟩ = some (.int .i64 a0_0) ∧ w'.cell? ⟨gb1214, 1, none⟩ = some (.int .i64 a0_1) ∧ w'.cell? ⟨gb1214, 2, none⟩ = some (.int .i64 a0_2)) (ds := []) #[false, false, false, false, false, false, false, false, false, false, false, false, false, false] (by kernel_rfl) rfl rfl ⟨(blk_cell BK1214.out 0).trans rfl, (blk_cell BK1214.out 1).trans rfl, (blk_cell BK1214.out 2).trans rfl⟩ (fun hHeld => ?_); refine with_tabW impl_FormatRow.tab3 impl_FormatRow.bits3 (fun HT_ HW_ => ?_)
      generalize w13.drew = w14 at BK1214 HB hHeld ⊢
      refine pure_ (i := 0) (N := some 6) (v := ?_) (a' := ?_) #[true, false, false, false, false, false, false, false, false, false, false, false, false, false] rfl rfl (any_of HT_.out (by kernel_rfl)) (fun _ _ _ h => h) (Or.inl ⟨rfl, ?_⟩) ?_ ?_
      rotate_left
      ·intro w'
       go_simp
       with_reducible rfl
      rotate_left
      ·simp only [Act.put, List.setIfInBounds_toArray, List.set_cons_zero, List.set_cons_succ, i64_w, i32_w]
       rfl
      refine pure_ (i := 4) (N := some 10) (v := ?_) (a' := ?_) #[true, false, false, false, true, false, false, false, false, false, false, false, false, false] rfl rfl (any_of HT_.out (by kernel_rfl)) (fun _ _ _ h => h) (Or.inl ⟨rfl, ?_⟩) ?_ ?_
      rotate_left
      ·intro w'
       go_simp
       with_reducible rfl
      rotate_left
      ·simp only [Act.put, List.setIfInBounds_toArray, List.set_cons_zero, List.set_cons_succ, i64_w, i32_w]
       rfl
      refine pure_ (i := 9) (N := some 15) (v := ?_) (a' := ?_) #[true, false, false, false, true, false, false, false, false, true, false, false, false, false] rfl rfl (any_of HT_.out (by kernel_rfl)) (fun _ _ _ h => h) (Or.inl ⟨rfl, ?_⟩) ?_ ?_
      rotate_left
      ·intro w'
       go_simp
       with_reducible rfl
      rotate_left
      ·simp only [Act.put, List.setIfInBounds_toArray, List.set_cons_zero, List.set_cons_succ, i64_w, i32_w]
       rfl
      refine take_ (i := 1) (N := some 7) (v := ?_) (a' := ?_) #[true, true, false, false, true, false, false, false, false, true, false, false, false, false] rfl rfl (take_ofW HT_.out HW_.out (by kernel_rfl)) (fun _ _ _ h => h) (Or.inl ⟨rfl, ?_⟩) hHeld ?_ ?_
      rotate_left
      ·rintro w' ⟨s0, s1, s2⟩
       go_simp
       with_reducible rfl
      rotate_left
      ·simp only [Act.put, List.setIfInBounds_toArray, List.set_cons_zero, List.set_cons_succ, i64_w, i32_w]
       rfl
      refine take_ (i := 5) (N := some 11) (v := ?_) (a' := ?_) #[true, true, false, false, true, true, false, false, false, true, false, false, false, false] rfl rfl (take_ofW HT_.out HW_.out (by kernel_rfl)) (fun _ _ _ h => h) (Or.inl ⟨rfl, ?_⟩) hHeld ?_ ?_
      rotate_left
      ·rintro w' ⟨s0, s1, s2⟩
       go_simp
       with_reducible rfl
      rotate_left
      ·simp only [Act.put, List.setIfInBounds_toArray, List.set_cons_zero, List.set_cons_succ, i64_w, i32_w]
       rfl
      refine take_ (i := 10) (N := some 16) (v := ?_) (a' := ?_) #[true, true, false, false, true, true, false, false, false, true, true, false, false, false] rfl rfl (take_ofW HT_.out HW_.out (by kernel_rfl)) (fun _ _ _ h => h) (Or.inl ⟨rfl, ?_⟩) hHeld ?_ ?_
      rotate_left
      ·rintro w' ⟨s0, s1, s2⟩
       go_simp
       with_reducible rfl
      rotate_left
      ·simp only [Act.put, List.setIfInBounds_toArray, List.set_cons_zero, List.set_cons_succ, i64_w, i32_w]
       rfl
      refine one_ (i := 2) (N := some 8) #[true, true, true, false, true, true, false, false, false, true, true, false, false, false] rfl rfl (one_of HT_.out (by kernel_rfl)) (by decide) (fun K hK => ?_)
      refine goes_ Try.func155 (by kernel_rfl) rfl #[.int .i64 a0_0] rfl rfl rfl (by (try simp only [List.map_toArray, List.map_cons, List.map_nil]); rfl) ?_
      with_reducible refine (impl_FormatInt.calls k a0_0 t1216 _ A4.out).mono ?_
      rintro e w15 ⟨rfl, hb⟩
      refine ⟨_, rfl, ?_⟩
      have n0_ := Aside0.mk (blk_below (g := gb1214) (o := .cells #[.int .i64 a0_0, .int .i64 a0_1, .int .i64 a0_2] 60 (0, 0)) BK1214.out hb)
      have n1_ := Aside0.mk (below_step HB.out hb)
      clear BK1214
      clear HB
      have BK1214 := n0_
      have HB := n1_
      clear n0_ n1_
      (try clear hb)
      (try clear hb2)
      (try clear hk)
      (try clear hi)
      refine hK.out _ _ ⟨(blk_cell BK1214.out 0).trans rfl, (blk_cell BK1214.out 1).trans rfl, (blk_cell BK1214.out 2).trans rfl⟩ (fun hHeld => ?_)
      clear hK K
      refine norm_ (a' := ?_) ?_ ?_
      rotate_left
      ·show Act.put _ (some 8) _ = _
       simp only [Act.put, List.setIfInBounds_toArray, List.set_cons_zero, List.set_cons_succ, i64_w, i32_w]
       rfl
      refine pure_ (i := 3) (N := some 9) (v := ?_) (a' := ?_) #[true, true, true, true, true, true, false, false, false, true, true, false, false, false] rfl rfl (any_of HT_.out (by kernel_rfl)) (fun _ _ _ h => h) (Or.inl ⟨rfl, ?_⟩) ?_ ?_
      rotate_left
      ·intro w'
       go_simp
       with_reducible rfl
      rotate_left
      ·simp only [Act.put, List.setIfInBounds_toArray, List.set_cons_zero, List.set_cons_succ, i64_w, i32_w]
       rfl
      refine one_ (i := 6) (N := some 12) #[true, true, true, true, true, true, true, false, false, true, true, false, false, false] rfl rfl (one_of HT_.out (by kernel_rfl)) (by decide) (fun K hK => ?_)
      refine goes_ Try.func155 (by kernel_rfl) rfl #[.int .i64 a0_1] rfl rfl rfl (by (try simp only [List.map_toArray, List.map_cons, List.map_nil]); rfl) ?_
      with_reducible refine (impl_FormatInt.calls k a0_1 t1217 _ A6.out).mono ?_
      rintro e w16 ⟨rfl, hb⟩
      refine ⟨_, rfl, ?_⟩
      have n0_ := Aside0.mk (blk_below (g := gb1214) (o := .cells #[.int .i64 a0_0, .int .i64 a0_1, .int .i64 a0_2] 60 (0, 0)) BK1214.out hb)
      have n1_ := Aside0.mk (below_step HB.out hb)
      clear BK1214
      clear HB
      have BK1214 := n0_
      have HB := n1_
      clear n0_ n1_
      (try clear hb)
      (try clear hb2)
      (try clear hk)
      (try clear hi)
      refine hK.out _ _ ⟨(blk_cell BK1214.out 0).trans rfl, (blk_cell BK1214.out 1).trans rfl, (blk_cell BK1214.out 2).trans rfl⟩ (fun hHeld => ?_)
      clear hK K
      refine norm_ (a' := ?_) ?_ ?_
      rotate_left
      ·show Act.put _ (some 12) _ = _
       simp only [Act.put, List.setIfInBounds_toArray, List.set_cons_zero, List.set_cons_succ, i64_w, i32_w]
       rfl
      refine pure_ (i := 7) (N := some 13) (v := ?_) (a' := ?_) #[true, true, true, true, true, true, true, true, false, true, true, false, false, false] rfl rfl (any_of HT_.out (by kernel_rfl)) (fun _ _ _ h => h) (Or.inl ⟨rfl, ?_⟩) ?_ ?_
      rotate_left
      ·intro w'
       go_simp
       with_reducible rfl
      rotate_left
      ·simp only [Act.put, List.setIfInBounds_toArray, List.set_cons_zero, List.set_cons_succ, i64_w, i32_w]
       rfl
      refine pure_ (i := 8) (N := some 14) (v := ?_) (a' := ?_) #[true, true, true, true, true, true, true, true, true, true, true, false, false, false] rfl rfl (any_of HT_.out (by kernel_rfl)) (fun _ _ _ h => h) (Or.inl ⟨rfl, ?_⟩) ?_ ?_
      rotate_left
      ·intro w'
       go_simp
       with_reducible rfl
      rotate_left
      ·simp only [Act.put, List.setIfInBounds_toArray, List.set_cons_zero, List.set_cons_succ, i64_w, i32_w]
       rfl
      refine one_ (i := 11) (N := some 17) #[true, true, true, true, true, true, true, true, true, true, true, true, false, false] rfl rfl (one_of HT_.out (by kernel_rfl)) (by decide) (fun K hK => ?_)
      refine goes_ Try.func155 (by kernel_rfl) rfl #[.int .i64 a0_2] rfl rfl rfl (by (try simp only [List.map_toArray, List.map_cons, List.map_nil]); rfl) ?_
      with_reducible refine (impl_FormatInt.calls k a0_2 t1218 _ A9.out).mono ?_
      rintro e w17 ⟨rfl, hb⟩
      refine ⟨_, rfl, ?_⟩
      have n0_ := Aside0.mk (blk_below (g := gb1214) (o := .cells #[.int .i64 a0_0, .int .i64 a0_1, .int .i64 a0_2] 60 (0, 0)) BK1214.out hb)
      have n1_ := Aside0.mk (below_step HB.out hb)
      clear BK1214
      clear HB
      have BK1214 := n0_
      have HB := n1_
      clear n0_ n1_
      (try clear hb)
      (try clear hb2)
      (try clear hk)
      (try clear hi)
      refine hK.out _ _ ⟨(blk_cell BK1214.out 0).trans rfl, (blk_cell BK1214.out 1).trans rfl, (blk_cell BK1214.out 2).trans rfl⟩ (fun hHeld => ?_)
      clear hK K
      refine norm_ (a' := ?_) ?_ ?_
      rotate_left
      ·show Act.put _ (some 17) _ = _
       simp only [Act.put, List.setIfInBounds_toArray, List.set_cons_zero, List.set_cons_succ, i64_w, i32_w]
       rfl
      refine pure_ (i := 12) (N := some 18) (v := ?_) (a' := ?_) #[true, true, true, true, true, true, true, true, true, true, true, true, true, false] rfl rfl (any_of HT_.out (by kernel_rfl)) (fun _ _ _ h => h) (Or.inl ⟨rfl, ?_⟩) ?_ ?_
      rotate_left
      ·intro w'
       go_simp
       with_reducible rfl
      rotate_left
      ·simp only [Act.put, List.setIfInBounds_toArray, List.set_cons_zero, List.set_cons_succ, i64_w, i32_w]
       rfl
      refine pure_ (i := 13) (N := some 2) (v := ?_) (a' := ?_) #[true, true, true, true, true, true, true, true, true, true, true, true, true, true] rfl rfl (any_of HT_.out (by kernel_rfl)) (fun _ _ _ h => h) (Or.inl ⟨rfl, ?_⟩) ?_ ?_
      rotate_left
      ·intro w'
       go_simp
       with_reducible rfl
      rotate_left
      ·simp only [Act.put, List.setIfInBounds_toArray, List.set_cons_zero, List.set_cons_succ, i64_w, i32_w]
       rfl
      refine done_ (done_of HT_.out (by kernel_rfl)) ?_
      try go_wp2
      go_ret
      exact ⟨rfl, HB.out⟩
     ·rw [if_neg c10] at H
      exact absurd H (by simp)
    ·rw [if_neg c8] at H
     exact absurd H (by simp)
   ·rw [if_neg c7] at H
    exact absurd H (by simp)
  ·rw [if_neg c5] at H
   exact absurd H (by simp)
 ·replace c3 := Bool.eq_false_iff.mpr c3
  subst c3
  rw [if_neg (show ¬ (false = true) by decide)] at H
  obtain rfl := Option.some.inj H
  go_enter Try.func199, Try.ntmps199
  go_wp2_with (first | ((with_reducible refine gate_dst (N := 1) rfl ?_); refine box_event ?hg (N := 1) ?hd (cs := #[.int .i64 a0_0, .int .i64 a0_1, .int .i64 a0_2]) (t := 60) ?hr ?_; (case hd => rfl); (case hg => rfl); (case hr => (go_simp; done)); intro gb1214 hg w18 hbox hb; have n0_ := Aside0.mk (below_step HB.out hb); have n1_ := Aside0.mk (hbox); have n2_ := Aside0.mk ((by rw [hg]; exact (below_size HB.out) : w.heap.size ≤ gb1214)); have n3_ := Aside0.mk ((by rw [hg]; exact (below_size HB.out) : w.heap.size ≤ gb1214)); clear HB; have HB := n0_; have BK1214 := n1_; have GW1214 := n2_; have GE1214 := n3_; clear n0_ n1_ n2_ n3_; clear hb hbox hg; have hcz19_0 : w18.cell? ⟨gb1214, 0, none⟩ = some (.int .i64 a0_0) := (blk_cell BK1214.out 0).trans rfl; have hcz19_1 : w18.cell? ⟨gb1214, 1, none⟩ = some (.int .i64 a0_1) := (blk_cell BK1214.out 1).trans rfl; have hcz19_2 : w18.cell? ⟨gb1214, 2, none⟩ = some (.int .i64 a0_2) := (blk_cell BK1214.out 2).trans rfl; have hfz19_0 := blk_frozen BK1214.out 0; have hfz19_1 := blk_frozen BK1214.out 1; have hfz19_2 := blk_frozen BK1214.out 2) | ((with_reducible refine gate_callee (f := 196) rfl ?_); refine goesL_ (some 4) rfl rfl Try.func196 (by kernel_rfl) rfl #[.agg #[.int .i64 a0_0, .int .i64 a0_1, .int .i64 a0_2]] rfl (by (try simp only [List.map_toArray, List.map_cons, List.map_nil]); rfl) ?_; (with_reducible refine (impl_IsValidRow.calls a0_0 a0_1 a0_2 false _ A2.out).mono ?_); rintro e w20 ⟨rfl, hb⟩; refine ⟨_, rfl, ?_⟩; have n0_ := Aside0.mk (blk_below (g := gb1214) (o := .cells #[.int .i64 a0_0, .int .i64 a0_1, .int .i64 a0_2] 60 (0, 0)) BK1214.out hb); have n1_ := Aside0.mk (below_step HB.out hb); clear BK1214; clear HB; have BK1214 := n0_; have HB := n1_; clear n0_ n1_; (try clear hb)))
  go_ret
  exact ⟨rfl, HB.out⟩

def impl_rowTexts.l0 : Nat → List ByteArray → List (S60) → Int → Int → Option (ByteArray)
 | 0, _, _, _, _ => none
 | k + 1, x3, x7, x8, x9 => if x9 < x8 then (if 0 ≤ x9 then (if x9 < (x7.length : Int) then ((impl_FormatRow.f k ((rd_T60 x7 x9).f0) ((rd_T60 x7 x9).f1) ((rd_T60 x7 x9).f2)).bind fun t1224 => (if x3.length < 8796093022208 then (impl_rowTexts.l0 k (x3 ++ [t1224]) x7 x8 (wrap64 (x9 + 1))) else (none))) else (none)) else (none)) else ((impl_joined.f k x3 (⟨#[32]⟩ : ByteArray)).bind fun t1228 => (some t1228))
def impl_rowTexts.f (k : Nat) (l0 : List (S60)) : Option (ByteArray) := impl_rowTexts.l0 k ([] : List ByteArray) l0 (l0.length : Int) 0
theorem impl_rowTexts.calls (k : Nat) (A0 : Option Addr) (c0 : Nat) (l0 : List (S60)) (r : ByteArray) (w : World) (hr0 : Kd.C k60 w A0 l0.length l0) (hc0 : l0.length ≤ c0) (h : impl_rowTexts.f k l0 = some r) :
  Calls Try.prog 189 #[.slice A0 l0.length c0] w fun e w' => e = .returned (.string r) ∧ Below w.heap.size w w' := by
 have hu60 := Try.underlying60
 have HR0 := Aside0.mk hr0
 have HC0 := Aside0.mk hc0
 clear hr0 hc0
 have HB := Aside0.mk (Below.refl w.heap.size w)
 have H : (impl_rowTexts.l0 k ([] : List ByteArray) l0 (l0.length : Int) 0) = some r := h
 clear h
 obtain ⟨y1219, hy1219⟩ : ∃ y_ : List ByteArray, y_ = ([] : List ByteArray) := ⟨_, rfl⟩
 replace H : (impl_rowTexts.l0 k y1219 l0 (l0.length : Int) 0) = some r := by (rw [hy1219]; with_reducible exact H)
 have Ny1219 := Aside0.mk hy1219
 clear hy1219
 have H' := Aside0.mk H
 clear H
 go_enter Try.func189, Try.ntmps189
 go_wp2_with (((with_reducible refine gate_dst (N := 6) rfl ?_); refine Kd.R_lit Kd.string _ 9 ?hg (N := 6) ?hd (xs := ([] : List ByteArray)) (inner := []) (ok := fun _ => True) (okp := fun _ => True) ?hr ?hp (fun _ hk => hk) trivial (Below.refl _ _) (Nat.le_refl _) (by simp) ?_; (case hd => rfl); (case hg => rfl); (case hr => (go_simp; done)); (case hp => exact (Reps.none _ _)); intro v1220 w2 ho3 hb hg_ hnew_; clear hg_ hnew_; (rw [← Ny1219.out] at ho3); have n0_ := Aside0.mk (Kd.R_lower ho3 (below_size HB.out)); have n1_ := Aside0.mk (below_step HB.out hb); clear HB; have HO1221 := n0_; have HB := n1_; clear n0_ n1_; clear hb ho3))
 go_loopg [3, 9] k (fun kq v3 v9 w' => ∃ (x3_1 : List ByteArray) (x9_1 : Int), v9 = .int .i64 x9_1 ∧ Aside0 (impl_rowTexts.l0 kq x3_1 l0 (l0.length : Int) x9_1 = some r) ∧ Aside0 (kq ≤ k) ∧ Aside0 (Kd.R Kd.string 9 w' w.heap.size (fun _ => True) v3 x3_1) ∧ Aside0 (Below w.heap.size w w'))
 case atStart => exact ⟨(y1219), (0), rfl, H', ⟨Nat.le_refl _⟩, ⟨HO1221.out⟩, ⟨HB.out⟩⟩
 case round =>
  clear H'
  obtain ⟨x3_1, x9_1, rfl, HA, HK1, HO_3, HB⟩ := hrel
  cases gk with
  | zero => exact absurd HA.out (by simp [impl_rowTexts.l0])
  | succ k1 =>
   have H := HA.out
   clear HA
   simp only [impl_rowTexts.l0] at H
   by_cases c4 : x9_1 < (l0.length : Int)
   ·rw [if_pos c4] at H
    have c4b0 : decide (x9_1 < (l0.length : Int)) = true := decide_eq_true c4
    clear c4
    by_cases c5 : 0 ≤ x9_1
    ·rw [if_pos c5] at H
     have c5b0 : decide (0 ≤ x9_1) = true := decide_eq_true c5
     clear c5
     by_cases c6 : x9_1 < (l0.length : Int)
     ·rw [if_pos c6] at H
      have c6b0 : decide (x9_1 < (l0.length : Int)) = true := decide_eq_true c6
      clear c6
      replace H := Option.bind_eq_some_iff.mp H
      obtain ⟨t1224, A70, H⟩ := H
      have A7 := Aside0.mk A70
      clear A70
      by_cases c8 : x3_1.length < 8796093022208
      ·rw [if_pos c8] at H
       have LMc8 := Aside0.mk c8
       clear c8
       obtain ⟨y1225, hy1225⟩ : ∃ y_ : List ByteArray, y_ = (x3_1 ++ [t1224]) := ⟨_, rfl⟩
       replace H : (impl_rowTexts.l0 k1 y1225 l0 (l0.length : Int) (wrap64 (x9_1 + 1))) = some r := by (rw [hy1225]; with_reducible exact H)
       have Ny1225 := Aside0.mk hy1225
       clear hy1225
       have H' := Aside0.mk H
       clear H
       have p1222 : 0 ≤ (x9_1 : Int) := of_decide_eq_true (by (with_reducible assumption))
       have q1222 : x9_1 < (l0.length : Int) := of_decide_eq_true (by (with_reducible assumption))
       obtain ⟨ad1222, e1222, hx1222_0, hx1222_1, hx1222_2⟩ := at_T60 HR0.out x9_1 p1222 q1222
       cases e1222
       replace hx1222_0 := (HB.out.cell (World.block_lt_of_cell? w _ hx1222_0)).trans hx1222_0
       replace hx1222_1 := (HB.out.cell (World.block_lt_of_cell? w _ hx1222_1)).trans hx1222_1
       replace hx1222_2 := (HB.out.cell (World.block_lt_of_cell? w _ hx1222_2)).trans hx1222_2
       replace p1222 := eq_true p1222
       replace q1222 := eq_true q1222
       go_wp2_with (first | ((with_reducible refine gate_dst (N := 5) rfl ?_); refine box_event ?hg (N := 5) ?hd (cs := #[.int .i64 0, .int .i64 0, .int .i64 0]) (t := 60) ?hr ?_; (case hd => rfl); (case hg => rfl); (case hr => (go_simp; done)); intro gb1223 hg w9 hbox hb; have n0_ := Aside0.mk (Kd.R_below HO_3.out hb); have n1_ := Aside0.mk (below_step HB.out hb); have n2_ := Aside0.mk (hbox); have n3_ := Aside0.mk ((by rw [hg]; exact (below_size HB.out) : w.heap.size ≤ gb1223)); have n4_ := Aside0.mk ((by rw [hg]; exact (below_size HB.out) : w.heap.size ≤ gb1223)); clear HO_3; clear HB; have HO_3 := n0_; have HB := n1_; have BK1223 := n2_; have GW1223 := n3_; have GE1223 := n4_; clear n0_ n1_ n2_ n3_ n4_; clear hb hbox hg; have hcz10_0 : w9.cell? ⟨gb1223, 0, none⟩ = some (.int .i64 0) := (blk_cell BK1223.out 0).trans rfl; have hcz10_1 : w9.cell? ⟨gb1223, 1, none⟩ = some (.int .i64 0) := (blk_cell BK1223.out 1).trans rfl; have hcz10_2 : w9.cell? ⟨gb1223, 2, none⟩ = some (.int .i64 0) := (blk_cell BK1223.out 2).trans rfl; have hfz10_0 := blk_frozen BK1223.out 0; have hfz10_1 := blk_frozen BK1223.out 1; have hfz10_2 := blk_frozen BK1223.out 2) | ((with_reducible refine gate_callee (f := 199) rfl ?_); refine goesL_ (some 15) rfl rfl Try.func199 (by kernel_rfl) rfl #[.agg #[.int .i64 ((rd_T60 l0 x9_1).f0), .int .i64 ((rd_T60 l0 x9_1).f1), .int .i64 ((rd_T60 l0 x9_1).f2)]] rfl (by (try simp only [List.map_toArray, List.map_cons, List.map_nil]); rfl) ?_; (with_reducible refine (impl_FormatRow.calls k1 ((rd_T60 l0 x9_1).f0) ((rd_T60 l0 x9_1).f1) ((rd_T60 l0 x9_1).f2) t1224 _ A7.out).mono ?_); rintro e w11 ⟨rfl, hb⟩; refine ⟨_, rfl, ?_⟩; have n0_ := Aside0.mk (Kd.R_below (by exact (Kd.R_mono (Kd.R_far (p := ⟨gb1223, 2, none⟩) (Kd.R_far (p := ⟨gb1223, 1, none⟩) (Kd.R_far (p := ⟨gb1223, 0, none⟩) (Kd.R_types HO_3.out BK1223.out (by decide)) (fun _ hk => hk.2) (.int .i64 ((rd_T60 l0 x9_1).f0))) (fun _ hk => hk.2) (.int .i64 ((rd_T60 l0 x9_1).f1))) (fun _ hk => hk.2) (.int .i64 ((rd_T60 l0 x9_1).f2))) (fun _ h_ => h_.1))) hb); have n1_ := Aside0.mk (blk_below (g := gb1223) (o := .cells #[.int .i64 ((rd_T60 l0 x9_1).f0), .int .i64 ((rd_T60 l0 x9_1).f1), .int .i64 ((rd_T60 l0 x9_1).f2)] 60 (0, 0)) (by refine blk_put (cs := #[.int .i64 ((rd_T60 l0 x9_1).f0), .int .i64 ((rd_T60 l0 x9_1).f1), .int .i64 0]) ?_ 2 _ rfl; refine blk_put (cs := #[.int .i64 ((rd_T60 l0 x9_1).f0), .int .i64 0, .int .i64 0]) ?_ 1 _ rfl; refine blk_put (cs := #[.int .i64 0, .int .i64 0, .int .i64 0]) ?_ 0 _ rfl; exact BK1223.out) hb); have n2_ := Aside0.mk (below_step (by repeat (with_reducible first | exact HB.out | refine below_set ?_ GE1223.out)) hb); clear HO_3; clear BK1223; clear HB; have HO_3 := n0_; have BK1223 := n1_; have HB := n2_; clear n0_ n1_ n2_; (try clear hb)) | ((with_reducible refine gate_builtin (b := .append) (xs := #[.tmp 13, .tmp 16]) rfl ?_); at_builtin; refine Kd.R_append Kd.string (w0 := w) w.heap.size rfl (.tmp 13) (.tmp 16) 134 9 (.string ⟨#[]⟩) 16 rfl Try.underlying134 info9 rfl (by decide) (by omega) u3 x3_1 t1224 [.string t1224] (fun _ => True) (fun _ => False) rfl rfl ?aP (fun _ hk => hk.elim) ?aF ?aO ?aB ?aS ?aL ?_; (case aP => exact rfl); (case aB => exact HB.out); (case aF => exact (fun _ _ => trivial)); (case aO => exact HO_3.out); (case aS => exact (below_size HB.out)); (case aL => have := LMc8.out; omega); intro v1226 w12 ho hb hg hat; rw [← Ny1225.out] at ho; have n0_ := Aside0.mk (blk_grown (g := gb1223) (o := .cells #[.int .i64 ((rd_T60 l0 x9_1).f0), .int .i64 ((rd_T60 l0 x9_1).f1), .int .i64 ((rd_T60 l0 x9_1).f2)] 60 (0, 0)) BK1223.out hg (Kd.R_ne HO_3.out BK1223.out (by decide))); have n1_ := Aside0.mk (hb); have n2_ := Aside0.mk (ho); clear BK1223; clear HB; clear HO_3; have BK1223 := n0_; have HB := n1_; have HO1227 := n2_; clear n0_ n1_ n2_; clear ho hb hg hat))
       go_roundg k1
       case measure => have := HK1.out; omega
       case rel => exact ⟨(y1225), (wrap64 (x9_1 + 1)), rfl, H', ⟨by have := HK1.out; omega⟩, ⟨HO1227.out⟩, ⟨HB.out⟩⟩
      ·rw [if_neg c8] at H
       exact absurd H (by simp)
     ·rw [if_neg c6] at H
      exact absurd H (by simp)
    ·rw [if_neg c5] at H
     exact absurd H (by simp)
   ·rw [if_neg c4] at H
    have c4b0 : decide (x9_1 < (l0.length : Int)) = false := decide_eq_false c4
    clear c4
    replace H := Option.bind_eq_some_iff.mp H
    obtain ⟨t1228, A130, H⟩ := H
    have A13 := Aside0.mk A130
    clear A130
    obtain rfl := Option.some.inj H
    obtain ⟨Ao14, co14, eo14⟩ := Kd.R_slice HO_3.out
    subst eo14
    go_wp2_with (((with_reducible refine gate_callee (f := 154) rfl ?_); refine goesL_ (some 20) rfl rfl Try.func154 (by kernel_rfl) rfl #[.slice Ao14 x3_1.length co14, .string (⟨#[32]⟩ : ByteArray)] rfl (by (try simp only [List.map_toArray, List.map_cons, List.map_nil]); rfl) ?_; (with_reducible refine (impl_joined.calls k1 _ _ x3_1 (⟨#[32]⟩ : ByteArray) t1228 _ ?side1 ?side2 A13.out).mono ?_); (case side1 => repeat (exact (Kd.R_reads' HO_3.out).2.2)); (case side2 => exact (Kd.R_reads' HO_3.out).2.1); rintro e w' ⟨rfl, ⟨nd, rfl⟩⟩; refine ⟨_, rfl, ?_⟩))
    go_ret
    exact ⟨rfl, by repeat ((with_reducible first | exact HB.out | apply pw_below_drewN))⟩

def impl_FormatRows.f (k : Nat) (l0 : List (S60)) : Option (ByteArray) := (impl_AreValidRows.f k l0).bind fun t1229 => (if t1229 = true then ((impl_rowTexts.f k l0).bind fun t1230 => (some t1230)) else (some (⟨#[]⟩ : ByteArray)))
theorem impl_FormatRows.calls (k : Nat) (A0 : Option Addr) (c0 : Nat) (l0 : List (S60)) (r : ByteArray) (w : World) (hr0 : Kd.C k60 w A0 l0.length l0) (hc0 : l0.length ≤ c0) (h : impl_FormatRows.f k l0 = some r) :
  Calls Try.prog 156 #[.slice A0 l0.length c0] w fun e w' => e = .returned (.string r) ∧ Below w.heap.size w w' := by
 have HR0 := Aside0.mk hr0
 have HC0 := Aside0.mk hc0
 clear hr0 hc0
 have HB := Aside0.mk (Below.refl w.heap.size w)
 have H : ((impl_AreValidRows.f k l0).bind fun t1229 => (if t1229 = true then ((impl_rowTexts.f k l0).bind fun t1230 => (some t1230)) else (some (⟨#[]⟩ : ByteArray)))) = some r := h
 clear h
 replace H := Option.bind_eq_some_iff.mp H
 obtain ⟨t1229, A20, H⟩ := H
 have A2 := Aside0.mk A20
 clear A20
 by_cases c3 : t1229 = true
 ·subst c3
  rw [if_pos rfl] at H
  replace H := Option.bind_eq_some_iff.mp H
  obtain ⟨t1230, A40, H⟩ := H
  have A4 := Aside0.mk A40
  clear A40
  obtain rfl := Option.some.inj H
  go_enter Try.func156, Try.ntmps156
  go_wp2_with (first | ((with_reducible refine gate_callee (f := 133) rfl ?_); refine goesL_ (some 4) rfl rfl Try.func133 (by kernel_rfl) rfl #[.slice A0 l0.length c0] rfl (by (try simp only [List.map_toArray, List.map_cons, List.map_nil]); rfl) ?_; (with_reducible refine (impl_AreValidRows.calls k _ _ l0 true _ ?side1 ?side2 A2.out).mono ?_); (case side1 => repeat (exact HR0.out)); (case side2 => exact HC0.out); rintro e w5 ⟨rfl, hb⟩; refine ⟨_, rfl, ?_⟩; have n0_ := Aside0.mk (below_step HB.out hb); clear HB; have HB := n0_; clear n0_; (try clear hb)) | ((with_reducible refine gate_callee (f := 189) rfl ?_); refine goesL_ (some 7) rfl rfl Try.func189 (by kernel_rfl) rfl #[.slice A0 l0.length c0] rfl (by (try simp only [List.map_toArray, List.map_cons, List.map_nil]); rfl) ?_; (with_reducible refine (impl_rowTexts.calls k _ _ l0 t1230 _ ?side1 ?side2 A4.out).mono ?_); (case side1 => repeat (exact (Kd.C_below HR0.out HB.out))); (case side2 => exact HC0.out); rintro e w6 ⟨rfl, hb⟩; refine ⟨_, rfl, ?_⟩; have n0_ := Aside0.mk (below_step HB.out hb); clear HB; have HB := n0_; clear n0_; (try clear hb)))
  go_ret
  exact ⟨rfl, HB.out⟩
 ·replace c3 := Bool.eq_false_iff.mpr c3
  subst c3
  rw [if_neg (show ¬ (false = true) by decide)] at H
  obtain rfl := Option.some.inj H
  go_enter Try.func156, Try.ntmps156
  go_wp2_with (((with_reducible refine gate_callee (f := 133) rfl ?_); refine goesL_ (some 4) rfl rfl Try.func133 (by kernel_rfl) rfl #[.slice A0 l0.length c0] rfl (by (try simp only [List.map_toArray, List.map_cons, List.map_nil]); rfl) ?_; (with_reducible refine (impl_AreValidRows.calls k _ _ l0 false _ ?side1 ?side2 A2.out).mono ?_); (case side1 => repeat (exact HR0.out)); (case side2 => exact HC0.out); rintro e w7 ⟨rfl, hb⟩; refine ⟨_, rfl, ?_⟩; have n0_ := Aside0.mk (below_step HB.out hb); clear HB; have HB := n0_; clear n0_; (try clear hb)))
  go_ret
  exact ⟨rfl, HB.out⟩

end Go.Proofs.Ytobndcjmjhehjaa.P
