/- For every string the law FnExactParseTask of the given program returns true and leaves its argument as it was; no condition. -/
import Derived.Test.YtobndcjmjhehjaaPtf0
namespace Go.Proofs.Ytobndcjmjhehjaa.P
open Go.RowKit Go.Proofs.YtobndcjmjhehjaaW.PrintWords Go.Proofs.YtobndcjmjhehjaaW.PrintLast Go.Proofs.YtobndcjmjhehjaaW.PrintMore
attribute [local go_sem] max2_int min2_int max_two min_two max_three min_three max_four min_four   -- for this text's walks alone
set_option linter.unusedVariables false
set_option linter.unusedSimpArgs false

/-! ### spec_ParseTask: function 40 -/
def spec_ParseTask.l0 : Nat → ByteArray → List ByteArray → Int → Int → List (S60) → List (S60) → List Bool → Int → Option (Int × (List (S60)) × (List (S60)) × List Bool × Int × Bool)
 | 0, _, _, _, _, _, _, _, _ => none
 | k + 1, x0, x4, x6, x1182000, x1182001, x1182002, x1182003, x1182004 => if 3 < (x4.length : Int) then (if x6 < ((rdOf ByteArray.empty x4 3).size : Int) then (if 0 ≤ x6 then (if x1182003.length < 140737488355328 then (spec_ParseTask.l0 k x0 x4 (wrap64 (x6 + 1)) x1182000 x1182001 x1182002 (x1182003 ++ [((bt (rdOf ByteArray.empty x4 3) x6) == 49)]) x1182004) else (none)) else (none)) else (if 4 < (x4.length : Int) then ((spec_ParseInt.f k (rdOf ByteArray.empty x4 4)).bind fun bt1201 => ((spec_FormatTask.f k x1182000 x1182001 x1182002 x1182003 bt1201.1).bind fun t1203 => (if t1203.toList = x0.toList then (some (x1182000, x1182001, x1182002, x1182003, bt1201.1, true)) else (some (0, ([] : List (S60)), ([] : List (S60)), ([] : List Bool), 0, false))))) else (none))) else (none)
def spec_ParseTask.f (k : Nat) (a0 : ByteArray) : Option (Int × (List (S60)) × (List (S60)) × List Bool × Int × Bool) := (spec_l2Cut.f k a0 59).bind fun t1178 => (if (t1178.length : Int) = 5 then (if 0 < (t1178.length : Int) then ((spec_ParseInt.f k (rdOf ByteArray.empty t1178 0)).bind fun bt1183 => (if 1 < (t1178.length : Int) then ((spec_ParseRows.f k (rdOf ByteArray.empty t1178 1)).bind fun bt1186 => (if 2 < (t1178.length : Int) then ((spec_ParseRows.f k (rdOf ByteArray.empty t1178 2)).bind fun bt1191 => (spec_ParseTask.l0 k a0 t1178 0 bt1183.1 bt1186.1 bt1191.1 ([] : List Bool) 0)) else (none))) else (none))) else (none)) else (some (0, ([] : List (S60)), ([] : List (S60)), ([] : List Bool), 0, false)))
theorem spec_ParseTask.mono_l : ∀ k, (∀ y0 y1 y2 y3 y4 y5 y6 y7, LeO (spec_ParseTask.l0 k y0 y1 y2 y3 y4 y5 y6 y7) (spec_ParseTask.l0 (k + 1) y0 y1 y2 y3 y4 y5 y6 y7))
 | 0 => fun _ _ _ _ _ _ _ _ r h => by simp [spec_ParseTask.l0] at h
 | k + 1 => by
  have ih0 := spec_ParseTask.mono_l k
  ·intro y0 y1 y2 y3 y4 y5 y6 y7
   unfold spec_ParseTask.l0
   repeat' first
   | (with_reducible exact ih0 _ _ _ _ _ _ _ _)
   | (with_reducible exact spec_FormatTask.mono _ _ _ _ _ _)
   | (with_reducible exact spec_ParseInt.mono _ _)
   | (with_reducible exact LeO.refl _)
   | (with_reducible refine LeO.ite ?_ ?_)
   | (with_reducible refine LeO.bind ?_ (fun _ => ?_))
theorem spec_ParseTask.mono : ∀ a0 k, LeO (spec_ParseTask.f k a0) (spec_ParseTask.f (k + 1) a0) := by
 intro a0 k
 have ih0 := spec_ParseTask.mono_l k
 unfold spec_ParseTask.f
 repeat' first
   | (with_reducible exact ih0 _ _ _ _ _ _ _ _)
   | (with_reducible exact spec_ParseInt.mono _ _)
   | (with_reducible exact spec_ParseRows.mono _ _)
   | (with_reducible exact spec_l2Cut.mono _ _ _)
   | (with_reducible exact LeO.refl _)
   | (with_reducible refine LeO.ite ?_ ?_)
   | (with_reducible refine LeO.bind ?_ (fun _ => ?_))
def spec_ParseTask.T11 : Bool × List (List Nat × List Nat) := (true, [([], []), ([0], [0]), ([], []), ([2], [2]), ([3], [3]), ([], []), ([4, 5], [4, 5]), ([6], [6]), ([7], [7]), ([1, 8], [1, 8]), ([0, 1, 2, 3, 4, 5, 6, 7, 8, 9], []), ([10, 9, 9, 0, 1, 2, 3, 4, 5, 6, 7, 8, 9], [9, 10])])
def spec_ParseTask.B11 : List Nat := [0, 1, 0, 4, 12, 0, 60, 124, 252, 511, 1023, 2047]
theorem spec_ParseTask.tab11 : rtab .any (opsOf Try.f40 11) = spec_ParseTask.T11 := by kernel_rfl
theorem spec_ParseTask.bits11 : waitsOk spec_ParseTask.T11.2 spec_ParseTask.B11 = true := by kernel_rfl
set_option maxHeartbeats 8000000 in
set_option maxRecDepth 100000 in
theorem spec_ParseTask.calls (k : Nat) (a0 : ByteArray) (r1 : Int) (r2 : List (S60)) (r3 : List (S60)) (r4 : List Bool) (r5 : Int) (r6 : Bool) (w : World) (h : spec_ParseTask.f k a0 = some (r1, r2, r3, r4, r5, r6)) :
  Calls Try.prog 40 #[.string a0] w fun e w' => ∃ v1_ v2_ v3_ : Value, e = .returned (.tuple #[.agg #[.int .i64 r1, v1_, v2_, v3_, .int .i64 r5], .bool r6]) ∧ Kd.R k60 60 w' w.heap.size (fun k_ => some k_ ≠ (v2_ : Value).ownBlock) v1_ r2 ∧ Kd.R k60 60 w' w.heap.size (fun k_ => some k_ ≠ (v1_ : Value).ownBlock) v2_ r3 ∧ Kd.R Kd.bool 4 w' w.heap.size (fun _ => True) v3_ r4 ∧ Below w.heap.size w w' := by
 have hu40 := Try.underlying40
 have HB := Aside0.mk (Below.refl w.heap.size w)
 have H : ((spec_l2Cut.f k a0 59).bind fun t1178 => (if (t1178.length : Int) = 5 then (if 0 < (t1178.length : Int) then ((spec_ParseInt.f k (rdOf ByteArray.empty t1178 0)).bind fun bt1183 => (if 1 < (t1178.length : Int) then ((spec_ParseRows.f k (rdOf ByteArray.empty t1178 1)).bind fun bt1186 => (if 2 < (t1178.length : Int) then ((spec_ParseRows.f k (rdOf ByteArray.empty t1178 2)).bind fun bt1191 => (spec_ParseTask.l0 k a0 t1178 0 bt1183.1 bt1186.1 bt1191.1 ([] : List Bool) 0)) else (none))) else (none))) else (none)) else (some (0, ([] : List (S60)), ([] : List (S60)), ([] : List Bool), 0, false)))) = some (r1, r2, r3, r4, r5, r6) := h
 clear h
 replace H := Option.bind_eq_some_iff.mp H
 obtain ⟨t1178, A20, H⟩ := H
 have A2 := Aside0.mk A20
 clear A20
 by_cases c3 : (t1178.length : Int) = 5
 ·rw [if_pos c3] at H
  have c3b0 : ((t1178.length : Int) == 5) = true := beq_iff_eq.mpr c3
  have c3b1 : ((t1178.length : Int) != 5) = false := bne_eq_false_iff_eq.mpr c3
  clear c3
  by_cases c4 : 0 < (t1178.length : Int)
  ·rw [if_pos c4] at H
   have c4b0 : decide (0 < (t1178.length : Int)) = true := decide_eq_true c4
   have c4b1 : decide (0 < t1178.length) = true := decide_eq_true (by omega)
   clear c4
   replace H := Option.bind_eq_some_iff.mp H
   obtain ⟨⟨t1183, t1184⟩, A50, H⟩ := H
   have A5 := Aside0.mk A50
   clear A50
   by_cases c6 : 1 < (t1178.length : Int)
   ·rw [if_pos c6] at H
    have c6b0 : decide (1 < (t1178.length : Int)) = true := decide_eq_true c6
    have c6b1 : decide (1 < t1178.length) = true := decide_eq_true (by omega)
    clear c6
    replace H := Option.bind_eq_some_iff.mp H
    obtain ⟨⟨t1186, t1187⟩, A70, H⟩ := H
    have A7 := Aside0.mk A70
    clear A70
    by_cases c8 : 2 < (t1178.length : Int)
    ·rw [if_pos c8] at H
     have c8b0 : decide (2 < (t1178.length : Int)) = true := decide_eq_true c8
     have c8b1 : decide (2 < t1178.length) = true := decide_eq_true (by omega)
     clear c8
     replace H := Option.bind_eq_some_iff.mp H
     obtain ⟨⟨t1191, t1192⟩, A90, H⟩ := H
     have A9 := Aside0.mk A90
     clear A90
     have H' := Aside0.mk H
     clear H
     go_enter Try.func40, Try.ntmps40
     go_wp2_with (first | ((with_reducible refine gate_dst (N := 2) rfl ?_); refine box_event ?hg (N := 2) ?hd (cs := #[.int .i64 0, .slice none 0 0, .slice none 0 0, .slice none 0 0, .int .i64 0]) (t := 40) ?hr ?_; (case hd => rfl); (case hg => rfl); (case hr => (go_simp; done)); intro gb1177 hg w10 hbox hb; have n0_ := Aside0.mk (below_step HB.out hb); have n1_ := Aside0.mk (hbox); have n2_ := Aside0.mk ((by rw [hg]; exact (below_size HB.out) : w.heap.size ≤ gb1177)); have n3_ := Aside0.mk ((by rw [hg]; exact (below_size HB.out) : w.heap.size ≤ gb1177)); clear HB; have HB := n0_; have BK1177 := n1_; have GW1177 := n2_; have GE1177 := n3_; clear n0_ n1_ n2_ n3_; clear hb hbox hg) | ((with_reducible refine gate_callee (f := 135) rfl ?_); refine goesL_ (some 8) rfl rfl Try.func135 (by kernel_rfl) rfl #[.string a0, .int .u8 59] rfl (by (try simp only [List.map_toArray, List.map_cons, List.map_nil]); rfl) ?_; (with_reducible refine (spec_l2Cut.calls k a0 59 t1178 _ A2.out).mono ?_); rintro e w11 ⟨v1179, rfl, ho0, hb⟩; refine ⟨_, rfl, ?_⟩; have n0_ := Aside0.mk (Kd.R_lower ho0 (below_size HB.out)); have n1_ := Aside0.mk (blk_below (g := gb1177) (o := .cells #[.int .i64 0, .slice none 0 0, .slice none 0 0, .slice none 0 0, .int .i64 0] 40 (0, 0)) BK1177.out hb); have n2_ := Aside0.mk (below_step HB.out hb); clear BK1177; clear HB; have HO1180 := n0_; have BK1177 := n1_; have HB := n2_; clear n0_ n1_ n2_; (try clear hb); (try clear hb2); (try clear hk); (try clear hi); (try clear ho0); obtain ⟨Ao12, co12, eo12⟩ := Kd.R_slice HO1180.out; subst eo12) | ((with_reducible refine gate_dst (N := 5) rfl ?_); refine box_event ?hg (N := 5) ?hd (cs := #[.int .i64 0, .slice none 0 0, .slice none 0 0, .slice none 0 0, .int .i64 0]) (t := 40) ?hr ?_; (case hd => rfl); (case hg => rfl); (case hr => (go_simp; done)); intro gb1181 hg w13 hbox hb; have n0_ := Aside0.mk (Kd.R_below HO1180.out hb); have n1_ := Aside0.mk (blk_below (g := gb1177) (o := .cells #[.int .i64 0, .slice none 0 0, .slice none 0 0, .slice none 0 0, .int .i64 0] 40 (0, 0)) BK1177.out hb); have n2_ := Aside0.mk (below_step HB.out hb); have n3_ := Aside0.mk (hbox); have n4_ := Aside0.mk ((by rw [hg]; exact (below_size HB.out) : w.heap.size ≤ gb1181)); have n5_ := Aside0.mk ((by rw [hg]; exact (below_size HB.out) : w.heap.size ≤ gb1181)); have n6_ := Aside0.mk ((by rw [hg]; exact Nat.ne_of_lt (blk_lt (g := gb1177) (o := .cells #[.int .i64 0, .slice none 0 0, .slice none 0 0, .slice none 0 0, .int .i64 0] 40 (0, 0)) BK1177.out) : gb1177 ≠ gb1181)); have n7_ := Aside0.mk ((by rw [hg]; exact Nat.ne_of_gt (blk_lt (g := gb1177) (o := .cells #[.int .i64 0, .slice none 0 0, .slice none 0 0, .slice none 0 0, .int .i64 0] 40 (0, 0)) BK1177.out) : gb1181 ≠ gb1177)); clear HO1180; clear BK1177; clear HB; have HO1180 := n0_; have BK1177 := n1_; have HB := n2_; have BK1181 := n3_; have GW1181 := n4_; have GE1181 := n5_; have NB1177_1181 := n6_; have NB1181_1177 := n7_; clear n0_ n1_ n2_ n3_ n4_ n5_ n6_ n7_; clear hb hbox hg; have hnb14 := NB1181_1177.out; have hnc14 := NB1177_1181.out; have hcz15_0 : w13.cell? ⟨gb1181, 0, none⟩ = some (.int .i64 0) := (blk_cell BK1181.out 0).trans rfl; have hcz15_1 : w13.cell? ⟨gb1181, 1, none⟩ = some (.slice none 0 0) := (blk_cell BK1181.out 1).trans rfl; have hcz15_2 : w13.cell? ⟨gb1181, 2, none⟩ = some (.slice none 0 0) := (blk_cell BK1181.out 2).trans rfl; have hcz15_3 : w13.cell? ⟨gb1181, 3, none⟩ = some (.slice none 0 0) := (blk_cell BK1181.out 3).trans rfl; have hcz15_4 : w13.cell? ⟨gb1181, 4, none⟩ = some (.int .i64 0) := (blk_cell BK1181.out 4).trans rfl; have hfz15_0 := blk_frozen BK1181.out 0; have hfz15_1 := blk_frozen BK1181.out 1; have hfz15_2 := blk_frozen BK1181.out 2; have hfz15_3 := blk_frozen BK1181.out 3; have hfz15_4 := blk_frozen BK1181.out 4; have p1182 : 0 ≤ (0 : Int) := (by omega); have q1182 : 0 < (t1178.length : Int) := of_decide_eq_true (by (with_reducible assumption)); obtain ⟨ad1182, e1182, hx1182_0⟩ := Kd.at_string (Kd.R_reads' HO1180.out).2.2 0 p1182 q1182; cases e1182; have qi1182 : (0 < t1178.length) = True := eq_true (by omega); (try rw [show ((0 : Int)).toNat = 0 from rfl] at hx1182_0); (try rw [Addr.add_zero'] at hx1182_0); have hn1182_0 : ad1182.block ≠ gb1181 := Kd.own_blk (Kd.R_ne HO1180.out BK1181.out (by decide)); have hn1182_1 : ad1182.block ≠ gb1181 := Kd.own_blk (Kd.R_ne HO1180.out BK1181.out (by decide)); have hn1182_2 : ad1182.block ≠ gb1181 := Kd.own_blk (Kd.R_ne HO1180.out BK1181.out (by decide)); have hn1182_3 : ad1182.block ≠ gb1181 := Kd.own_blk (Kd.R_ne HO1180.out BK1181.out (by decide)); have hn1182_4 : ad1182.block ≠ gb1181 := Kd.own_blk (Kd.R_ne HO1180.out BK1181.out (by decide)); replace hx1182_0 := (cell_far (p := ⟨gb1181, 0, none⟩) (by exact hn1182_0) (.int .i64 0)).trans hx1182_0; replace hx1182_0 := (cell_far (p := ⟨gb1181, 1, none⟩) (by exact hn1182_1) (.slice none 0 0)).trans hx1182_0; replace hx1182_0 := (cell_far (p := ⟨gb1181, 2, none⟩) (by exact hn1182_2) (.slice none 0 0)).trans hx1182_0; replace hx1182_0 := (cell_far (p := ⟨gb1181, 3, none⟩) (by exact hn1182_3) (.slice none 0 0)).trans hx1182_0; replace hx1182_0 := (cell_far (p := ⟨gb1181, 4, none⟩) (by exact hn1182_4) (.int .i64 0)).trans hx1182_0; clear hn1182_0; clear hn1182_1; clear hn1182_2; clear hn1182_3; clear hn1182_4; replace p1182 := eq_true p1182; replace q1182 := eq_true q1182) | ((with_reducible refine gate_callee (f := 136) rfl ?_); refine goesL_ (some 18) rfl rfl Try.func136 (by kernel_rfl) rfl #[.string (rdOf ByteArray.empty t1178 0)] rfl (by (try simp only [List.map_toArray, List.map_cons, List.map_nil]); rfl) ?_; (with_reducible refine (spec_ParseInt.calls k (rdOf ByteArray.empty t1178 0) t1183 t1184 _ A5.out).mono ?_); rintro e w16 ⟨rfl, hb⟩; refine ⟨_, rfl, ?_⟩; have n0_ := Aside0.mk (Kd.R_below (by exact (Kd.R_mono (Kd.R_far (p := ⟨gb1181, 4, none⟩) (Kd.R_far (p := ⟨gb1181, 3, none⟩) (Kd.R_far (p := ⟨gb1181, 2, none⟩) (Kd.R_far (p := ⟨gb1181, 1, none⟩) (Kd.R_far (p := ⟨gb1181, 0, none⟩) (Kd.R_types HO1180.out BK1181.out (by decide)) (fun _ hk => hk.2) (.int .i64 0)) (fun _ hk => hk.2) (.slice none 0 0)) (fun _ hk => hk.2) (.slice none 0 0)) (fun _ hk => hk.2) (.slice none 0 0)) (fun _ hk => hk.2) (.int .i64 0)) (fun _ h_ => h_.1))) hb); have n1_ := Aside0.mk (blk_below (g := gb1177) (o := .cells #[.int .i64 0, .slice none 0 0, .slice none 0 0, .slice none 0 0, .int .i64 0] 40 (0, 0)) (by refine blk_far ?_ NB1177_1181.out _; refine blk_far ?_ NB1177_1181.out _; refine blk_far ?_ NB1177_1181.out _; refine blk_far ?_ NB1177_1181.out _; refine blk_far ?_ NB1177_1181.out _; exact BK1177.out) hb); have n2_ := Aside0.mk (blk_below (g := gb1181) (o := .cells #[.int .i64 0, .slice none 0 0, .slice none 0 0, .slice none 0 0, .int .i64 0] 40 (0, 0)) (by refine blk_put (cs := #[.int .i64 0, .slice none 0 0, .slice none 0 0, .slice none 0 0, .int .i64 0]) ?_ 4 _ rfl; refine blk_put (cs := #[.int .i64 0, .slice none 0 0, .slice none 0 0, .slice none 0 0, .int .i64 0]) ?_ 3 _ rfl; refine blk_put (cs := #[.int .i64 0, .slice none 0 0, .slice none 0 0, .slice none 0 0, .int .i64 0]) ?_ 2 _ rfl; refine blk_put (cs := #[.int .i64 0, .slice none 0 0, .slice none 0 0, .slice none 0 0, .int .i64 0]) ?_ 1 _ rfl; refine blk_put (cs := #[.int .i64 0, .slice none 0 0, .slice none 0 0, .slice none 0 0, .int .i64 0]) ?_ 0 _ rfl; exact BK1181.out) hb); have n3_ := Aside0.mk (below_step (by repeat (with_reducible first | exact HB.out | refine below_set ?_ GE1181.out)) hb); clear HO1180; clear BK1177; clear BK1181; clear HB; have HO1180 := n0_; have BK1177 := n1_; have BK1181 := n2_; have HB := n3_; clear n0_ n1_ n2_ n3_; (try clear hb); (try clear hb2); (try clear hk); (try clear hi); have hcz17_0 : w16.cell? ⟨gb1181, 0, none⟩ = some (.int .i64 0) := (blk_cell BK1181.out 0).trans rfl; have hcz17_1 : w16.cell? ⟨gb1181, 1, none⟩ = some (.slice none 0 0) := (blk_cell BK1181.out 1).trans rfl; have hcz17_2 : w16.cell? ⟨gb1181, 2, none⟩ = some (.slice none 0 0) := (blk_cell BK1181.out 2).trans rfl; have hcz17_3 : w16.cell? ⟨gb1181, 3, none⟩ = some (.slice none 0 0) := (blk_cell BK1181.out 3).trans rfl; have hcz17_4 : w16.cell? ⟨gb1181, 4, none⟩ = some (.int .i64 0) := (blk_cell BK1181.out 4).trans rfl; have hfz17_0 := blk_frozen BK1181.out 0; have hfz17_1 := blk_frozen BK1181.out 1; have hfz17_2 := blk_frozen BK1181.out 2; have hfz17_3 := blk_frozen BK1181.out 3; have hfz17_4 := blk_frozen BK1181.out 4; have p1185 : 0 ≤ (1 : Int) := (by omega); have q1185 : 1 < (t1178.length : Int) := of_decide_eq_true (by (with_reducible assumption)); obtain ⟨ad1185, e1185, hx1185_0⟩ := Kd.at_string (Kd.R_reads' HO1180.out).2.2 1 p1185 q1185; obtain rfl : ad1182 = ad1185 := (by injection e1185); (try simp only [show (1 : Int).toNat = 1 from rfl, Nat.reduceMul, Nat.reduceEqDiff, Go.Addr.add, ↓reduceIte] at hx1185_0); have qi1185 : (1 < t1178.length) = True := eq_true (by omega); (try rw [show ((1 : Int)).toNat = 1 from rfl] at hx1185_0); have hn1185_0 : ad1182.block ≠ gb1181 := Kd.own_blk (Kd.R_ne HO1180.out BK1181.out (by decide)); replace hx1185_0 := (cell_far (p := ⟨gb1181, 0, none⟩) (by exact hn1185_0) (.int .i64 t1183)).trans hx1185_0; clear hn1185_0; replace p1185 := eq_true p1185; replace q1185 := eq_true q1185) | ((with_reducible refine gate_callee (f := 137) rfl ?_); refine goesL_ (some 26) rfl rfl Try.func137 (by kernel_rfl) rfl #[.string (rdOf ByteArray.empty t1178 1)] rfl (by (try simp only [List.map_toArray, List.map_cons, List.map_nil]); rfl) ?_; (with_reducible refine (spec_ParseRows.calls k (rdOf ByteArray.empty t1178 1) t1186 t1187 _ A7.out).mono ?_); rintro e w18 ⟨v1188, rfl, ho0, hb⟩; refine ⟨_, rfl, ?_⟩; have n0_ := Aside0.mk (Kd.R_below (by exact (Kd.R_mono (Kd.R_far (p := ⟨gb1181, 0, none⟩) (Kd.R_types HO1180.out BK1181.out (by decide)) (fun _ hk => hk.2) (.int .i64 t1183)) (fun _ h_ => h_.1))) hb); have n1_ := Aside0.mk (Kd.R_lower ho0 (below_size (by repeat (with_reducible first | exact HB.out | refine below_set ?_ GE1181.out)))); have n2_ := Aside0.mk (blk_below (g := gb1177) (o := .cells #[.int .i64 0, .slice none 0 0, .slice none 0 0, .slice none 0 0, .int .i64 0] 40 (0, 0)) (by refine blk_far ?_ NB1177_1181.out _; exact BK1177.out) hb); have n3_ := Aside0.mk (blk_below (g := gb1181) (o := .cells #[.int .i64 t1183, .slice none 0 0, .slice none 0 0, .slice none 0 0, .int .i64 0] 40 (0, 0)) (by refine blk_put (cs := #[.int .i64 0, .slice none 0 0, .slice none 0 0, .slice none 0 0, .int .i64 0]) ?_ 0 _ rfl; exact BK1181.out) hb); have n4_ := Aside0.mk (below_step (by repeat (with_reducible first | exact HB.out | refine below_set ?_ GE1181.out)) hb); clear HO1180; clear BK1177; clear BK1181; clear HB; have HO1180 := n0_; have HO1189 := n1_; have BK1177 := n2_; have BK1181 := n3_; have HB := n4_; clear n0_ n1_ n2_ n3_ n4_; (try clear hb); (try clear hb2); (try clear hk); (try clear hi); (try clear ho0); obtain ⟨Ao19, co19, eo19⟩ := Kd.R_slice HO1189.out; subst eo19; have hcz20_0 : w18.cell? ⟨gb1181, 0, none⟩ = some (.int .i64 t1183) := (blk_cell BK1181.out 0).trans rfl; have hcz20_1 : w18.cell? ⟨gb1181, 1, none⟩ = some (.slice none 0 0) := (blk_cell BK1181.out 1).trans rfl; have hcz20_2 : w18.cell? ⟨gb1181, 2, none⟩ = some (.slice none 0 0) := (blk_cell BK1181.out 2).trans rfl; have hcz20_3 : w18.cell? ⟨gb1181, 3, none⟩ = some (.slice none 0 0) := (blk_cell BK1181.out 3).trans rfl; have hcz20_4 : w18.cell? ⟨gb1181, 4, none⟩ = some (.int .i64 0) := (blk_cell BK1181.out 4).trans rfl; have hfz20_0 := blk_frozen BK1181.out 0; have hfz20_1 := blk_frozen BK1181.out 1; have hfz20_2 := blk_frozen BK1181.out 2; have hfz20_3 := blk_frozen BK1181.out 3; have hfz20_4 := blk_frozen BK1181.out 4; have p1190 : 0 ≤ (2 : Int) := (by omega); have q1190 : 2 < (t1178.length : Int) := of_decide_eq_true (by (with_reducible assumption)); obtain ⟨ad1190, e1190, hx1190_0⟩ := Kd.at_string (Kd.R_reads' HO1180.out).2.2 2 p1190 q1190; obtain rfl : ad1182 = ad1190 := (by injection e1190); (try simp only [show (2 : Int).toNat = 2 from rfl, Nat.reduceMul, Nat.reduceEqDiff, Go.Addr.add, ↓reduceIte] at hx1190_0); have qi1190 : (2 < t1178.length) = True := eq_true (by omega); (try rw [show ((2 : Int)).toNat = 2 from rfl] at hx1190_0); have hn1190_0 : ad1182.block ≠ gb1181 := Kd.own_blk (Kd.R_ne HO1180.out BK1181.out (by decide)); replace hx1190_0 := (cell_far (p := ⟨gb1181, 1, none⟩) (by exact hn1190_0) (.slice Ao19 t1186.length co19)).trans hx1190_0; clear hn1190_0; replace p1190 := eq_true p1190; replace q1190 := eq_true q1190) | ((with_reducible refine gate_callee (f := 137) rfl ?_); refine goesL_ (some 34) rfl rfl Try.func137 (by kernel_rfl) rfl #[.string (rdOf ByteArray.empty t1178 2)] rfl (by (try simp only [List.map_toArray, List.map_cons, List.map_nil]); rfl) ?_; (with_reducible refine (spec_ParseRows.calls k (rdOf ByteArray.empty t1178 2) t1191 t1192 _ A9.out).mono ?_); rintro e w21 ⟨v1193, rfl, ho0, hb⟩; refine ⟨_, rfl, ?_⟩; have n0_ := Aside0.mk (Kd.R_below (by exact (Kd.R_mono (Kd.R_far (p := ⟨gb1181, 1, none⟩) (Kd.R_types HO1180.out BK1181.out (by decide)) (fun _ hk => hk.2) (.slice Ao19 t1186.length co19)) (fun _ h_ => h_.1))) hb); have n1_ := Aside0.mk (Kd.R_elder' (by exact (Kd.R_mono (Kd.R_far (p := ⟨gb1181, 1, none⟩) (Kd.R_types HO1189.out BK1181.out (by decide)) (fun _ hk => hk.2) (.slice Ao19 t1186.length co19)) (fun _ h_ => h_.1))) (Kd.R_base ho0) hb); have n2_ := Aside0.mk (Kd.R_lower (Kd.R_new' ho0 (Kd.R_lt (by exact (Kd.R_mono (Kd.R_far (p := ⟨gb1181, 1, none⟩) (Kd.R_types HO1189.out BK1181.out (by decide)) (fun _ hk => hk.2) (.slice Ao19 t1186.length co19)) (fun _ h_ => h_.1))))) (below_size (by repeat (with_reducible first | exact HB.out | refine below_set ?_ GE1181.out)))); have n3_ := Aside0.mk (blk_below (g := gb1177) (o := .cells #[.int .i64 0, .slice none 0 0, .slice none 0 0, .slice none 0 0, .int .i64 0] 40 (0, 0)) (by refine blk_far ?_ NB1177_1181.out _; exact BK1177.out) hb); have n4_ := Aside0.mk (blk_below (g := gb1181) (o := .cells #[.int .i64 t1183, .slice Ao19 t1186.length co19, .slice none 0 0, .slice none 0 0, .int .i64 0] 40 (0, 0)) (by refine blk_put (cs := #[.int .i64 t1183, .slice none 0 0, .slice none 0 0, .slice none 0 0, .int .i64 0]) ?_ 1 _ rfl; exact BK1181.out) hb); have n5_ := Aside0.mk (below_step (by repeat (with_reducible first | exact HB.out | refine below_set ?_ GE1181.out)) hb); clear HO1180; clear HO1189; clear BK1177; clear BK1181; clear HB; have HO1180 := n0_; have HO1189 := n1_; have HO1194 := n2_; have BK1177 := n3_; have BK1181 := n4_; have HB := n5_; clear n0_ n1_ n2_ n3_ n4_ n5_; (try clear hb); (try clear hb2); (try clear hk); (try clear hi); (try clear ho0); obtain ⟨Ao22, co22, eo22⟩ := Kd.R_slice HO1194.out; subst eo22; have hcz23_0 : w21.cell? ⟨gb1181, 0, none⟩ = some (.int .i64 t1183) := (blk_cell BK1181.out 0).trans rfl; have hcz23_1 : w21.cell? ⟨gb1181, 1, none⟩ = some (.slice Ao19 t1186.length co19) := (blk_cell BK1181.out 1).trans rfl; have hcz23_2 : w21.cell? ⟨gb1181, 2, none⟩ = some (.slice none 0 0) := (blk_cell BK1181.out 2).trans rfl; have hcz23_3 : w21.cell? ⟨gb1181, 3, none⟩ = some (.slice none 0 0) := (blk_cell BK1181.out 3).trans rfl; have hcz23_4 : w21.cell? ⟨gb1181, 4, none⟩ = some (.int .i64 0) := (blk_cell BK1181.out 4).trans rfl; have hfz23_0 := blk_frozen BK1181.out 0; have hfz23_1 := blk_frozen BK1181.out 1; have hfz23_2 := blk_frozen BK1181.out 2; have hfz23_3 := blk_frozen BK1181.out 3; have hfz23_4 := blk_frozen BK1181.out 4))
     go_loopg [6] k (fun kq v6 w' => ∃ (x6_1 : Int) (x1182003_1 : List Bool) (u1182003 : Value), v6 = .int .i64 x6_1 ∧ Aside0 (spec_ParseTask.l0 kq a0 t1178 x6_1 t1183 t1186 t1191 x1182003_1 0 = some (r1, r2, r3, r4, r5, r6)) ∧ Aside0 (kq ≤ k) ∧ Aside0 (Kd.R Kd.string 9 w' w.heap.size (fun _ => True) (.slice (some ad1182) t1178.length co12) t1178) ∧ Aside0 (Kd.R k60 60 w' w.heap.size (fun k_ => some k_ ≠ ((.slice Ao22 t1191.length co22) : Value).ownBlock) (.slice Ao19 t1186.length co19) t1186) ∧ Aside0 (Kd.R k60 60 w' w.heap.size (fun k_ => some k_ ≠ ((.slice Ao19 t1186.length co19) : Value).ownBlock) (.slice Ao22 t1191.length co22) t1191) ∧ Aside0 (Kd.R Kd.bool 4 w' w.heap.size (fun _ => True) u1182003 x1182003_1) ∧ Aside0 (w'.heap[gb1177]? = some (.cells #[.int .i64 0, (.slice none 0 0), (.slice none 0 0), (.slice none 0 0), .int .i64 0] 40 (0, 0))) ∧ Aside0 (w'.heap[gb1181]? = some (.cells #[.int .i64 t1183, (.slice Ao19 t1186.length co19), (.slice Ao22 t1191.length co22), u1182003, .int .i64 0] 40 (0, 0))) ∧ Aside0 (Below w.heap.size w w'))
     case atStart => exact ⟨(0), (([] : List Bool)), (.slice none 0 0), rfl, H', ⟨Nat.le_refl _⟩, ⟨by exact Kd.R_mono (Kd.R_far (p := ⟨gb1181, 2, none⟩) (Kd.R_types HO1180.out BK1181.out (by decide)) (fun _ hk => hk.2) (.slice Ao22 t1191.length co22)) (fun _ hk => trivial)⟩, ⟨by exact Kd.R_mono (Kd.R_far (p := ⟨gb1181, 2, none⟩) (Kd.R_types HO1189.out BK1181.out (by decide)) (fun _ hk => hk.2) (.slice Ao22 t1191.length co22)) (fun _ hk => hk.1.2)⟩, ⟨by exact Kd.R_mono (Kd.R_far (p := ⟨gb1181, 2, none⟩) (Kd.R_types HO1194.out BK1181.out (by decide)) (fun _ hk => hk.2) (.slice Ao22 t1191.length co22)) (fun _ hk => hk.1.2)⟩, ⟨by exact Kd.R_nil _ _ _ _ _⟩, ⟨by refine blk_far ?_ NB1177_1181.out _; exact BK1177.out⟩, ⟨by refine blk_put (cs := #[.int .i64 t1183, .slice Ao19 t1186.length co19, .slice none 0 0, .slice none 0 0, .int .i64 0]) ?_ 2 _ rfl; exact BK1181.out⟩, ⟨by repeat ((with_reducible first | exact HB.out | refine below_set ?_ GE1181.out))⟩⟩
     case round =>
      clear H'
      try clear c3b0
      try clear c3b1
      try clear c4b0
      try clear c4b1
      try clear c6b0
      try clear c6b1
      try clear c8b0
      try clear c8b1
      try clear hcz15_0
      try clear hcz15_1
      try clear hcz15_2
      try clear hcz15_3
      try clear hcz15_4
      try clear hcz17_0
      try clear hcz17_1
      try clear hcz17_2
      try clear hcz17_3
      try clear hcz17_4
      try clear hcz20_0
      try clear hcz20_1
      try clear hcz20_2
      try clear hcz20_3
      try clear hcz20_4
      try clear hcz23_0
      try clear hcz23_1
      try clear hcz23_2
      try clear hcz23_3
      try clear hcz23_4
      try clear hfz15_0
      try clear hfz15_1
      try clear hfz15_2
      try clear hfz15_3
      try clear hfz15_4
      try clear hfz17_0
      try clear hfz17_1
      try clear hfz17_2
      try clear hfz17_3
      try clear hfz17_4
      try clear hfz20_0
      try clear hfz20_1
      try clear hfz20_2
      try clear hfz20_3
      try clear hfz20_4
      try clear hfz23_0
      try clear hfz23_1
      try clear hfz23_2
      try clear hfz23_3
      try clear hfz23_4
      try clear hx1182_0
      try clear hx1185_0
      try clear hx1190_0
      try clear p1182
      try clear p1185
      try clear p1190
      try clear q1182
      try clear q1185
      try clear q1190
      obtain ⟨x6_1, x1182003_1, u1182003, rfl, HA, HK1, HO_4, HO_1182001, HO_1182002, HO_1182003, BK1177, BK1181, HB⟩ := hrel
      cases gk with
      | zero => exact absurd HA.out (by simp [spec_ParseTask.l0])
      | succ k1 =>
       have H := HA.out
       clear HA
       simp only [spec_ParseTask.l0] at H
       by_cases c24 : 3 < (t1178.length : Int)
       ·rw [if_pos c24] at H
        have c24b0 : decide (3 < (t1178.length : Int)) = true := decide_eq_true c24
        have c24b1 : decide (3 < t1178.length) = true := decide_eq_true (by omega)
        clear c24
        by_cases c25 : x6_1 < ((rdOf ByteArray.empty t1178 3).size : Int)
        ·rw [if_pos c25] at H
         have c25b0 : decide (x6_1 < ((rdOf ByteArray.empty t1178 3).size : Int)) = true := decide_eq_true c25
         clear c25
         by_cases c26 : 0 ≤ x6_1
         ·rw [if_pos c26] at H
          have c26b0 : decide (0 ≤ x6_1) = true := decide_eq_true c26
          clear c26
          by_cases c28 : x1182003_1.length < 140737488355328
          ·rw [if_pos c28] at H
           have LMc28 := Aside0.mk c28
           clear c28
           obtain ⟨y1197, hy1197⟩ : ∃ y_ : List Bool, y_ = (x1182003_1 ++ [((bt (rdOf ByteArray.empty t1178 3) x6_1) == 49)]) := ⟨_, rfl⟩
           replace H : (spec_ParseTask.l0 k1 a0 t1178 (wrap64 (x6_1 + 1)) t1183 t1186 t1191 y1197 0) = some (r1, r2, r3, r4, r5, r6) := by (rw [hy1197]; with_reducible exact H)
           have Ny1197 := Aside0.mk hy1197
           clear hy1197
           have H' := Aside0.mk H
           clear H
           have p1195 : 0 ≤ (3 : Int) := (by omega)
           have q1195 : 3 < (t1178.length : Int) := of_decide_eq_true (by (with_reducible assumption))
           obtain ⟨ad1195, e1195, hx1195_0⟩ := Kd.at_string (Kd.R_reads' HO_4.out).2.2 3 p1195 q1195
           obtain rfl : ad1182 = ad1195 := (by injection e1195)
           (try simp only [show (3 : Int).toNat = 3 from rfl, Nat.reduceMul, Nat.reduceEqDiff, Go.Addr.add, ↓reduceIte] at hx1195_0)
           have qi1195 : (3 < t1178.length) = True := eq_true (by omega)
           (try rw [show ((3 : Int)).toNat = 3 from rfl] at hx1195_0)
           replace p1195 := eq_true p1195
           replace q1195 := eq_true q1195
           try go_wp2
           have n0_ := Aside0.mk (Kd.R_drew HO_4.out)
           have n1_ := Aside0.mk (Kd.R_drew HO_1182001.out)
           have n2_ := Aside0.mk (Kd.R_drew HO_1182002.out)
           have n3_ := Aside0.mk (Kd.R_drew HO_1182003.out)
           have n4_ := Aside0.mk (blk_drew BK1177.out)
           have n5_ := Aside0.mk (blk_drew BK1181.out)
           have n6_ := Aside0.mk (below_drew1 HB.out)
           clear HO_4
           clear HO_1182001
           clear HO_1182002
           clear HO_1182003
           clear BK1177
           clear BK1181
           clear HB
           have HO_4 := n0_
           have HO_1182001 := n1_
           have HO_1182002 := n2_
           have HO_1182003 := n3_
           have BK1177 := n4_
           have BK1181 := n5_
           have HB := n6_
           clear n0_ n1_ n2_ n3_ n4_ n5_ n6_
           have p1196 : 0 ≤ (3 : Int) := (by omega)
           have q1196 : 3 < (t1178.length : Int) := of_decide_eq_true (by (with_reducible assumption))
           obtain ⟨ad1196, e1196, hx1196_0⟩ := Kd.at_string (Kd.R_reads' HO_4.out).2.2 3 p1196 q1196
           obtain rfl : ad1182 = ad1196 := (by injection e1196)
           (try simp only [show (3 : Int).toNat = 3 from rfl, Nat.reduceMul, Nat.reduceEqDiff, Go.Addr.add, ↓reduceIte] at hx1196_0)
           have qi1196 : (3 < t1178.length) = True := eq_true (by omega)
           (try rw [show ((3 : Int)).toNat = 3 from rfl] at hx1196_0)
           replace p1196 := eq_true p1196
           replace q1196 := eq_true q1196
           have p27 : 0 ≤ (x6_1 : Int) := of_decide_eq_true (by (with_reducible assumption))
           have q27 : x6_1 < ((rdOf ByteArray.empty t1178 3).size : Int) := of_decide_eq_true (by (with_reducible assumption))
           have hx27 := bt_at (rdOf ByteArray.empty t1178 3) x6_1
           replace p27 := eq_true p27
           replace q27 := eq_true q27
           refine start_ (n := 12) (S := fun w' => w'.cell? ⟨gb1181, 0, none⟩ = some (.int .i64 t1183) ∧ w'.cell? ⟨gb1181, 1, none⟩ = some (.slice Ao19 t1186.length co19) ∧ w'.cell? ⟨gb1181, 2, none⟩ = some (.slice Ao22 t1191.length co22) ∧ w'.cell? ⟨gb1181, 3, none⟩ = some (u1182003) ∧ w'.cell? ⟨gb1181, 4, none⟩ = some (.int .i64 0) ∧ w'.cell? ⟨ad1182.block, ad1182.off + 3, none⟩ = some (.string (rdOf ByteArray.empty t1178 3))) (ds := [9, 11]) #[false, false, false, false, false, false, false, false, false, false, false, false] (by kernel_rfl) rfl rfl ⟨(blk_cell BK1181.out 0).trans rfl, (blk_cell BK1181.out 1).trans rfl, (blk_cell BK1181.out 2).trans rfl, (blk_cell BK1181.out 3).trans rfl, (blk_cell BK1181.out 4).trans rfl, hx1196_0⟩ (fun hHeld => ?_); refine with_tabW spec_ParseTask.tab11 spec_ParseTask.bits11 (fun HT_ HW_ => ?_)
           generalize wr.drew = w29 at HO_4 HO_1182001 HO_1182002 HO_1182003 BK1177 BK1181 HB hx1196_0 hHeld ⊢
           refine pure_ (i := 0) (N := some 46) (v := ?_) (a' := ?_) #[true, false, false, false, false, false, false, false, false, false, false, false] rfl rfl (any_of HT_.out (by kernel_rfl)) (fun _ _ _ h => h) (Or.inl ⟨rfl, ?_⟩) ?_ ?_
           rotate_left
           ·intro w'
            go_simp
            with_reducible rfl
           rotate_left
           ·simp only [Act.put, List.setIfInBounds_toArray, List.set_cons_zero, List.set_cons_succ, i64_w, i32_w]
            rfl
           refine pure_ (i := 2) (N := some 48) (v := ?_) (a' := ?_) #[true, false, true, false, false, false, false, false, false, false, false, false] rfl rfl (any_of HT_.out (by kernel_rfl)) (fun _ _ _ h => h) (Or.inl ⟨rfl, ?_⟩) ?_ ?_
           rotate_left
           ·intro w'
            go_simp
            with_reducible rfl
           rotate_left
           ·simp only [Act.put, List.setIfInBounds_toArray, List.set_cons_zero, List.set_cons_succ, i64_w, i32_w]
            rfl
           refine pure_ (i := 3) (N := some 49) (v := ?_) (a' := ?_) #[true, false, true, true, false, false, false, false, false, false, false, false] rfl rfl (any_of HT_.out (by kernel_rfl)) (fun _ _ _ h => h) (Or.inl ⟨rfl, ?_⟩) ?_ ?_
           rotate_left
           ·intro w'
            go_simp
            with_reducible rfl
           rotate_left
           ·simp only [Act.put, List.setIfInBounds_toArray, List.set_cons_zero, List.set_cons_succ, i64_w, i32_w]
            rfl
           refine pure_ (i := 5) (N := some 51) (v := ?_) (a' := ?_) #[true, false, true, true, false, true, false, false, false, false, false, false] rfl rfl (any_of HT_.out (by kernel_rfl)) (fun _ _ _ h => h) (Or.inl ⟨rfl, ?_⟩) ?_ ?_
           rotate_left
           ·intro w'
            go_simp
            with_reducible rfl
           rotate_left
           ·simp only [Act.put, List.setIfInBounds_toArray, List.set_cons_zero, List.set_cons_succ, i64_w, i32_w]
            rfl
           refine take_ (i := 1) (N := some 47) (v := ?_) (a' := ?_) #[true, true, true, true, false, true, false, false, false, false, false, false] rfl rfl (take_ofW HT_.out HW_.out (by kernel_rfl)) (fun _ _ _ h => h) (Or.inl ⟨rfl, ?_⟩) hHeld ?_ ?_
           rotate_left
           ·rintro w' ⟨s0, s1, s2, s3, s4, s5⟩
            go_simp
            with_reducible rfl
           rotate_left
           ·simp only [Act.put, List.setIfInBounds_toArray, List.set_cons_zero, List.set_cons_succ, i64_w, i32_w]
            rfl
           refine take_ (i := 4) (N := some 50) (v := ?_) (a' := ?_) #[true, true, true, true, true, true, false, false, false, false, false, false] rfl rfl (take_ofW HT_.out HW_.out (by kernel_rfl)) (fun _ _ _ h => h) (Or.inl ⟨rfl, ?_⟩) hHeld ?_ ?_
           rotate_left
           ·rintro w' ⟨s0, s1, s2, s3, s4, s5⟩
            go_simp
            with_reducible rfl
           rotate_left
           ·simp only [Act.put, List.setIfInBounds_toArray, List.set_cons_zero, List.set_cons_succ, i64_w, i32_w]
            rfl
           refine take_ (i := 6) (N := some 52) (v := ?_) (a' := ?_) #[true, true, true, true, true, true, true, false, false, false, false, false] rfl rfl (take_ofW HT_.out HW_.out (by kernel_rfl)) (fun _ _ _ h => h) (Or.inl ⟨rfl, ?_⟩) hHeld ?_ ?_
           rotate_left
           ·rintro w' ⟨s0, s1, s2, s3, s4, s5⟩
            go_simp
            with_reducible rfl
           rotate_left
           ·simp only [Act.put, List.setIfInBounds_toArray, List.set_cons_zero, List.set_cons_succ, i64_w, i32_w]
            rfl
           refine pure_ (i := 7) (N := some 53) (v := ?_) (a' := ?_) #[true, true, true, true, true, true, true, true, false, false, false, false] rfl rfl (any_of HT_.out (by kernel_rfl)) (fun _ _ _ h => h) (Or.inl ⟨rfl, ?_⟩) ?_ ?_
           rotate_left
           ·intro w'
            go_simp
            with_reducible rfl
           rotate_left
           ·simp only [Act.put, List.setIfInBounds_toArray, List.set_cons_zero, List.set_cons_succ, i64_w, i32_w]
            rfl
           refine one_ (i := 8) (N := some 54) #[true, true, true, true, true, true, true, true, true, false, false, false] rfl rfl (one_of HT_.out (by kernel_rfl)) (by decide) (fun K hK => ?_)
           refine value_ (w1 := ?_) (v := ?_) rfl rfl ?_ ?_
           rotate_left 2
           ·go_simp
            constructor
            ·rfl
            ·rfl
           refine hK.out _ _ ⟨(blk_cell (blk_alloc BK1181.out _) 0).trans rfl, (blk_cell (blk_alloc BK1181.out _) 1).trans rfl, (blk_cell (blk_alloc BK1181.out _) 2).trans rfl, (blk_cell (blk_alloc BK1181.out _) 3).trans rfl, (blk_cell (blk_alloc BK1181.out _) 4).trans rfl, (World.cell?_alloc_lt _ _ _ (World.block_lt_of_cell? _ _ (hHeld.2.2.2.2.2))).trans (hHeld.2.2.2.2.2)⟩ (fun hHeld => ?_)
           clear hK K
           refine norm_ (a' := ?_) ?_ ?_
           rotate_left
           ·show Act.put _ (some 54) _ = _
            simp only [Act.put, List.setIfInBounds_toArray, List.set_cons_zero, List.set_cons_succ, i64_w, i32_w]
            rfl
           refine last_ (i := 9) (N := some 55) #[true, true, true, true, true, true, true, true, true, true, false, false] rfl rfl (one_of HT_.out (by kernel_rfl)) (by decide) (fun K hK => ?_)
           refine Kd.R_append_step Kd.bool (w0 := w) w.heap.size rfl (.tmp 47) (.tmp 54) 38 4 (.bool false) 1 rfl Try.underlying38 info4 rfl (by decide) (by omega) u1182003 x1182003_1 ((bt (rdOf ByteArray.empty t1178 3) x6_1) == 49) [.bool ((bt (rdOf ByteArray.empty t1178 3) x6_1) == 49)] (fun _ => True) (fun _ => False) rfl rfl ?aP (fun _ hk => hk.elim) ?aF ?aO ?aB ?aS ?aL ?_
           (case aP => exact rfl)
           (case aB => exact HB.out)
           (case aF => exact (fun _ _ => trivial))
           (case aO => exact HO_1182003.out)
           (case aS => exact (below_size HB.out))
           (case aL => have := LMc28.out; omega)
           intro v1198 w30 ho hb hg hat
           rw [← Ny1197.out] at ho
           have n0_ := Aside0.mk (Kd.R_over' HO_4.out (Kd.R_typed HO_1182003.out) (by decide) hg)
           have n1_ := Aside0.mk (Kd.R_over' HO_1182001.out (Kd.R_typed HO_1182003.out) (by decide) hg)
           have n2_ := Aside0.mk (Kd.R_over' HO_1182002.out (Kd.R_typed HO_1182003.out) (by decide) hg)
           have n3_ := Aside0.mk (blk_grown (g := gb1177) (o := .cells #[.int .i64 0, .slice none 0 0, .slice none 0 0, .slice none 0 0, .int .i64 0] 40 (0, 0)) BK1177.out hg (Kd.R_ne HO_1182003.out BK1177.out (by decide)))
           have n4_ := Aside0.mk (blk_grown (g := gb1181) (o := .cells #[.int .i64 t1183, .slice Ao19 t1186.length co19, .slice Ao22 t1191.length co22, u1182003, .int .i64 0] 40 (0, 0)) BK1181.out hg (Kd.R_ne HO_1182003.out BK1181.out (by decide)))
           have n5_ := Aside0.mk (hb)
           have n6_ := Aside0.mk (ho)
           clear HO_4
           clear HO_1182001
           clear HO_1182002
           clear BK1177
           clear BK1181
           clear HB
           clear HO_1182003
           have HO_4 := n0_
           have HO_1182001 := n1_
           have HO_1182002 := n2_
           have BK1177 := n3_
           have BK1181 := n4_
           have HB := n5_
           have HO1199 := n6_
           clear n0_ n1_ n2_ n3_ n4_ n5_ n6_
           clear ho hb hg hat
           obtain ⟨Ao31, co31, eo31⟩ := Kd.R_slice HO1199.out
           (subst eo31)
           refine hK.out _ _ ?_
           clear hK K
           refine norm_ (a' := ?_) ?_ ?_
           rotate_left
           ·show Act.put _ (some 55) _ = _
            simp only [Act.put, List.setIfInBounds_toArray, List.set_cons_zero, List.set_cons_succ, i64_w, i32_w]
            rfl
           refine pure_ (i := 10) (N := some 56) (v := ?_) (a' := ?_) #[true, true, true, true, true, true, true, true, true, true, true, false] rfl rfl (any_of HT_.out (by kernel_rfl)) (fun _ _ _ h => h) (Or.inl ⟨rfl, ?_⟩) ?_ ?_
           rotate_left
           ·intro w'
            go_simp
            with_reducible rfl
           rotate_left
           ·simp only [Act.put, List.setIfInBounds_toArray, List.set_cons_zero, List.set_cons_succ, i64_w, i32_w]
            rfl
           refine last_ (i := 11) (N := none) #[true, true, true, true, true, true, true, true, true, true, true, true] rfl rfl (one_of HT_.out (by kernel_rfl)) (by decide) (fun K hK => ?_)
           have hs32 : w30.cell? ⟨gb1181, 3, none⟩ = some (u1182003) := (blk_cell BK1181.out 3).trans rfl
           have hfs32 := blk_frozen BK1181.out 3
           have hns32_0 := NB1177_1181.out
           have hms32_0 := NB1181_1177.out
           refine skip_ (w1 := ?_) rfl rfl ?_ ?_
           rotate_left
           ·go_simp
            rfl
           refine hK.out _ _ ?_
           clear hK K
           refine done_ (done_of HT_.out (by kernel_rfl)) ?_
           try go_wp2
           go_roundg k1
           case measure => have := HK1.out; omega
           case rel => exact ⟨(wrap64 (x6_1 + 1)), (y1197), (.slice Ao31 y1197.length co31), rfl, H', ⟨by have := HK1.out; omega⟩, ⟨by exact Kd.R_mono (Kd.R_far (p := ⟨gb1181, 3, none⟩) (Kd.R_types HO_4.out BK1181.out (by decide)) (fun _ hk => hk.2) (.slice Ao31 y1197.length co31)) (fun _ hk => trivial)⟩, ⟨by exact Kd.R_mono (Kd.R_far (p := ⟨gb1181, 3, none⟩) (Kd.R_types HO_1182001.out BK1181.out (by decide)) (fun _ hk => hk.2) (.slice Ao31 y1197.length co31)) (fun _ hk => hk.1)⟩, ⟨by exact Kd.R_mono (Kd.R_far (p := ⟨gb1181, 3, none⟩) (Kd.R_types HO_1182002.out BK1181.out (by decide)) (fun _ hk => hk.2) (.slice Ao31 y1197.length co31)) (fun _ hk => hk.1)⟩, ⟨by exact Kd.R_mono (Kd.R_far (p := ⟨gb1181, 3, none⟩) (Kd.R_types HO1199.out BK1181.out (by decide)) (fun _ hk => hk.2) (.slice Ao31 y1197.length co31)) (fun _ hk => trivial)⟩, ⟨by refine blk_far ?_ NB1177_1181.out _; exact BK1177.out⟩, ⟨by refine blk_put (cs := #[.int .i64 t1183, .slice Ao19 t1186.length co19, .slice Ao22 t1191.length co22, u1182003, .int .i64 0]) ?_ 3 _ rfl; exact BK1181.out⟩, ⟨by repeat ((with_reducible first | exact HB.out | refine below_set ?_ GE1181.out))⟩⟩
          ·rw [if_neg c28] at H
           exact absurd H (by simp)
         ·rw [if_neg c26] at H
          exact absurd H (by simp)
        ·rw [if_neg c25] at H
         have c25b0 : decide (x6_1 < ((rdOf ByteArray.empty t1178 3).size : Int)) = false := decide_eq_false c25
         clear c25
         by_cases c33 : 4 < (t1178.length : Int)
         ·rw [if_pos c33] at H
          have c33b0 : decide (4 < (t1178.length : Int)) = true := decide_eq_true c33
          have c33b1 : decide (4 < t1178.length) = true := decide_eq_true (by omega)
          clear c33
          replace H := Option.bind_eq_some_iff.mp H
          obtain ⟨⟨t1201, t1202⟩, A340, H⟩ := H
          have A34 := Aside0.mk A340
          clear A340
          replace H := Option.bind_eq_some_iff.mp H
          obtain ⟨t1203, A350, H⟩ := H
          have A35 := Aside0.mk A350
          clear A350
          by_cases c36 : t1203.toList = a0.toList
          ·rw [if_pos c36] at H
           have c36b0 : (t1203.toList == a0.toList) = true := beq_iff_eq.mpr c36
           have c36b1 : (t1203.toList != a0.toList) = false := bne_eq_false_iff_eq.mpr c36
           clear c36
           simp only [Option.some.injEq, Prod.mk.injEq] at H
           obtain ⟨rfl, rfl, rfl, rfl, rfl, rfl⟩ := H
           have p1195 : 0 ≤ (3 : Int) := (by omega)
           have q1195 : 3 < (t1178.length : Int) := of_decide_eq_true (by (with_reducible assumption))
           obtain ⟨ad1195, e1195, hx1195_0⟩ := Kd.at_string (Kd.R_reads' HO_4.out).2.2 3 p1195 q1195
           obtain rfl : ad1182 = ad1195 := (by injection e1195)
           (try simp only [show (3 : Int).toNat = 3 from rfl, Nat.reduceMul, Nat.reduceEqDiff, Go.Addr.add, ↓reduceIte] at hx1195_0)
           have qi1195 : (3 < t1178.length) = True := eq_true (by omega)
           (try rw [show ((3 : Int)).toNat = 3 from rfl] at hx1195_0)
           replace p1195 := eq_true p1195
           replace q1195 := eq_true q1195
           have p1200 : 0 ≤ (4 : Int) := (by omega)
           have q1200 : 4 < (t1178.length : Int) := of_decide_eq_true (by (with_reducible assumption))
           obtain ⟨ad1200, e1200, hx1200_0⟩ := Kd.at_string (Kd.R_reads' HO_4.out).2.2 4 p1200 q1200
           obtain rfl : ad1182 = ad1200 := (by injection e1200)
           (try simp only [show (4 : Int).toNat = 4 from rfl, Nat.reduceMul, Nat.reduceEqDiff, Go.Addr.add, ↓reduceIte] at hx1200_0)
           have qi1200 : (4 < t1178.length) = True := eq_true (by omega)
           (try rw [show ((4 : Int)).toNat = 4 from rfl] at hx1200_0)
           replace p1200 := eq_true p1200
           replace q1200 := eq_true q1200
           go_wp2_with (first | ((with_reducible refine gate_callee (f := 136) rfl ?_); refine goesL_ (some 61) rfl rfl Try.func136 (by kernel_rfl) rfl #[.string (rdOf ByteArray.empty t1178 4)] rfl (by (try simp only [List.map_toArray, List.map_cons, List.map_nil]); rfl) ?_; (with_reducible refine (spec_ParseInt.calls k1 (rdOf ByteArray.empty t1178 4) t1201 t1202 _ A34.out).mono ?_); rintro e w37 ⟨rfl, hb⟩; refine ⟨_, rfl, ?_⟩; have n0_ := Aside0.mk (Kd.R_below HO_4.out hb); have n1_ := Aside0.mk (Kd.R_below HO_1182001.out hb); have n2_ := Aside0.mk (Kd.R_below HO_1182002.out hb); have n3_ := Aside0.mk (Kd.R_below HO_1182003.out hb); have n4_ := Aside0.mk (blk_below (g := gb1177) (o := .cells #[.int .i64 0, .slice none 0 0, .slice none 0 0, .slice none 0 0, .int .i64 0] 40 (0, 0)) BK1177.out hb); have n5_ := Aside0.mk (blk_below (g := gb1181) (o := .cells #[.int .i64 t1183, .slice Ao19 t1186.length co19, .slice Ao22 t1191.length co22, u1182003, .int .i64 0] 40 (0, 0)) BK1181.out hb); have n6_ := Aside0.mk (below_step HB.out hb); clear HO_4; clear HO_1182001; clear HO_1182002; clear HO_1182003; clear BK1177; clear BK1181; clear HB; have HO_4 := n0_; have HO_1182001 := n1_; have HO_1182002 := n2_; have HO_1182003 := n3_; have BK1177 := n4_; have BK1181 := n5_; have HB := n6_; clear n0_ n1_ n2_ n3_ n4_ n5_ n6_; (try clear hb); (try clear hb2); (try clear hk); (try clear hi); have hnb38 := NB1181_1177.out; have hnc38 := NB1177_1181.out; have hcz39_0 : w37.cell? ⟨gb1181, 0, none⟩ = some (.int .i64 t1183) := (blk_cell BK1181.out 0).trans rfl; have hcz39_1 : w37.cell? ⟨gb1181, 1, none⟩ = some (.slice Ao19 t1186.length co19) := (blk_cell BK1181.out 1).trans rfl; have hcz39_2 : w37.cell? ⟨gb1181, 2, none⟩ = some (.slice Ao22 t1191.length co22) := (blk_cell BK1181.out 2).trans rfl; have hcz39_3 : w37.cell? ⟨gb1181, 3, none⟩ = some (u1182003) := (blk_cell BK1181.out 3).trans rfl; have hcz39_4 : w37.cell? ⟨gb1181, 4, none⟩ = some (.int .i64 0) := (blk_cell BK1181.out 4).trans rfl; have hfz39_0 := blk_frozen BK1181.out 0; have hfz39_1 := blk_frozen BK1181.out 1; have hfz39_2 := blk_frozen BK1181.out 2; have hfz39_3 := blk_frozen BK1181.out 3; have hfz39_4 := blk_frozen BK1181.out 4; obtain ⟨Ao40, co40, eo40⟩ := Kd.R_slice HO_1182003.out; subst eo40) | ((with_reducible refine gate_callee (f := 138) rfl ?_); refine goesL_ (some 66) rfl rfl Try.func138 (by kernel_rfl) rfl #[.agg #[.int .i64 t1183, .slice Ao19 t1186.length co19, .slice Ao22 t1191.length co22, .slice Ao40 x1182003_1.length co40, .int .i64 t1201]] rfl (by (try simp only [List.map_toArray, List.map_cons, List.map_nil]); rfl) ?_; (with_reducible refine (spec_FormatTask.calls k1 t1183 _ _ t1186 _ _ t1191 _ _ x1182003_1 t1201 t1203 _ ?side1 ?side2 ?side3 ?side4 ?side5 ?side6 A35.out).mono ?_); (case side1 => refine (Kd.R_reads' (e := 60) (base := w.heap.size) (ok := fun k_ => some k_ ≠ (.slice Ao22 t1191.length co22 : Value).ownBlock) (n := t1186.length) (c := co19) ?_).2.2; exact (by exact (Kd.R_mono (Kd.R_far (p := ⟨gb1181, 4, none⟩) (Kd.R_types HO_1182001.out BK1181.out (by decide)) (fun _ hk => hk.2) (.int .i64 t1201)) (fun _ h_ => h_.1)))); (case side2 => exact (Kd.R_reads' HO_1182001.out).2.1); (case side3 => refine (Kd.R_reads' (e := 60) (base := w.heap.size) (ok := fun k_ => some k_ ≠ (.slice Ao19 t1186.length co19 : Value).ownBlock) (n := t1191.length) (c := co22) ?_).2.2; exact (by exact (Kd.R_mono (Kd.R_far (p := ⟨gb1181, 4, none⟩) (Kd.R_types HO_1182002.out BK1181.out (by decide)) (fun _ hk => hk.2) (.int .i64 t1201)) (fun _ h_ => h_.1)))); (case side4 => exact (Kd.R_reads' HO_1182002.out).2.1); (case side5 => refine (Kd.R_reads' (e := 4) (base := w.heap.size) (ok := fun k_ => True) (n := x1182003_1.length) (c := co40) ?_).2.2; exact (by exact (Kd.R_mono (Kd.R_far (p := ⟨gb1181, 4, none⟩) (Kd.R_types HO_1182003.out BK1181.out (by decide)) (fun _ hk => hk.2) (.int .i64 t1201)) (fun _ h_ => h_.1)))); (case side6 => exact (Kd.R_reads' HO_1182003.out).2.1); rintro e w41 ⟨rfl, hb⟩; refine ⟨_, rfl, ?_⟩; have n0_ := Aside0.mk (Kd.R_below (by exact (Kd.R_mono (Kd.R_far (p := ⟨gb1181, 4, none⟩) (Kd.R_types HO_4.out BK1181.out (by decide)) (fun _ hk => hk.2) (.int .i64 t1201)) (fun _ h_ => h_.1))) hb); have n1_ := Aside0.mk (Kd.R_below (by exact (Kd.R_mono (Kd.R_far (p := ⟨gb1181, 4, none⟩) (Kd.R_types HO_1182001.out BK1181.out (by decide)) (fun _ hk => hk.2) (.int .i64 t1201)) (fun _ h_ => h_.1))) hb); have n2_ := Aside0.mk (Kd.R_below (by exact (Kd.R_mono (Kd.R_far (p := ⟨gb1181, 4, none⟩) (Kd.R_types HO_1182002.out BK1181.out (by decide)) (fun _ hk => hk.2) (.int .i64 t1201)) (fun _ h_ => h_.1))) hb); have n3_ := Aside0.mk (Kd.R_below (by exact (Kd.R_mono (Kd.R_far (p := ⟨gb1181, 4, none⟩) (Kd.R_types HO_1182003.out BK1181.out (by decide)) (fun _ hk => hk.2) (.int .i64 t1201)) (fun _ h_ => h_.1))) hb); have n4_ := Aside0.mk (blk_below (g := gb1177) (o := .cells #[.int .i64 0, .slice none 0 0, .slice none 0 0, .slice none 0 0, .int .i64 0] 40 (0, 0)) (by refine blk_far ?_ NB1177_1181.out _; exact BK1177.out) hb); have n5_ := Aside0.mk (blk_below (g := gb1181) (o := .cells #[.int .i64 t1183, .slice Ao19 t1186.length co19, .slice Ao22 t1191.length co22, .slice Ao40 x1182003_1.length co40, .int .i64 t1201] 40 (0, 0)) (by refine blk_put (cs := #[.int .i64 t1183, .slice Ao19 t1186.length co19, .slice Ao22 t1191.length co22, .slice Ao40 x1182003_1.length co40, .int .i64 0]) ?_ 4 _ rfl; exact BK1181.out) hb); have n6_ := Aside0.mk (below_step (by repeat (with_reducible first | exact HB.out | refine below_set ?_ GE1181.out)) hb); clear HO_4; clear HO_1182001; clear HO_1182002; clear HO_1182003; clear BK1177; clear BK1181; clear HB; have HO_4 := n0_; have HO_1182001 := n1_; have HO_1182002 := n2_; have HO_1182003 := n3_; have BK1177 := n4_; have BK1181 := n5_; have HB := n6_; clear n0_ n1_ n2_ n3_ n4_ n5_ n6_; (try clear hb); (try clear hb2); (try clear hk); (try clear hi); have hcz42_0 : w41.cell? ⟨gb1181, 0, none⟩ = some (.int .i64 t1183) := (blk_cell BK1181.out 0).trans rfl; have hcz42_1 : w41.cell? ⟨gb1181, 1, none⟩ = some (.slice Ao19 t1186.length co19) := (blk_cell BK1181.out 1).trans rfl; have hcz42_2 : w41.cell? ⟨gb1181, 2, none⟩ = some (.slice Ao22 t1191.length co22) := (blk_cell BK1181.out 2).trans rfl; have hcz42_3 : w41.cell? ⟨gb1181, 3, none⟩ = some (.slice Ao40 x1182003_1.length co40) := (blk_cell BK1181.out 3).trans rfl; have hcz42_4 : w41.cell? ⟨gb1181, 4, none⟩ = some (.int .i64 t1201) := (blk_cell BK1181.out 4).trans rfl; have hfz42_0 := blk_frozen BK1181.out 0; have hfz42_1 := blk_frozen BK1181.out 1; have hfz42_2 := blk_frozen BK1181.out 2; have hfz42_3 := blk_frozen BK1181.out 3; have hfz42_4 := blk_frozen BK1181.out 4; have hcz43_0 : w41.cell? ⟨gb1177, 0, none⟩ = some (.int .i64 0) := (blk_cell BK1177.out 0).trans rfl; have hcz43_1 : w41.cell? ⟨gb1177, 1, none⟩ = some (.slice none 0 0) := (blk_cell BK1177.out 1).trans rfl; have hcz43_2 : w41.cell? ⟨gb1177, 2, none⟩ = some (.slice none 0 0) := (blk_cell BK1177.out 2).trans rfl; have hcz43_3 : w41.cell? ⟨gb1177, 3, none⟩ = some (.slice none 0 0) := (blk_cell BK1177.out 3).trans rfl; have hcz43_4 : w41.cell? ⟨gb1177, 4, none⟩ = some (.int .i64 0) := (blk_cell BK1177.out 4).trans rfl; have hfz43_0 := blk_frozen BK1177.out 0; have hfz43_1 := blk_frozen BK1177.out 1; have hfz43_2 := blk_frozen BK1177.out 2; have hfz43_3 := blk_frozen BK1177.out 3; have hfz43_4 := blk_frozen BK1177.out 4))
           refine bodyPost_ret (results_ct rfl _ _ gb1177 40 #[.int .i64 t1183, .slice Ao19 t1186.length co19, .slice Ao22 t1191.length co22, .slice Ao40 x1182003_1.length co40, .int .i64 t1201] (0, 0) _ rfl (by refine blk_put (cs := #[.int .i64 t1183, .slice Ao19 t1186.length co19, .slice Ao22 t1191.length co22, .slice Ao40 x1182003_1.length co40, .int .i64 0]) ?_ 4 _ rfl; refine blk_put (cs := #[.int .i64 t1183, .slice Ao19 t1186.length co19, .slice Ao22 t1191.length co22, .slice none 0 0, .int .i64 0]) ?_ 3 _ rfl; refine blk_put (cs := #[.int .i64 t1183, .slice Ao19 t1186.length co19, .slice none 0 0, .slice none 0 0, .int .i64 0]) ?_ 2 _ rfl; refine blk_put (cs := #[.int .i64 t1183, .slice none 0 0, .slice none 0 0, .slice none 0 0, .int .i64 0]) ?_ 1 _ rfl; refine blk_put (cs := #[.int .i64 0, .slice none 0 0, .slice none 0 0, .slice none 0 0, .int .i64 0]) ?_ 0 _ rfl; exact BK1177.out) Try.underlying40 rfl (by kernel_rfl)) rfl ?_
           exact ⟨_, _, _, rfl, by exact Kd.R_mono (Kd.R_far (p := ⟨gb1177, 4, none⟩) (Kd.R_far (p := ⟨gb1177, 3, none⟩) (Kd.R_far (p := ⟨gb1177, 2, none⟩) (Kd.R_far (p := ⟨gb1177, 1, none⟩) (Kd.R_far (p := ⟨gb1177, 0, none⟩) (Kd.R_types HO_1182001.out BK1177.out (by decide)) (fun _ hk => hk.2) (.int .i64 t1183)) (fun _ hk => hk.2) (.slice Ao19 t1186.length co19)) (fun _ hk => hk.2) (.slice Ao22 t1191.length co22)) (fun _ hk => hk.2) (.slice Ao40 x1182003_1.length co40)) (fun _ hk => hk.2) (.int .i64 t1201)) (fun _ hk => hk.1), by exact Kd.R_mono (Kd.R_far (p := ⟨gb1177, 4, none⟩) (Kd.R_far (p := ⟨gb1177, 3, none⟩) (Kd.R_far (p := ⟨gb1177, 2, none⟩) (Kd.R_far (p := ⟨gb1177, 1, none⟩) (Kd.R_far (p := ⟨gb1177, 0, none⟩) (Kd.R_types HO_1182002.out BK1177.out (by decide)) (fun _ hk => hk.2) (.int .i64 t1183)) (fun _ hk => hk.2) (.slice Ao19 t1186.length co19)) (fun _ hk => hk.2) (.slice Ao22 t1191.length co22)) (fun _ hk => hk.2) (.slice Ao40 x1182003_1.length co40)) (fun _ hk => hk.2) (.int .i64 t1201)) (fun _ hk => hk.1), by exact Kd.R_mono (Kd.R_far (p := ⟨gb1177, 4, none⟩) (Kd.R_far (p := ⟨gb1177, 3, none⟩) (Kd.R_far (p := ⟨gb1177, 2, none⟩) (Kd.R_far (p := ⟨gb1177, 1, none⟩) (Kd.R_far (p := ⟨gb1177, 0, none⟩) (Kd.R_types HO_1182003.out BK1177.out (by decide)) (fun _ hk => hk.2) (.int .i64 t1183)) (fun _ hk => hk.2) (.slice Ao19 t1186.length co19)) (fun _ hk => hk.2) (.slice Ao22 t1191.length co22)) (fun _ hk => hk.2) (.slice Ao40 x1182003_1.length co40)) (fun _ hk => hk.2) (.int .i64 t1201)) (fun _ hk => trivial), by repeat ((with_reducible first | exact HB.out | refine below_set ?_ GE1177.out))⟩
          ·rw [if_neg c36] at H
           have c36b0 : (t1203.toList == a0.toList) = false := beq_eq_false_iff_ne.mpr c36
           have c36b1 : (t1203.toList != a0.toList) = true := bne_iff_ne.mpr c36
           simp only [Option.some.injEq, Prod.mk.injEq] at H
           obtain ⟨rfl, rfl, rfl, rfl, rfl, rfl⟩ := H
           have p1195 : 0 ≤ (3 : Int) := (by omega)
           have q1195 : 3 < (t1178.length : Int) := of_decide_eq_true (by (with_reducible assumption))
           obtain ⟨ad1195, e1195, hx1195_0⟩ := Kd.at_string (Kd.R_reads' HO_4.out).2.2 3 p1195 q1195
           obtain rfl : ad1182 = ad1195 := (by injection e1195)
           (try simp only [show (3 : Int).toNat = 3 from rfl, Nat.reduceMul, Nat.reduceEqDiff, Go.Addr.add, ↓reduceIte] at hx1195_0)
           have qi1195 : (3 < t1178.length) = True := eq_true (by omega)
           (try rw [show ((3 : Int)).toNat = 3 from rfl] at hx1195_0)
           replace p1195 := eq_true p1195
           replace q1195 := eq_true q1195
           have p1200 : 0 ≤ (4 : Int) := (by omega)
           have q1200 : 4 < (t1178.length : Int) := of_decide_eq_true (by (with_reducible assumption))
           obtain ⟨ad1200, e1200, hx1200_0⟩ := Kd.at_string (Kd.R_reads' HO_4.out).2.2 4 p1200 q1200
           obtain rfl : ad1182 = ad1200 := (by injection e1200)
           (try simp only [show (4 : Int).toNat = 4 from rfl, Nat.reduceMul, Nat.reduceEqDiff, Go.Addr.add, ↓reduceIte] at hx1200_0)
           have qi1200 : (4 < t1178.length) = True := eq_true (by omega)
           (try rw [show ((4 : Int)).toNat = 4 from rfl] at hx1200_0)
           replace p1200 := eq_true p1200
           replace q1200 := eq_true q1200
           go_wp2_with (first | ((with_reducible refine gate_callee (f := 136) rfl ?_); refine goesL_ (some 61) rfl rfl Try.func136 (by kernel_rfl) rfl #[.string (rdOf ByteArray.empty t1178 4)] rfl (by (try simp only [List.map_toArray, List.map_cons, List.map_nil]); rfl) ?_; (with_reducible refine (spec_ParseInt.calls k1 (rdOf ByteArray.empty t1178 4) t1201 t1202 _ A34.out).mono ?_); rintro e w44 ⟨rfl, hb⟩; refine ⟨_, rfl, ?_⟩; have n0_ := Aside0.mk (Kd.R_below HO_4.out hb); have n1_ := Aside0.mk (Kd.R_below HO_1182001.out hb); have n2_ := Aside0.mk (Kd.R_below HO_1182002.out hb); have n3_ := Aside0.mk (Kd.R_below HO_1182003.out hb); have n4_ := Aside0.mk (blk_below (g := gb1177) (o := .cells #[.int .i64 0, .slice none 0 0, .slice none 0 0, .slice none 0 0, .int .i64 0] 40 (0, 0)) BK1177.out hb); have n5_ := Aside0.mk (blk_below (g := gb1181) (o := .cells #[.int .i64 t1183, .slice Ao19 t1186.length co19, .slice Ao22 t1191.length co22, u1182003, .int .i64 0] 40 (0, 0)) BK1181.out hb); have n6_ := Aside0.mk (below_step HB.out hb); clear HO_4; clear HO_1182001; clear HO_1182002; clear HO_1182003; clear BK1177; clear BK1181; clear HB; have HO_4 := n0_; have HO_1182001 := n1_; have HO_1182002 := n2_; have HO_1182003 := n3_; have BK1177 := n4_; have BK1181 := n5_; have HB := n6_; clear n0_ n1_ n2_ n3_ n4_ n5_ n6_; (try clear hb); (try clear hb2); (try clear hk); (try clear hi); have hnb45 := NB1181_1177.out; have hnc45 := NB1177_1181.out; have hcz46_0 : w44.cell? ⟨gb1181, 0, none⟩ = some (.int .i64 t1183) := (blk_cell BK1181.out 0).trans rfl; have hcz46_1 : w44.cell? ⟨gb1181, 1, none⟩ = some (.slice Ao19 t1186.length co19) := (blk_cell BK1181.out 1).trans rfl; have hcz46_2 : w44.cell? ⟨gb1181, 2, none⟩ = some (.slice Ao22 t1191.length co22) := (blk_cell BK1181.out 2).trans rfl; have hcz46_3 : w44.cell? ⟨gb1181, 3, none⟩ = some (u1182003) := (blk_cell BK1181.out 3).trans rfl; have hcz46_4 : w44.cell? ⟨gb1181, 4, none⟩ = some (.int .i64 0) := (blk_cell BK1181.out 4).trans rfl; have hfz46_0 := blk_frozen BK1181.out 0; have hfz46_1 := blk_frozen BK1181.out 1; have hfz46_2 := blk_frozen BK1181.out 2; have hfz46_3 := blk_frozen BK1181.out 3; have hfz46_4 := blk_frozen BK1181.out 4; obtain ⟨Ao47, co47, eo47⟩ := Kd.R_slice HO_1182003.out; subst eo47) | ((with_reducible refine gate_callee (f := 138) rfl ?_); refine goesL_ (some 66) rfl rfl Try.func138 (by kernel_rfl) rfl #[.agg #[.int .i64 t1183, .slice Ao19 t1186.length co19, .slice Ao22 t1191.length co22, .slice Ao47 x1182003_1.length co47, .int .i64 t1201]] rfl (by (try simp only [List.map_toArray, List.map_cons, List.map_nil]); rfl) ?_; (with_reducible refine (spec_FormatTask.calls k1 t1183 _ _ t1186 _ _ t1191 _ _ x1182003_1 t1201 t1203 _ ?side1 ?side2 ?side3 ?side4 ?side5 ?side6 A35.out).mono ?_); (case side1 => refine (Kd.R_reads' (e := 60) (base := w.heap.size) (ok := fun k_ => some k_ ≠ (.slice Ao22 t1191.length co22 : Value).ownBlock) (n := t1186.length) (c := co19) ?_).2.2; exact (by exact (Kd.R_mono (Kd.R_far (p := ⟨gb1181, 4, none⟩) (Kd.R_types HO_1182001.out BK1181.out (by decide)) (fun _ hk => hk.2) (.int .i64 t1201)) (fun _ h_ => h_.1)))); (case side2 => exact (Kd.R_reads' HO_1182001.out).2.1); (case side3 => refine (Kd.R_reads' (e := 60) (base := w.heap.size) (ok := fun k_ => some k_ ≠ (.slice Ao19 t1186.length co19 : Value).ownBlock) (n := t1191.length) (c := co22) ?_).2.2; exact (by exact (Kd.R_mono (Kd.R_far (p := ⟨gb1181, 4, none⟩) (Kd.R_types HO_1182002.out BK1181.out (by decide)) (fun _ hk => hk.2) (.int .i64 t1201)) (fun _ h_ => h_.1)))); (case side4 => exact (Kd.R_reads' HO_1182002.out).2.1); (case side5 => refine (Kd.R_reads' (e := 4) (base := w.heap.size) (ok := fun k_ => True) (n := x1182003_1.length) (c := co47) ?_).2.2; exact (by exact (Kd.R_mono (Kd.R_far (p := ⟨gb1181, 4, none⟩) (Kd.R_types HO_1182003.out BK1181.out (by decide)) (fun _ hk => hk.2) (.int .i64 t1201)) (fun _ h_ => h_.1)))); (case side6 => exact (Kd.R_reads' HO_1182003.out).2.1); rintro e w48 ⟨rfl, hb⟩; refine ⟨_, rfl, ?_⟩; have n0_ := Aside0.mk (Kd.R_below (by exact (Kd.R_mono (Kd.R_far (p := ⟨gb1181, 4, none⟩) (Kd.R_types HO_4.out BK1181.out (by decide)) (fun _ hk => hk.2) (.int .i64 t1201)) (fun _ h_ => h_.1))) hb); have n1_ := Aside0.mk (Kd.R_below (by exact (Kd.R_mono (Kd.R_far (p := ⟨gb1181, 4, none⟩) (Kd.R_types HO_1182001.out BK1181.out (by decide)) (fun _ hk => hk.2) (.int .i64 t1201)) (fun _ h_ => h_.1))) hb); have n2_ := Aside0.mk (Kd.R_below (by exact (Kd.R_mono (Kd.R_far (p := ⟨gb1181, 4, none⟩) (Kd.R_types HO_1182002.out BK1181.out (by decide)) (fun _ hk => hk.2) (.int .i64 t1201)) (fun _ h_ => h_.1))) hb); have n3_ := Aside0.mk (Kd.R_below (by exact (Kd.R_mono (Kd.R_far (p := ⟨gb1181, 4, none⟩) (Kd.R_types HO_1182003.out BK1181.out (by decide)) (fun _ hk => hk.2) (.int .i64 t1201)) (fun _ h_ => h_.1))) hb); have n4_ := Aside0.mk (blk_below (g := gb1177) (o := .cells #[.int .i64 0, .slice none 0 0, .slice none 0 0, .slice none 0 0, .int .i64 0] 40 (0, 0)) (by refine blk_far ?_ NB1177_1181.out _; exact BK1177.out) hb); have n5_ := Aside0.mk (blk_below (g := gb1181) (o := .cells #[.int .i64 t1183, .slice Ao19 t1186.length co19, .slice Ao22 t1191.length co22, .slice Ao47 x1182003_1.length co47, .int .i64 t1201] 40 (0, 0)) (by refine blk_put (cs := #[.int .i64 t1183, .slice Ao19 t1186.length co19, .slice Ao22 t1191.length co22, .slice Ao47 x1182003_1.length co47, .int .i64 0]) ?_ 4 _ rfl; exact BK1181.out) hb); have n6_ := Aside0.mk (below_step (by repeat (with_reducible first | exact HB.out | refine below_set ?_ GE1181.out)) hb); clear HO_4; clear HO_1182001; clear HO_1182002; clear HO_1182003; clear BK1177; clear BK1181; clear HB; have HO_4 := n0_; have HO_1182001 := n1_; have HO_1182002 := n2_; have HO_1182003 := n3_; have BK1177 := n4_; have BK1181 := n5_; have HB := n6_; clear n0_ n1_ n2_ n3_ n4_ n5_ n6_; (try clear hb); (try clear hb2); (try clear hk); (try clear hi); have hcz49_0 : w48.cell? ⟨gb1177, 0, none⟩ = some (.int .i64 0) := (blk_cell BK1177.out 0).trans rfl; have hcz49_1 : w48.cell? ⟨gb1177, 1, none⟩ = some (.slice none 0 0) := (blk_cell BK1177.out 1).trans rfl; have hcz49_2 : w48.cell? ⟨gb1177, 2, none⟩ = some (.slice none 0 0) := (blk_cell BK1177.out 2).trans rfl; have hcz49_3 : w48.cell? ⟨gb1177, 3, none⟩ = some (.slice none 0 0) := (blk_cell BK1177.out 3).trans rfl; have hcz49_4 : w48.cell? ⟨gb1177, 4, none⟩ = some (.int .i64 0) := (blk_cell BK1177.out 4).trans rfl; have hfz49_0 := blk_frozen BK1177.out 0; have hfz49_1 := blk_frozen BK1177.out 1; have hfz49_2 := blk_frozen BK1177.out 2; have hfz49_3 := blk_frozen BK1177.out 3; have hfz49_4 := blk_frozen BK1177.out 4))
           refine bodyPost_ret (results_ct rfl _ _ gb1177 40 #[.int .i64 0, .slice none 0 0, .slice none 0 0, .slice none 0 0, .int .i64 0] (0, 0) _ rfl (by refine blk_put (cs := #[.int .i64 0, .slice none 0 0, .slice none 0 0, .slice none 0 0, .int .i64 0]) ?_ 4 _ rfl; refine blk_put (cs := #[.int .i64 0, .slice none 0 0, .slice none 0 0, .slice none 0 0, .int .i64 0]) ?_ 3 _ rfl; refine blk_put (cs := #[.int .i64 0, .slice none 0 0, .slice none 0 0, .slice none 0 0, .int .i64 0]) ?_ 2 _ rfl; refine blk_put (cs := #[.int .i64 0, .slice none 0 0, .slice none 0 0, .slice none 0 0, .int .i64 0]) ?_ 1 _ rfl; refine blk_put (cs := #[.int .i64 0, .slice none 0 0, .slice none 0 0, .slice none 0 0, .int .i64 0]) ?_ 0 _ rfl; exact BK1177.out) Try.underlying40 rfl (by kernel_rfl)) rfl ?_
           exact ⟨_, _, _, rfl, by exact Kd.R_nil _ _ _ _ _, by exact Kd.R_nil _ _ _ _ _, by exact Kd.R_nil _ _ _ _ _, by repeat ((with_reducible first | exact HB.out | refine below_set ?_ GE1177.out))⟩
         ·rw [if_neg c33] at H
          exact absurd H (by simp)
       ·rw [if_neg c24] at H
        exact absurd H (by simp)
    ·rw [if_neg c8] at H
     exact absurd H (by simp)
   ·rw [if_neg c6] at H
    exact absurd H (by simp)
  ·rw [if_neg c4] at H
   exact absurd H (by simp)
 ·rw [if_neg c3] at H
  have c3b0 : ((t1178.length : Int) == 5) = false := beq_eq_false_iff_ne.mpr c3
  have c3b1 : ((t1178.length : Int) != 5) = true := bne_iff_ne.mpr c3
  simp only [Option.some.injEq, Prod.mk.injEq] at H
  obtain ⟨rfl, rfl, rfl, rfl, rfl, rfl⟩ := H
  go_enter Try.func40, Try.ntmps40
  go_wp2_with (first | ((with_reducible refine gate_dst (N := 2) rfl ?_); refine box_event ?hg (N := 2) ?hd (cs := #[.int .i64 0, .slice none 0 0, .slice none 0 0, .slice none 0 0, .int .i64 0]) (t := 40) ?hr ?_; (case hd => rfl); (case hg => rfl); (case hr => (go_simp; done)); intro gb1177 hg w50 hbox hb; have n0_ := Aside0.mk (below_step HB.out hb); have n1_ := Aside0.mk (hbox); have n2_ := Aside0.mk ((by rw [hg]; exact (below_size HB.out) : w.heap.size ≤ gb1177)); have n3_ := Aside0.mk ((by rw [hg]; exact (below_size HB.out) : w.heap.size ≤ gb1177)); clear HB; have HB := n0_; have BK1177 := n1_; have GW1177 := n2_; have GE1177 := n3_; clear n0_ n1_ n2_ n3_; clear hb hbox hg) | ((with_reducible refine gate_callee (f := 135) rfl ?_); refine goesL_ (some 8) rfl rfl Try.func135 (by kernel_rfl) rfl #[.string a0, .int .u8 59] rfl (by (try simp only [List.map_toArray, List.map_cons, List.map_nil]); rfl) ?_; (with_reducible refine (spec_l2Cut.calls k a0 59 t1178 _ A2.out).mono ?_); rintro e w51 ⟨v1179, rfl, ho0, hb⟩; refine ⟨_, rfl, ?_⟩; have n0_ := Aside0.mk (Kd.R_lower ho0 (below_size HB.out)); have n1_ := Aside0.mk (blk_below (g := gb1177) (o := .cells #[.int .i64 0, .slice none 0 0, .slice none 0 0, .slice none 0 0, .int .i64 0] 40 (0, 0)) BK1177.out hb); have n2_ := Aside0.mk (below_step HB.out hb); clear BK1177; clear HB; have HO1180 := n0_; have BK1177 := n1_; have HB := n2_; clear n0_ n1_ n2_; (try clear hb); (try clear hb2); (try clear hk); (try clear hi); (try clear ho0); obtain ⟨Ao52, co52, eo52⟩ := Kd.R_slice HO1180.out; subst eo52; have hcz53_0 : w51.cell? ⟨gb1177, 0, none⟩ = some (.int .i64 0) := (blk_cell BK1177.out 0).trans rfl; have hcz53_1 : w51.cell? ⟨gb1177, 1, none⟩ = some (.slice none 0 0) := (blk_cell BK1177.out 1).trans rfl; have hcz53_2 : w51.cell? ⟨gb1177, 2, none⟩ = some (.slice none 0 0) := (blk_cell BK1177.out 2).trans rfl; have hcz53_3 : w51.cell? ⟨gb1177, 3, none⟩ = some (.slice none 0 0) := (blk_cell BK1177.out 3).trans rfl; have hcz53_4 : w51.cell? ⟨gb1177, 4, none⟩ = some (.int .i64 0) := (blk_cell BK1177.out 4).trans rfl; have hfz53_0 := blk_frozen BK1177.out 0; have hfz53_1 := blk_frozen BK1177.out 1; have hfz53_2 := blk_frozen BK1177.out 2; have hfz53_3 := blk_frozen BK1177.out 3; have hfz53_4 := blk_frozen BK1177.out 4))
  refine bodyPost_ret (results_ct rfl _ _ gb1177 40 #[.int .i64 0, .slice none 0 0, .slice none 0 0, .slice none 0 0, .int .i64 0] (0, 0) _ rfl (by refine blk_put (cs := #[.int .i64 0, .slice none 0 0, .slice none 0 0, .slice none 0 0, .int .i64 0]) ?_ 4 _ rfl; refine blk_put (cs := #[.int .i64 0, .slice none 0 0, .slice none 0 0, .slice none 0 0, .int .i64 0]) ?_ 3 _ rfl; refine blk_put (cs := #[.int .i64 0, .slice none 0 0, .slice none 0 0, .slice none 0 0, .int .i64 0]) ?_ 2 _ rfl; refine blk_put (cs := #[.int .i64 0, .slice none 0 0, .slice none 0 0, .slice none 0 0, .int .i64 0]) ?_ 1 _ rfl; refine blk_put (cs := #[.int .i64 0, .slice none 0 0, .slice none 0 0, .slice none 0 0, .int .i64 0]) ?_ 0 _ rfl; exact BK1177.out) Try.underlying40 rfl (by kernel_rfl)) rfl ?_
  exact ⟨_, _, _, rfl, by exact Kd.R_nil _ _ _ _ _, by exact Kd.R_nil _ _ _ _ _, by exact Kd.R_nil _ _ _ _ _, by repeat ((with_reducible first | exact HB.out | refine below_set ?_ GE1177.out))⟩

end Go.Proofs.Ytobndcjmjhehjaa.P
namespace Go.Proofs.Ytobndcjmjhehjaa.P
open Go.RowKit Go.Proofs.YtobndcjmjhehjaaW.PrintWords Go.Proofs.YtobndcjmjhehjaaW.PrintLast Go.Proofs.YtobndcjmjhehjaaW.PrintMore
attribute [local go_sem] max2_int min2_int max_two min_two max_three min_three max_four min_four   -- for this text's walks alone
set_option linter.unusedVariables false
set_option linter.unusedSimpArgs false

/-! ### impl_within: function 134 -/
def impl_within.f (a0 : Int) (a1 : Int) (a2 : Int) : Option (Bool) := if a0 ≥ a1 then (some (decide (a0 ≤ a2))) else (some false)
set_option maxHeartbeats 8000000 in
set_option maxRecDepth 100000 in
theorem impl_within.calls (a0 : Int) (a1 : Int) (a2 : Int) (r : Bool) (w : World) (h : impl_within.f a0 a1 a2 = some r) :
  Calls Try.prog 134 #[.int .i64 a0, .int .i64 a1, .int .i64 a2] w fun e w' => e = .returned (.bool r) ∧ Drawn0 w w' := by
 have H : (if a0 ≥ a1 then (some (decide (a0 ≤ a2))) else (some false)) = some r := h
 clear h
 by_cases c4 : a0 ≥ a1
 ·rw [if_pos c4] at H
  have c4b0 : decide (a1 ≤ a0) = true := decide_eq_true c4
  clear c4
  obtain rfl := Option.some.inj H
  go_enter Try.func134, Try.ntmps134
  go_wp2
  go_ret
  exact ⟨rfl, by repeat (exact Drawn0.refl _)⟩
 ·rw [if_neg c4] at H
  have c4b0 : decide (a1 ≤ a0) = false := decide_eq_false c4
  clear c4
  obtain rfl := Option.some.inj H
  go_enter Try.func134, Try.ntmps134
  go_wp2
  go_ret
  exact ⟨rfl, by repeat (exact Drawn0.refl _)⟩

end Go.Proofs.Ytobndcjmjhehjaa.P
namespace Go.Proofs.Ytobndcjmjhehjaa.P
open Go.RowKit Go.Proofs.YtobndcjmjhehjaaW.PrintWords Go.Proofs.YtobndcjmjhehjaaW.PrintLast Go.Proofs.YtobndcjmjhehjaaW.PrintMore
attribute [local go_sem] max2_int min2_int max_two min_two max_three min_three max_four min_four   -- for this text's walks alone
set_option linter.unusedVariables false
set_option linter.unusedSimpArgs false

/-! ### impl_IsValidJoinKind: function 132 -/
def impl_IsValidJoinKind.f (a0 : Int) : Option (Bool) := (impl_within.f a0 1 4).bind fun t367 => (some t367)
set_option maxHeartbeats 8000000 in
set_option maxRecDepth 100000 in
theorem impl_IsValidJoinKind.calls (a0 : Int) (r : Bool) (w : World) (h : impl_IsValidJoinKind.f a0 = some r) :
  Calls Try.prog 132 #[.int .i64 a0] w fun e w' => e = .returned (.bool r) ∧ Drawn0 w w' := by
 have H : ((impl_within.f a0 1 4).bind fun t367 => (some t367)) = some r := h
 clear h
 replace H := Option.bind_eq_some_iff.mp H
 obtain ⟨t367, A20, H⟩ := H
 have A2 := Aside0.mk A20
 clear A20
 obtain rfl := Option.some.inj H
 go_enter Try.func132, Try.ntmps132
 go_wp2_with (((with_reducible refine gate_callee (f := 134) rfl ?_); refine goesL_ (some 4) rfl rfl Try.func134 (by kernel_rfl) rfl #[.int .i64 a0, .int .i64 1, .int .i64 4] rfl (by (try simp only [List.map_toArray, List.map_cons, List.map_nil]); rfl) ?_; (with_reducible refine (impl_within.calls a0 1 4 t367 _ A2.out).mono ?_); rintro e w' ⟨rfl, ⟨nd, rfl⟩⟩; refine ⟨_, rfl, ?_⟩))
 go_ret
 exact ⟨rfl, by repeat (first | exact Drawn0.refl _ | apply Drawn0.step)⟩

end Go.Proofs.Ytobndcjmjhehjaa.P
namespace Go.Proofs.Ytobndcjmjhehjaa.P
open Go.RowKit Go.Proofs.YtobndcjmjhehjaaW.PrintWords Go.Proofs.YtobndcjmjhehjaaW.PrintLast Go.Proofs.YtobndcjmjhehjaaW.PrintMore
attribute [local go_sem] max2_int min2_int max_two min_two max_three min_three max_four min_four   -- for this text's walks alone
set_option linter.unusedVariables false
set_option linter.unusedSimpArgs false

/-! ### impl_IsValidRow: function 196 -/
def impl_IsValidRow.f (a0_0 : Int) (a0_1 : Int) (a0_2 : Int) : Option (Bool) := (impl_within.f a0_0 0 9).bind fun t220 => (if t220 = true then ((impl_within.f a0_1 0 99).bind fun t221 => (if t221 = true then ((impl_within.f a0_2 0 3).bind fun t222 => (some t222)) else (some false))) else (some false))
set_option maxHeartbeats 8000000 in
set_option maxRecDepth 100000 in
theorem impl_IsValidRow.calls (a0_0 : Int) (a0_1 : Int) (a0_2 : Int) (r : Bool) (w : World) (h : impl_IsValidRow.f a0_0 a0_1 a0_2 = some r) :
  Calls Try.prog 196 #[.agg #[.int .i64 a0_0, .int .i64 a0_1, .int .i64 a0_2]] w fun e w' => e = .returned (.bool r) ∧ Below w.heap.size w w' := by
 have hu60 := Try.underlying60
 have HB := Aside0.mk (Below.refl w.heap.size w)
 have H : ((impl_within.f a0_0 0 9).bind fun t220 => (if t220 = true then ((impl_within.f a0_1 0 99).bind fun t221 => (if t221 = true then ((impl_within.f a0_2 0 3).bind fun t222 => (some t222)) else (some false))) else (some false))) = some r := h
 clear h
 replace H := Option.bind_eq_some_iff.mp H
 obtain ⟨t220, A20, H⟩ := H
 have A2 := Aside0.mk A20
 clear A20
 by_cases c3 : t220 = true
 ·subst c3
  rw [if_pos rfl] at H
  replace H := Option.bind_eq_some_iff.mp H
  obtain ⟨t221, A40, H⟩ := H
  have A4 := Aside0.mk A40
  clear A40
  by_cases c5 : t221 = true
  ·subst c5
   rw [if_pos rfl] at H
   replace H := Option.bind_eq_some_iff.mp H
   obtain ⟨t222, A60, H⟩ := H
   have A6 := Aside0.mk A60
   clear A60
   obtain rfl := Option.some.inj H
   go_enter Try.func196, Try.ntmps196
   go_wp2_with (first | ((with_reducible refine gate_dst (N := 1) rfl ?_); refine box_event ?hg (N := 1) ?hd (cs := #[.int .i64 a0_0, .int .i64 a0_1, .int .i64 a0_2]) (t := 60) ?hr ?_; (case hd => rfl); (case hg => rfl); (case hr => (go_simp; done)); intro gb219 hg w7 hbox hb; have n0_ := Aside0.mk (below_step HB.out hb); have n1_ := Aside0.mk (hbox); have n2_ := Aside0.mk ((by rw [hg]; exact (below_size HB.out) : w.heap.size ≤ gb219)); have n3_ := Aside0.mk ((by rw [hg]; exact (below_size HB.out) : w.heap.size ≤ gb219)); clear HB; have HB := n0_; have BK219 := n1_; have GW219 := n2_; have GE219 := n3_; clear n0_ n1_ n2_ n3_; clear hb hbox hg; have hcz8_0 : w7.cell? ⟨gb219, 0, none⟩ = some (.int .i64 a0_0) := (blk_cell BK219.out 0).trans rfl; have hcz8_1 : w7.cell? ⟨gb219, 1, none⟩ = some (.int .i64 a0_1) := (blk_cell BK219.out 1).trans rfl; have hcz8_2 : w7.cell? ⟨gb219, 2, none⟩ = some (.int .i64 a0_2) := (blk_cell BK219.out 2).trans rfl; have hfz8_0 := blk_frozen BK219.out 0; have hfz8_1 := blk_frozen BK219.out 1; have hfz8_2 := blk_frozen BK219.out 2) | ((with_reducible refine gate_callee (f := 134) rfl ?_); refine goesL_ (some 5) rfl rfl Try.func134 (by kernel_rfl) rfl #[.int .i64 a0_0, .int .i64 0, .int .i64 9] rfl (by (try simp only [List.map_toArray, List.map_cons, List.map_nil]); rfl) ?_; (with_reducible refine (impl_within.calls a0_0 0 9 true _ A2.out).mono ?_); rintro e w' ⟨rfl, ⟨nd, rfl⟩⟩; refine ⟨_, rfl, ?_⟩) | (go_at_call 134; (with_reducible refine (impl_within.calls a0_1 0 99 true _ A4.out).mono ?_); rintro e w' ⟨rfl, ⟨nd, rfl⟩⟩) | (go_at_call 134; (with_reducible refine (impl_within.calls a0_2 0 3 t222 _ A6.out).mono ?_); rintro e w' ⟨rfl, ⟨nd, rfl⟩⟩))
   go_ret
   exact ⟨rfl, by repeat ((with_reducible first | exact HB.out | apply pw_below_drewN))⟩
  ·replace c5 := Bool.eq_false_iff.mpr c5
   subst c5
   rw [if_neg (show ¬ (false = true) by decide)] at H
   obtain rfl := Option.some.inj H
   go_enter Try.func196, Try.ntmps196
   go_wp2_with (first | ((with_reducible refine gate_dst (N := 1) rfl ?_); refine box_event ?hg (N := 1) ?hd (cs := #[.int .i64 a0_0, .int .i64 a0_1, .int .i64 a0_2]) (t := 60) ?hr ?_; (case hd => rfl); (case hg => rfl); (case hr => (go_simp; done)); intro gb219 hg w9 hbox hb; have n0_ := Aside0.mk (below_step HB.out hb); have n1_ := Aside0.mk (hbox); have n2_ := Aside0.mk ((by rw [hg]; exact (below_size HB.out) : w.heap.size ≤ gb219)); have n3_ := Aside0.mk ((by rw [hg]; exact (below_size HB.out) : w.heap.size ≤ gb219)); clear HB; have HB := n0_; have BK219 := n1_; have GW219 := n2_; have GE219 := n3_; clear n0_ n1_ n2_ n3_; clear hb hbox hg; have hcz10_0 : w9.cell? ⟨gb219, 0, none⟩ = some (.int .i64 a0_0) := (blk_cell BK219.out 0).trans rfl; have hcz10_1 : w9.cell? ⟨gb219, 1, none⟩ = some (.int .i64 a0_1) := (blk_cell BK219.out 1).trans rfl; have hcz10_2 : w9.cell? ⟨gb219, 2, none⟩ = some (.int .i64 a0_2) := (blk_cell BK219.out 2).trans rfl; have hfz10_0 := blk_frozen BK219.out 0; have hfz10_1 := blk_frozen BK219.out 1; have hfz10_2 := blk_frozen BK219.out 2) | ((with_reducible refine gate_callee (f := 134) rfl ?_); refine goesL_ (some 5) rfl rfl Try.func134 (by kernel_rfl) rfl #[.int .i64 a0_0, .int .i64 0, .int .i64 9] rfl (by (try simp only [List.map_toArray, List.map_cons, List.map_nil]); rfl) ?_; (with_reducible refine (impl_within.calls a0_0 0 9 true _ A2.out).mono ?_); rintro e w' ⟨rfl, ⟨nd, rfl⟩⟩; refine ⟨_, rfl, ?_⟩) | (go_at_call 134; (with_reducible refine (impl_within.calls a0_1 0 99 false _ A4.out).mono ?_); rintro e w' ⟨rfl, ⟨nd, rfl⟩⟩))
   go_ret
   exact ⟨rfl, by repeat ((with_reducible first | exact HB.out | apply pw_below_drewN))⟩
 ·replace c3 := Bool.eq_false_iff.mpr c3
  subst c3
  rw [if_neg (show ¬ (false = true) by decide)] at H
  obtain rfl := Option.some.inj H
  go_enter Try.func196, Try.ntmps196
  go_wp2_with (first | ((with_reducible refine gate_dst (N := 1) rfl ?_); refine box_event ?hg (N := 1) ?hd (cs := #[.int .i64 a0_0, .int .i64 a0_1, .int .i64 a0_2]) (t := 60) ?hr ?_; (case hd => rfl); (case hg => rfl); (case hr => (go_simp; done)); intro gb219 hg w11 hbox hb; have n0_ := Aside0.mk (below_step HB.out hb); have n1_ := Aside0.mk (hbox); have n2_ := Aside0.mk ((by rw [hg]; exact (below_size HB.out) : w.heap.size ≤ gb219)); have n3_ := Aside0.mk ((by rw [hg]; exact (below_size HB.out) : w.heap.size ≤ gb219)); clear HB; have HB := n0_; have BK219 := n1_; have GW219 := n2_; have GE219 := n3_; clear n0_ n1_ n2_ n3_; clear hb hbox hg; have hcz12_0 : w11.cell? ⟨gb219, 0, none⟩ = some (.int .i64 a0_0) := (blk_cell BK219.out 0).trans rfl; have hcz12_1 : w11.cell? ⟨gb219, 1, none⟩ = some (.int .i64 a0_1) := (blk_cell BK219.out 1).trans rfl; have hcz12_2 : w11.cell? ⟨gb219, 2, none⟩ = some (.int .i64 a0_2) := (blk_cell BK219.out 2).trans rfl; have hfz12_0 := blk_frozen BK219.out 0; have hfz12_1 := blk_frozen BK219.out 1; have hfz12_2 := blk_frozen BK219.out 2) | ((with_reducible refine gate_callee (f := 134) rfl ?_); refine goesL_ (some 5) rfl rfl Try.func134 (by kernel_rfl) rfl #[.int .i64 a0_0, .int .i64 0, .int .i64 9] rfl (by (try simp only [List.map_toArray, List.map_cons, List.map_nil]); rfl) ?_; (with_reducible refine (impl_within.calls a0_0 0 9 false _ A2.out).mono ?_); rintro e w' ⟨rfl, ⟨nd, rfl⟩⟩; refine ⟨_, rfl, ?_⟩))
  go_ret
  exact ⟨rfl, by repeat ((with_reducible first | exact HB.out | apply pw_below_drewN))⟩

end Go.Proofs.Ytobndcjmjhehjaa.P
namespace Go.Proofs.Ytobndcjmjhehjaa.P
open Go.RowKit Go.Proofs.YtobndcjmjhehjaaW.PrintWords Go.Proofs.YtobndcjmjhehjaaW.PrintLast Go.Proofs.YtobndcjmjhehjaaW.PrintMore
attribute [local go_sem] max2_int min2_int max_two min_two max_three min_three max_four min_four   -- for this text's walks alone
set_option linter.unusedVariables false
set_option linter.unusedSimpArgs false

/-! ### impl_allValid: function 183 -/
def impl_allValid.l0 : Nat → List (S60) → Int → Int → Option (Bool)
 | 0, _, _, _ => none
 | k + 1, x5, x6, x7 => if x7 < x6 then (if 0 ≤ x7 then (if x7 < (x5.length : Int) then ((impl_IsValidRow.f ((rd_T60 x5 x7).f0) ((rd_T60 x5 x7).f1) ((rd_T60 x5 x7).f2)).bind fun t370 => (if t370 = true then (impl_allValid.l0 k x5 x6 (wrap64 (x7 + 1))) else (some false))) else (none)) else (none)) else (some true)
def impl_allValid.f (k : Nat) (l0 : List (S60)) : Option (Bool) := impl_allValid.l0 k l0 (l0.length : Int) 0
theorem impl_allValid.mono_l : ∀ k, (∀ y0 y1 y2, LeO (impl_allValid.l0 k y0 y1 y2) (impl_allValid.l0 (k + 1) y0 y1 y2))
 | 0 => fun _ _ _ r h => by simp [impl_allValid.l0] at h
 | k + 1 => by
  have ih0 := impl_allValid.mono_l k
  ·intro y0 y1 y2
   unfold impl_allValid.l0
   repeat' first
   | (with_reducible exact ih0 _ _ _)
   | (with_reducible exact LeO.refl _)
   | (with_reducible refine LeO.ite ?_ ?_)
   | (with_reducible refine LeO.bind ?_ (fun _ => ?_))
theorem impl_allValid.mono : ∀ a0 k, LeO (impl_allValid.f k a0) (impl_allValid.f (k + 1) a0) := by
 intro a0 k
 have ih0 := impl_allValid.mono_l k
 unfold impl_allValid.f
 repeat' (with_reducible exact ih0 _ _ _)

set_option maxHeartbeats 8000000 in
set_option maxRecDepth 100000 in
theorem impl_allValid.calls (k : Nat) (A0 : Option Addr) (c0 : Nat) (l0 : List (S60)) (r : Bool) (w : World) (hr0 : Kd.C k60 w A0 l0.length l0) (hc0 : l0.length ≤ c0) (h : impl_allValid.f k l0 = some r) :
  Calls Try.prog 183 #[.slice A0 l0.length c0] w fun e w' => e = .returned (.bool r) ∧ Below w.heap.size w w' := by
 have hu60 := Try.underlying60
 have HR0 := Aside0.mk hr0
 have HC0 := Aside0.mk hc0
 clear hr0 hc0
 have HB := Aside0.mk (Below.refl w.heap.size w)
 have H : (impl_allValid.l0 k l0 (l0.length : Int) 0) = some r := h
 clear h
 have H' := Aside0.mk H
 clear H
 go_enter Try.func183, Try.ntmps183
 go_wp2
 go_loopg [7] k (fun kq v7 w' => ∃ (x7_1 : Int), v7 = .int .i64 x7_1 ∧ Aside0 (impl_allValid.l0 kq l0 (l0.length : Int) x7_1 = some r) ∧ Aside0 (kq ≤ k) ∧ Aside0 (Below w.heap.size w w'))
 case atStart => exact ⟨(0), rfl, H', ⟨Nat.le_refl _⟩, ⟨HB.out⟩⟩
 case round =>
  clear H'
  obtain ⟨x7_1, rfl, HA, HK1, HB⟩ := hrel
  cases gk with
  | zero => exact absurd HA.out (by simp [impl_allValid.l0])
  | succ k1 =>
   have H := HA.out
   clear HA
   simp only [impl_allValid.l0] at H
   by_cases c2 : x7_1 < (l0.length : Int)
   ·rw [if_pos c2] at H
    have c2b0 : decide (x7_1 < (l0.length : Int)) = true := decide_eq_true c2
    clear c2
    by_cases c3 : 0 ≤ x7_1
    ·rw [if_pos c3] at H
     have c3b0 : decide (0 ≤ x7_1) = true := decide_eq_true c3
     clear c3
     by_cases c4 : x7_1 < (l0.length : Int)
     ·rw [if_pos c4] at H
      have c4b0 : decide (x7_1 < (l0.length : Int)) = true := decide_eq_true c4
      clear c4
      replace H := Option.bind_eq_some_iff.mp H
      obtain ⟨t370, A50, H⟩ := H
      have A5 := Aside0.mk A50
      clear A50
      by_cases c6 : t370 = true
      ·subst c6
       rw [if_pos rfl] at H
       have H' := Aside0.mk H
       clear H
       have p368 : 0 ≤ (x7_1 : Int) := of_decide_eq_true (by (with_reducible assumption))
       have q368 : x7_1 < (l0.length : Int) := of_decide_eq_true (by (with_reducible assumption))
       obtain ⟨ad368, e368, hx368_0, hx368_1, hx368_2⟩ := at_T60 HR0.out x7_1 p368 q368
       cases e368
       replace hx368_0 := (HB.out.cell (World.block_lt_of_cell? w _ hx368_0)).trans hx368_0
       replace hx368_1 := (HB.out.cell (World.block_lt_of_cell? w _ hx368_1)).trans hx368_1
       replace hx368_2 := (HB.out.cell (World.block_lt_of_cell? w _ hx368_2)).trans hx368_2
       replace p368 := eq_true p368
       replace q368 := eq_true q368
       go_wp2_with (first | ((with_reducible refine gate_dst (N := 4) rfl ?_); refine box_event ?hg (N := 4) ?hd (cs := #[.int .i64 0, .int .i64 0, .int .i64 0]) (t := 60) ?hr ?_; (case hd => rfl); (case hg => rfl); (case hr => (go_simp; done)); intro gb369 hg w7 hbox hb; have n0_ := Aside0.mk (below_step HB.out hb); have n1_ := Aside0.mk (hbox); have n2_ := Aside0.mk ((by rw [hg]; exact (below_size HB.out) : w.heap.size ≤ gb369)); have n3_ := Aside0.mk ((by rw [hg]; exact (below_size HB.out) : w.heap.size ≤ gb369)); clear HB; have HB := n0_; have BK369 := n1_; have GW369 := n2_; have GE369 := n3_; clear n0_ n1_ n2_ n3_; clear hb hbox hg; have hcz8_0 : w7.cell? ⟨gb369, 0, none⟩ = some (.int .i64 0) := (blk_cell BK369.out 0).trans rfl; have hcz8_1 : w7.cell? ⟨gb369, 1, none⟩ = some (.int .i64 0) := (blk_cell BK369.out 1).trans rfl; have hcz8_2 : w7.cell? ⟨gb369, 2, none⟩ = some (.int .i64 0) := (blk_cell BK369.out 2).trans rfl; have hfz8_0 := blk_frozen BK369.out 0; have hfz8_1 := blk_frozen BK369.out 1; have hfz8_2 := blk_frozen BK369.out 2) | ((with_reducible refine gate_callee (f := 196) rfl ?_); refine goesL_ (some 12) rfl rfl Try.func196 (by kernel_rfl) rfl #[.agg #[.int .i64 ((rd_T60 l0 x7_1).f0), .int .i64 ((rd_T60 l0 x7_1).f1), .int .i64 ((rd_T60 l0 x7_1).f2)]] rfl (by (try simp only [List.map_toArray, List.map_cons, List.map_nil]); rfl) ?_; (with_reducible refine (impl_IsValidRow.calls ((rd_T60 l0 x7_1).f0) ((rd_T60 l0 x7_1).f1) ((rd_T60 l0 x7_1).f2) true _ A5.out).mono ?_); rintro e w9 ⟨rfl, hb⟩; refine ⟨_, rfl, ?_⟩; have n0_ := Aside0.mk (blk_below (g := gb369) (o := .cells #[.int .i64 ((rd_T60 l0 x7_1).f0), .int .i64 ((rd_T60 l0 x7_1).f1), .int .i64 ((rd_T60 l0 x7_1).f2)] 60 (0, 0)) (by refine blk_put (cs := #[.int .i64 ((rd_T60 l0 x7_1).f0), .int .i64 ((rd_T60 l0 x7_1).f1), .int .i64 0]) ?_ 2 _ rfl; refine blk_put (cs := #[.int .i64 ((rd_T60 l0 x7_1).f0), .int .i64 0, .int .i64 0]) ?_ 1 _ rfl; refine blk_put (cs := #[.int .i64 0, .int .i64 0, .int .i64 0]) ?_ 0 _ rfl; exact BK369.out) hb); have n1_ := Aside0.mk (below_step (by repeat (with_reducible first | exact HB.out | refine below_set ?_ GE369.out)) hb); clear BK369; clear HB; have BK369 := n0_; have HB := n1_; clear n0_ n1_; (try clear hb); (try clear hb2); (try clear hk); (try clear hi)))
       go_roundg k1
       case measure => have := HK1.out; omega
       case rel => exact ⟨(wrap64 (x7_1 + 1)), rfl, H', ⟨by have := HK1.out; omega⟩, ⟨HB.out⟩⟩
      ·replace c6 := Bool.eq_false_iff.mpr c6
       subst c6
       rw [if_neg (show ¬ (false = true) by decide)] at H
       obtain rfl := Option.some.inj H
       have p368 : 0 ≤ (x7_1 : Int) := of_decide_eq_true (by (with_reducible assumption))
       have q368 : x7_1 < (l0.length : Int) := of_decide_eq_true (by (with_reducible assumption))
       obtain ⟨ad368, e368, hx368_0, hx368_1, hx368_2⟩ := at_T60 HR0.out x7_1 p368 q368
       cases e368
       replace hx368_0 := (HB.out.cell (World.block_lt_of_cell? w _ hx368_0)).trans hx368_0
       replace hx368_1 := (HB.out.cell (World.block_lt_of_cell? w _ hx368_1)).trans hx368_1
       replace hx368_2 := (HB.out.cell (World.block_lt_of_cell? w _ hx368_2)).trans hx368_2
       replace p368 := eq_true p368
       replace q368 := eq_true q368
       go_wp2_with (first | ((with_reducible refine gate_dst (N := 4) rfl ?_); refine box_event ?hg (N := 4) ?hd (cs := #[.int .i64 0, .int .i64 0, .int .i64 0]) (t := 60) ?hr ?_; (case hd => rfl); (case hg => rfl); (case hr => (go_simp; done)); intro gb369 hg w10 hbox hb; have n0_ := Aside0.mk (below_step HB.out hb); have n1_ := Aside0.mk (hbox); have n2_ := Aside0.mk ((by rw [hg]; exact (below_size HB.out) : w.heap.size ≤ gb369)); have n3_ := Aside0.mk ((by rw [hg]; exact (below_size HB.out) : w.heap.size ≤ gb369)); clear HB; have HB := n0_; have BK369 := n1_; have GW369 := n2_; have GE369 := n3_; clear n0_ n1_ n2_ n3_; clear hb hbox hg; have hcz11_0 : w10.cell? ⟨gb369, 0, none⟩ = some (.int .i64 0) := (blk_cell BK369.out 0).trans rfl; have hcz11_1 : w10.cell? ⟨gb369, 1, none⟩ = some (.int .i64 0) := (blk_cell BK369.out 1).trans rfl; have hcz11_2 : w10.cell? ⟨gb369, 2, none⟩ = some (.int .i64 0) := (blk_cell BK369.out 2).trans rfl; have hfz11_0 := blk_frozen BK369.out 0; have hfz11_1 := blk_frozen BK369.out 1; have hfz11_2 := blk_frozen BK369.out 2) | ((with_reducible refine gate_callee (f := 196) rfl ?_); refine goesL_ (some 12) rfl rfl Try.func196 (by kernel_rfl) rfl #[.agg #[.int .i64 ((rd_T60 l0 x7_1).f0), .int .i64 ((rd_T60 l0 x7_1).f1), .int .i64 ((rd_T60 l0 x7_1).f2)]] rfl (by (try simp only [List.map_toArray, List.map_cons, List.map_nil]); rfl) ?_; (with_reducible refine (impl_IsValidRow.calls ((rd_T60 l0 x7_1).f0) ((rd_T60 l0 x7_1).f1) ((rd_T60 l0 x7_1).f2) false _ A5.out).mono ?_); rintro e w12 ⟨rfl, hb⟩; refine ⟨_, rfl, ?_⟩; have n0_ := Aside0.mk (blk_below (g := gb369) (o := .cells #[.int .i64 ((rd_T60 l0 x7_1).f0), .int .i64 ((rd_T60 l0 x7_1).f1), .int .i64 ((rd_T60 l0 x7_1).f2)] 60 (0, 0)) (by refine blk_put (cs := #[.int .i64 ((rd_T60 l0 x7_1).f0), .int .i64 ((rd_T60 l0 x7_1).f1), .int .i64 0]) ?_ 2 _ rfl; refine blk_put (cs := #[.int .i64 ((rd_T60 l0 x7_1).f0), .int .i64 0, .int .i64 0]) ?_ 1 _ rfl; refine blk_put (cs := #[.int .i64 0, .int .i64 0, .int .i64 0]) ?_ 0 _ rfl; exact BK369.out) hb); have n1_ := Aside0.mk (below_step (by repeat (with_reducible first | exact HB.out | refine below_set ?_ GE369.out)) hb); clear BK369; clear HB; have BK369 := n0_; have HB := n1_; clear n0_ n1_; (try clear hb); (try clear hb2); (try clear hk); (try clear hi)))
       go_ret
       exact ⟨rfl, HB.out⟩
     ·rw [if_neg c4] at H
      exact absurd H (by simp)
    ·rw [if_neg c3] at H
     exact absurd H (by simp)
   ·rw [if_neg c2] at H
    have c2b0 : decide (x7_1 < (l0.length : Int)) = false := decide_eq_false c2
    clear c2
    obtain rfl := Option.some.inj H
    go_wp2
    go_ret
    exact ⟨rfl, HB.out⟩

end Go.Proofs.Ytobndcjmjhehjaa.P
namespace Go.Proofs.Ytobndcjmjhehjaa.P
open Go.RowKit Go.Proofs.YtobndcjmjhehjaaW.PrintWords Go.Proofs.YtobndcjmjhehjaaW.PrintLast Go.Proofs.YtobndcjmjhehjaaW.PrintMore
attribute [local go_sem] max2_int min2_int max_two min_two max_three min_three max_four min_four   -- for this text's walks alone
set_option linter.unusedVariables false
set_option linter.unusedSimpArgs false

/-! ### impl_AreValidRows: function 133 -/
def impl_AreValidRows.f (k : Nat) (l0 : List (S60)) : Option (Bool) := if (l0.length : Int) ≤ 24 then ((impl_allValid.f k l0).bind fun t371 => (some t371)) else (some false)
theorem impl_AreValidRows.mono : ∀ a0 k, LeO (impl_AreValidRows.f k a0) (impl_AreValidRows.f (k + 1) a0) := by
 intro a0 k
 unfold impl_AreValidRows.f
 repeat' first
   | (with_reducible exact impl_allValid.mono _ _)
   | (with_reducible exact LeO.refl _)
   | (with_reducible refine LeO.ite ?_ ?_)
   | (with_reducible refine LeO.bind ?_ (fun _ => ?_))
   | refine LeO.bind ?_ (fun _ => ?_)
set_option maxHeartbeats 8000000 in
set_option maxRecDepth 100000 in
theorem impl_AreValidRows.calls (k : Nat) (A0 : Option Addr) (c0 : Nat) (l0 : List (S60)) (r : Bool) (w : World) (hr0 : Kd.C k60 w A0 l0.length l0) (hc0 : l0.length ≤ c0) (h : impl_AreValidRows.f k l0 = some r) :
  Calls Try.prog 133 #[.slice A0 l0.length c0] w fun e w' => e = .returned (.bool r) ∧ Below w.heap.size w w' := by
 have HR0 := Aside0.mk hr0
 have HC0 := Aside0.mk hc0
 clear hr0 hc0
 have HB := Aside0.mk (Below.refl w.heap.size w)
 have H : (if (l0.length : Int) ≤ 24 then ((impl_allValid.f k l0).bind fun t371 => (some t371)) else (some false)) = some r := h
 clear h
 by_cases c2 : (l0.length : Int) ≤ 24
 ·rw [if_pos c2] at H
  have c2b0 : decide ((l0.length : Int) ≤ 24) = true := decide_eq_true c2
  have c2b1 : decide (l0.length ≤ 24) = true := decide_eq_true (by omega)
  clear c2
  replace H := Option.bind_eq_some_iff.mp H
  obtain ⟨t371, A30, H⟩ := H
  have A3 := Aside0.mk A30
  clear A30
  obtain rfl := Option.some.inj H
  go_enter Try.func133, Try.ntmps133
  go_wp2_with ((go_at_call 183; (with_reducible refine (impl_allValid.calls k _ _ l0 t371 _ ?side1 ?side2 A3.out).mono ?_); (case side1 => repeat (exact HR0.out)); (case side2 => exact HC0.out); rintro e w4 ⟨rfl, hb⟩; have n0_ := Aside0.mk (below_step HB.out hb); clear HB; have HB := n0_; clear n0_; (try clear hb); (try clear hb2); (try clear hk); (try clear hi)))
  go_ret
  exact ⟨rfl, HB.out⟩
 ·rw [if_neg c2] at H
  have c2b0 : decide ((l0.length : Int) ≤ 24) = false := decide_eq_false c2
  have c2b1 : decide (l0.length ≤ 24) = false := decide_eq_false (by omega)
  clear c2
  obtain rfl := Option.some.inj H
  go_enter Try.func133, Try.ntmps133
  go_wp2
  go_ret
  exact ⟨rfl, HB.out⟩

end Go.Proofs.Ytobndcjmjhehjaa.P
namespace Go.Proofs.Ytobndcjmjhehjaa.P
open Go.RowKit Go.Proofs.YtobndcjmjhehjaaW.PrintWords Go.Proofs.YtobndcjmjhehjaaW.PrintLast Go.Proofs.YtobndcjmjhehjaaW.PrintMore
attribute [local go_sem] max2_int min2_int max_two min_two max_three min_three max_four min_four   -- for this text's walks alone
set_option linter.unusedVariables false
set_option linter.unusedSimpArgs false

/-! ### impl_IsValidTask: function 39 -/
def impl_IsValidTask.f (k : Nat) (a0_0 : Int) (l0_1 : List (S60)) (l0_2 : List (S60)) (l0_3 : List Bool) (a0_4 : Int) : Option (Bool) := (impl_IsValidJoinKind.f a0_0).bind fun t387 => (if t387 = true then ((impl_AreValidRows.f k l0_1).bind fun t388 => (if t388 = true then ((impl_AreValidRows.f k l0_2).bind fun t389 => (if t389 = true then (if (l0_3.length : Int) = (l0_1.length : Int) then ((impl_within.f a0_4 0 4).bind fun t390 => (some t390)) else (some false)) else (some false))) else (some false))) else (some false))
theorem impl_IsValidTask.mono : ∀ a0 a1 a2 a3 a4 k, LeO (impl_IsValidTask.f k a0 a1 a2 a3 a4) (impl_IsValidTask.f (k + 1) a0 a1 a2 a3 a4) := by
 intro a0 a1 a2 a3 a4 k
 unfold impl_IsValidTask.f
 repeat' first
   | (with_reducible exact impl_AreValidRows.mono _ _)
   | (with_reducible exact LeO.refl _)
   | (with_reducible refine LeO.ite ?_ ?_)
   | (with_reducible refine LeO.bind ?_ (fun _ => ?_))
   | refine LeO.bind ?_ (fun _ => ?_)
set_option maxHeartbeats 8000000 in
set_option maxRecDepth 100000 in
theorem impl_IsValidTask.calls (k : Nat) (a0_0 : Int) (A0_1 : Option Addr) (c0_1 : Nat) (l0_1 : List (S60)) (A0_2 : Option Addr) (c0_2 : Nat) (l0_2 : List (S60)) (A0_3 : Option Addr) (c0_3 : Nat) (l0_3 : List Bool) (a0_4 : Int) (r : Bool) (w : World) (hr0_1 : Kd.C k60 w A0_1 l0_1.length l0_1) (hc0_1 : l0_1.length ≤ c0_1) (hr0_2 : Kd.C k60 w A0_2 l0_2.length l0_2) (hc0_2 : l0_2.length ≤ c0_2) (hr0_3 : Kd.C Kd.bool w A0_3 l0_3.length l0_3) (hc0_3 : l0_3.length ≤ c0_3) (h : impl_IsValidTask.f k a0_0 l0_1 l0_2 l0_3 a0_4 = some r) :
  Calls Try.prog 39 #[.agg #[.int .i64 a0_0, .slice A0_1 l0_1.length c0_1, .slice A0_2 l0_2.length c0_2, .slice A0_3 l0_3.length c0_3, .int .i64 a0_4]] w fun e w' => e = .returned (.bool r) ∧ Below w.heap.size w w' := by
 have hu40 := Try.underlying40
 have HR0_1 := Aside0.mk hr0_1
 have HC0_1 := Aside0.mk hc0_1
 clear hr0_1 hc0_1
 have HR0_2 := Aside0.mk hr0_2
 have HC0_2 := Aside0.mk hc0_2
 clear hr0_2 hc0_2
 have HR0_3 := Aside0.mk hr0_3
 have HC0_3 := Aside0.mk hc0_3
 clear hr0_3 hc0_3
 have HB := Aside0.mk (Below.refl w.heap.size w)
 have H : ((impl_IsValidJoinKind.f a0_0).bind fun t387 => (if t387 = true then ((impl_AreValidRows.f k l0_1).bind fun t388 => (if t388 = true then ((impl_AreValidRows.f k l0_2).bind fun t389 => (if t389 = true then (if (l0_3.length : Int) = (l0_1.length : Int) then ((impl_within.f a0_4 0 4).bind fun t390 => (some t390)) else (some false)) else (some false))) else (some false))) else (some false))) = some r := h
 clear h
 replace H := Option.bind_eq_some_iff.mp H
 obtain ⟨t387, A20, H⟩ := H
 have A2 := Aside0.mk A20
 clear A20
 by_cases c3 : t387 = true
 ·subst c3
  rw [if_pos rfl] at H
  replace H := Option.bind_eq_some_iff.mp H
  obtain ⟨t388, A40, H⟩ := H
  have A4 := Aside0.mk A40
  clear A40
  by_cases c5 : t388 = true
  ·subst c5
   rw [if_pos rfl] at H
   replace H := Option.bind_eq_some_iff.mp H
   obtain ⟨t389, A60, H⟩ := H
   have A6 := Aside0.mk A60
   clear A60
   by_cases c7 : t389 = true
   ·subst c7
    rw [if_pos rfl] at H
    by_cases c8 : (l0_3.length : Int) = (l0_1.length : Int)
    ·rw [if_pos c8] at H
     have c8b0 : ((l0_3.length : Int) == (l0_1.length : Int)) = true := beq_iff_eq.mpr c8
     have c8b1 : ((l0_3.length : Int) != (l0_1.length : Int)) = false := bne_eq_false_iff_eq.mpr c8
     have c8b2 : (l0_3.length == l0_1.length) = true := by (simp at c8 ⊢; omega)
     clear c8
     replace H := Option.bind_eq_some_iff.mp H
     obtain ⟨t390, A90, H⟩ := H
     have A9 := Aside0.mk A90
     clear A90
     obtain rfl := Option.some.inj H
     go_enter Try.func39, Try.ntmps39
     go_wp2_with (first | ((with_reducible refine gate_dst (N := 1) rfl ?_); (try (refine gate_guard rfl ?_; dsimp only)); refine box_event ?hg (N := 1) ?hd (cs := #[.int .i64 a0_0, .slice A0_1 l0_1.length c0_1, .slice A0_2 l0_2.length c0_2, .slice A0_3 l0_3.length c0_3, .int .i64 a0_4]) (t := 40) ?hr ?_; (case hd => rfl); (case hg => rfl); (case hr => (go_simp; done)); intro gb386 hg w10 hbox hb; have n0_ := Aside0.mk (below_step HB.out hb); have n1_ := Aside0.mk (hbox); have n2_ := Aside0.mk ((by rw [hg]; exact (below_size HB.out) : w.heap.size ≤ gb386)); have n3_ := Aside0.mk ((by rw [hg]; exact (below_size HB.out) : w.heap.size ≤ gb386)); clear HB; have HB := n0_; have BK386 := n1_; have GW386 := n2_; have GE386 := n3_; clear n0_ n1_ n2_ n3_; clear hb hbox hg; have hcz11_0 : w10.cell? ⟨gb386, 0, none⟩ = some (.int .i64 a0_0) := (blk_cell BK386.out 0).trans rfl; have hcz11_1 : w10.cell? ⟨gb386, 1, none⟩ = some (.slice A0_1 l0_1.length c0_1) := (blk_cell BK386.out 1).trans rfl; have hcz11_2 : w10.cell? ⟨gb386, 2, none⟩ = some (.slice A0_2 l0_2.length c0_2) := (blk_cell BK386.out 2).trans rfl; have hcz11_3 : w10.cell? ⟨gb386, 3, none⟩ = some (.slice A0_3 l0_3.length c0_3) := (blk_cell BK386.out 3).trans rfl; have hcz11_4 : w10.cell? ⟨gb386, 4, none⟩ = some (.int .i64 a0_4) := (blk_cell BK386.out 4).trans rfl; have hfz11_0 := blk_frozen BK386.out 0; have hfz11_1 := blk_frozen BK386.out 1; have hfz11_2 := blk_frozen BK386.out 2; have hfz11_3 := blk_frozen BK386.out 3; have hfz11_4 := blk_frozen BK386.out 4) | ((with_reducible refine gate_callee (f := 132) rfl ?_); refine goesL_ (some 5) rfl rfl Try.func132 (by kernel_rfl) rfl #[.int .i64 a0_0] rfl (by (try simp only [List.map_toArray, List.map_cons, List.map_nil]); rfl) ?_; (with_reducible refine (impl_IsValidJoinKind.calls a0_0 true _ A2.out).mono ?_); rintro e w' ⟨rfl, ⟨nd, rfl⟩⟩; refine ⟨_, rfl, ?_⟩) | (go_at_call 133; (with_reducible refine (impl_AreValidRows.calls k _ _ l0_1 true _ ?side1 ?side2 A4.out).mono ?_); (case side1 => repeat (exact (Kd.C_below HR0_1.out (by repeat (with_reducible first | exact HB.out | apply pw_below_drewN))))); (case side2 => exact HC0_1.out); rintro e w12 ⟨rfl, hb⟩; have n0_ := Aside0.mk (blk_below (g := gb386) (o := .cells #[.int .i64 a0_0, .slice A0_1 l0_1.length c0_1, .slice A0_2 l0_2.length c0_2, .slice A0_3 l0_3.length c0_3, .int .i64 a0_4] 40 (0, 0)) (by (with_reducible repeat (refine blk_drewN ?_ _)); exact BK386.out) hb); have n1_ := Aside0.mk (below_step (by repeat (with_reducible first | exact HB.out | apply pw_below_drewN)) hb); clear BK386; clear HB; have BK386 := n0_; have HB := n1_; clear n0_ n1_; (try clear hb); (try clear hb2); (try clear hk); (try clear hi); have hcz13_0 : w12.cell? ⟨gb386, 0, none⟩ = some (.int .i64 a0_0) := (blk_cell BK386.out 0).trans rfl; have hcz13_1 : w12.cell? ⟨gb386, 1, none⟩ = some (.slice A0_1 l0_1.length c0_1) := (blk_cell BK386.out 1).trans rfl; have hcz13_2 : w12.cell? ⟨gb386, 2, none⟩ = some (.slice A0_2 l0_2.length c0_2) := (blk_cell BK386.out 2).trans rfl; have hcz13_3 : w12.cell? ⟨gb386, 3, none⟩ = some (.slice A0_3 l0_3.length c0_3) := (blk_cell BK386.out 3).trans rfl; have hcz13_4 : w12.cell? ⟨gb386, 4, none⟩ = some (.int .i64 a0_4) := (blk_cell BK386.out 4).trans rfl; have hfz13_0 := blk_frozen BK386.out 0; have hfz13_1 := blk_frozen BK386.out 1; have hfz13_2 := blk_frozen BK386.out 2; have hfz13_3 := blk_frozen BK386.out 3; have hfz13_4 := blk_frozen BK386.out 4) | (go_at_call 133; (with_reducible refine (impl_AreValidRows.calls k _ _ l0_2 true _ ?side1 ?side2 A6.out).mono ?_); (case side1 => repeat (exact (Kd.C_below HR0_2.out HB.out))); (case side2 => exact HC0_2.out); rintro e w14 ⟨rfl, hb⟩; have n0_ := Aside0.mk (blk_below (g := gb386) (o := .cells #[.int .i64 a0_0, .slice A0_1 l0_1.length c0_1, .slice A0_2 l0_2.length c0_2, .slice A0_3 l0_3.length c0_3, .int .i64 a0_4] 40 (0, 0)) BK386.out hb); have n1_ := Aside0.mk (below_step HB.out hb); clear BK386; clear HB; have BK386 := n0_; have HB := n1_; clear n0_ n1_; (try clear hb); (try clear hb2); (try clear hk); (try clear hi); have hcz15_0 : w14.cell? ⟨gb386, 0, none⟩ = some (.int .i64 a0_0) := (blk_cell BK386.out 0).trans rfl; have hcz15_1 : w14.cell? ⟨gb386, 1, none⟩ = some (.slice A0_1 l0_1.length c0_1) := (blk_cell BK386.out 1).trans rfl; have hcz15_2 : w14.cell? ⟨gb386, 2, none⟩ = some (.slice A0_2 l0_2.length c0_2) := (blk_cell BK386.out 2).trans rfl; have hcz15_3 : w14.cell? ⟨gb386, 3, none⟩ = some (.slice A0_3 l0_3.length c0_3) := (blk_cell BK386.out 3).trans rfl; have hcz15_4 : w14.cell? ⟨gb386, 4, none⟩ = some (.int .i64 a0_4) := (blk_cell BK386.out 4).trans rfl; have hfz15_0 := blk_frozen BK386.out 0; have hfz15_1 := blk_frozen BK386.out 1; have hfz15_2 := blk_frozen BK386.out 2; have hfz15_3 := blk_frozen BK386.out 3; have hfz15_4 := blk_frozen BK386.out 4) | (go_at_call 134; (with_reducible refine (impl_within.calls a0_4 0 4 t390 _ A9.out).mono ?_); rintro e w' ⟨rfl, ⟨nd, rfl⟩⟩))
     go_ret
     exact ⟨rfl, by repeat ((with_reducible first | exact HB.out | apply pw_below_drewN))⟩
    ·rw [if_neg c8] at H
     have c8b0 : ((l0_3.length : Int) == (l0_1.length : Int)) = false := beq_eq_false_iff_ne.mpr c8
     have c8b1 : ((l0_3.length : Int) != (l0_1.length : Int)) = true := bne_iff_ne.mpr c8
     have c8b2 : (l0_3.length == l0_1.length) = false := by (simp at c8 ⊢; omega)
     obtain rfl := Option.some.inj H
     go_enter Try.func39, Try.ntmps39
     go_wp2_with (first | ((with_reducible refine gate_dst (N := 1) rfl ?_); (try (refine gate_guard rfl ?_; dsimp only)); refine box_event ?hg (N := 1) ?hd (cs := #[.int .i64 a0_0, .slice A0_1 l0_1.length c0_1, .slice A0_2 l0_2.length c0_2, .slice A0_3 l0_3.length c0_3, .int .i64 a0_4]) (t := 40) ?hr ?_; (case hd => rfl); (case hg => rfl); (case hr => (go_simp; done)); intro gb386 hg w16 hbox hb; have n0_ := Aside0.mk (below_step HB.out hb); have n1_ := Aside0.mk (hbox); have n2_ := Aside0.mk ((by rw [hg]; exact (below_size HB.out) : w.heap.size ≤ gb386)); have n3_ := Aside0.mk ((by rw [hg]; exact (below_size HB.out) : w.heap.size ≤ gb386)); clear HB; have HB := n0_; have BK386 := n1_; have GW386 := n2_; have GE386 := n3_; clear n0_ n1_ n2_ n3_; clear hb hbox hg; have hcz17_0 : w16.cell? ⟨gb386, 0, none⟩ = some (.int .i64 a0_0) := (blk_cell BK386.out 0).trans rfl; have hcz17_1 : w16.cell? ⟨gb386, 1, none⟩ = some (.slice A0_1 l0_1.length c0_1) := (blk_cell BK386.out 1).trans rfl; have hcz17_2 : w16.cell? ⟨gb386, 2, none⟩ = some (.slice A0_2 l0_2.length c0_2) := (blk_cell BK386.out 2).trans rfl; have hcz17_3 : w16.cell? ⟨gb386, 3, none⟩ = some (.slice A0_3 l0_3.length c0_3) := (blk_cell BK386.out 3).trans rfl; have hcz17_4 : w16.cell? ⟨gb386, 4, none⟩ = some (.int .i64 a0_4) := (blk_cell BK386.out 4).trans rfl; have hfz17_0 := blk_frozen BK386.out 0; have hfz17_1 := blk_frozen BK386.out 1; have hfz17_2 := blk_frozen BK386.out 2; have hfz17_3 := blk_frozen BK386.out 3; have hfz17_4 := blk_frozen BK386.out 4) | ((with_reducible refine gate_callee (f := 132) rfl ?_); refine goesL_ (some 5) rfl rfl Try.func132 (by kernel_rfl) rfl #[.int .i64 a0_0] rfl (by (try simp only [List.map_toArray, List.map_cons, List.map_nil]); rfl) ?_; (with_reducible refine (impl_IsValidJoinKind.calls a0_0 true _ A2.out).mono ?_); rintro e w' ⟨rfl, ⟨nd, rfl⟩⟩; refine ⟨_, rfl, ?_⟩) | (go_at_call 133; (with_reducible refine (impl_AreValidRows.calls k _ _ l0_1 true _ ?side1 ?side2 A4.out).mono ?_); (case side1 => repeat (exact (Kd.C_below HR0_1.out (by repeat (with_reducible first | exact HB.out | apply pw_below_drewN))))); (case side2 => exact HC0_1.out); rintro e w18 ⟨rfl, hb⟩; have n0_ := Aside0.mk (blk_below (g := gb386) (o := .cells #[.int .i64 a0_0, .slice A0_1 l0_1.length c0_1, .slice A0_2 l0_2.length c0_2, .slice A0_3 l0_3.length c0_3, .int .i64 a0_4] 40 (0, 0)) (by (with_reducible repeat (refine blk_drewN ?_ _)); exact BK386.out) hb); have n1_ := Aside0.mk (below_step (by repeat (with_reducible first | exact HB.out | apply pw_below_drewN)) hb); clear BK386; clear HB; have BK386 := n0_; have HB := n1_; clear n0_ n1_; (try clear hb); (try clear hb2); (try clear hk); (try clear hi); have hcz19_0 : w18.cell? ⟨gb386, 0, none⟩ = some (.int .i64 a0_0) := (blk_cell BK386.out 0).trans rfl; have hcz19_1 : w18.cell? ⟨gb386, 1, none⟩ = some (.slice A0_1 l0_1.length c0_1) := (blk_cell BK386.out 1).trans rfl; have hcz19_2 : w18.cell? ⟨gb386, 2, none⟩ = some (.slice A0_2 l0_2.length c0_2) := (blk_cell BK386.out 2).trans rfl; have hcz19_3 : w18.cell? ⟨gb386, 3, none⟩ = some (.slice A0_3 l0_3.length c0_3) := (blk_cell BK386.out 3).trans rfl; have hcz19_4 : w18.cell? ⟨gb386, 4, none⟩ = some (.int .i64 a0_4) := (blk_cell BK386.out 4).trans rfl; have hfz19_0 := blk_frozen BK386.out 0; have hfz19_1 := blk_frozen BK386.out 1; have hfz19_2 := blk_frozen BK386.out 2; have hfz19_3 := blk_frozen BK386.out 3; have hfz19_4 := blk_frozen BK386.out 4) | (go_at_call 133; (with_reducible refine (impl_AreValidRows.calls k _ _ l0_2 true _ ?side1 ?side2 A6.out).mono ?_); (case side1 => repeat (exact (Kd.C_below HR0_2.out HB.out))); (case side2 => exact HC0_2.out); rintro e w20 ⟨rfl, hb⟩; have n0_ := Aside0.mk (blk_below (g := gb386) (o := .cells #[.int .i64 a0_0, .slice A0_1 l0_1.length c0_1, .slice A0_2 l0_2.length c0_2, .slice A0_3 l0_3.length c0_3, .int .i64 a0_4] 40 (0, 0)) BK386.out hb); have n1_ := Aside0.mk (below_step HB.out hb); clear BK386; clear HB; have BK386 := n0_; have HB := n1_; clear n0_ n1_; (try clear hb); (try clear hb2); (try clear hk); (try clear hi); have hcz21_0 : w20.cell? ⟨gb386, 0, none⟩ = some (.int .i64 a0_0) := (blk_cell BK386.out 0).trans rfl; have hcz21_1 : w20.cell? ⟨gb386, 1, none⟩ = some (.slice A0_1 l0_1.length c0_1) := (blk_cell BK386.out 1).trans rfl; have hcz21_2 : w20.cell? ⟨gb386, 2, none⟩ = some (.slice A0_2 l0_2.length c0_2) := (blk_cell BK386.out 2).trans rfl; have hcz21_3 : w20.cell? ⟨gb386, 3, none⟩ = some (.slice A0_3 l0_3.length c0_3) := (blk_cell BK386.out 3).trans rfl; have hcz21_4 : w20.cell? ⟨gb386, 4, none⟩ = some (.int .i64 a0_4) := (blk_cell BK386.out 4).trans rfl; have hfz21_0 := blk_frozen BK386.out 0; have hfz21_1 := blk_frozen BK386.out 1; have hfz21_2 := blk_frozen BK386.out 2; have hfz21_3 := blk_frozen BK386.out 3; have hfz21_4 := blk_frozen BK386.out 4))
     go_ret
     exact ⟨rfl, HB.out⟩
   ·replace c7 := Bool.eq_false_iff.mpr c7
    subst c7
    rw [if_neg (show ¬ (false = true) by decide)] at H
    obtain rfl := Option.some.inj H
    go_enter Try.func39, Try.ntmps39
    go_wp2_with (first | ((with_reducible refine gate_dst (N := 1) rfl ?_); (try (refine gate_guard rfl ?_; dsimp only)); refine box_event ?hg (N := 1) ?hd (cs := #[.int .i64 a0_0, .slice A0_1 l0_1.length c0_1, .slice A0_2 l0_2.length c0_2, .slice A0_3 l0_3.length c0_3, .int .i64 a0_4]) (t := 40) ?hr ?_; (case hd => rfl); (case hg => rfl); (case hr => (go_simp; done)); intro gb386 hg w22 hbox hb; have n0_ := Aside0.mk (below_step HB.out hb); have n1_ := Aside0.mk (hbox); have n2_ := Aside0.mk ((by rw [hg]; exact (below_size HB.out) : w.heap.size ≤ gb386)); have n3_ := Aside0.mk ((by rw [hg]; exact (below_size HB.out) : w.heap.size ≤ gb386)); clear HB; have HB := n0_; have BK386 := n1_; have GW386 := n2_; have GE386 := n3_; clear n0_ n1_ n2_ n3_; clear hb hbox hg; have hcz23_0 : w22.cell? ⟨gb386, 0, none⟩ = some (.int .i64 a0_0) := (blk_cell BK386.out 0).trans rfl; have hcz23_1 : w22.cell? ⟨gb386, 1, none⟩ = some (.slice A0_1 l0_1.length c0_1) := (blk_cell BK386.out 1).trans rfl; have hcz23_2 : w22.cell? ⟨gb386, 2, none⟩ = some (.slice A0_2 l0_2.length c0_2) := (blk_cell BK386.out 2).trans rfl; have hcz23_3 : w22.cell? ⟨gb386, 3, none⟩ = some (.slice A0_3 l0_3.length c0_3) := (blk_cell BK386.out 3).trans rfl; have hcz23_4 : w22.cell? ⟨gb386, 4, none⟩ = some (.int .i64 a0_4) := (blk_cell BK386.out 4).trans rfl; have hfz23_0 := blk_frozen BK386.out 0; have hfz23_1 := blk_frozen BK386.out 1; have hfz23_2 := blk_frozen BK386.out 2; have hfz23_3 := blk_frozen BK386.out 3; have hfz23_4 := blk_frozen BK386.out 4) | ((with_reducible refine gate_callee (f := 132) rfl ?_); refine goesL_ (some 5) rfl rfl Try.func132 (by kernel_rfl) rfl #[.int .i64 a0_0] rfl (by (try simp only [List.map_toArray, List.map_cons, List.map_nil]); rfl) ?_; (with_reducible refine (impl_IsValidJoinKind.calls a0_0 true _ A2.out).mono ?_); rintro e w' ⟨rfl, ⟨nd, rfl⟩⟩; refine ⟨_, rfl, ?_⟩) | (go_at_call 133; (with_reducible refine (impl_AreValidRows.calls k _ _ l0_1 true _ ?side1 ?side2 A4.out).mono ?_); (case side1 => repeat (exact (Kd.C_below HR0_1.out (by repeat (with_reducible first | exact HB.out | apply pw_below_drewN))))); (case side2 => exact HC0_1.out); rintro e w24 ⟨rfl, hb⟩; have n0_ := Aside0.mk (blk_below (g := gb386) (o := .cells #[.int .i64 a0_0, .slice A0_1 l0_1.length c0_1, .slice A0_2 l0_2.length c0_2, .slice A0_3 l0_3.length c0_3, .int .i64 a0_4] 40 (0, 0)) (by (with_reducible repeat (refine blk_drewN ?_ _)); exact BK386.out) hb); have n1_ := Aside0.mk (below_step (by repeat (with_reducible first | exact HB.out | apply pw_below_drewN)) hb); clear BK386; clear HB; have BK386 := n0_; have HB := n1_; clear n0_ n1_; (try clear hb); (try clear hb2); (try clear hk); (try clear hi); have hcz25_0 : w24.cell? ⟨gb386, 0, none⟩ = some (.int .i64 a0_0) := (blk_cell BK386.out 0).trans rfl; have hcz25_1 : w24.cell? ⟨gb386, 1, none⟩ = some (.slice A0_1 l0_1.length c0_1) := (blk_cell BK386.out 1).trans rfl; have hcz25_2 : w24.cell? ⟨gb386, 2, none⟩ = some (.slice A0_2 l0_2.length c0_2) := (blk_cell BK386.out 2).trans rfl; have hcz25_3 : w24.cell? ⟨gb386, 3, none⟩ = some (.slice A0_3 l0_3.length c0_3) := (blk_cell BK386.out 3).trans rfl; have hcz25_4 : w24.cell? ⟨gb386, 4, none⟩ = some (.int .i64 a0_4) := (blk_cell BK386.out 4).trans rfl; have hfz25_0 := blk_frozen BK386.out 0; have hfz25_1 := blk_frozen BK386.out 1; have hfz25_2 := blk_frozen BK386.out 2; have hfz25_3 := blk_frozen BK386.out 3; have hfz25_4 := blk_frozen BK386.out 4) | (go_at_call 133; (with_reducible refine (impl_AreValidRows.calls k _ _ l0_2 false _ ?side1 ?side2 A6.out).mono ?_); (case side1 => repeat (exact (Kd.C_below HR0_2.out HB.out))); (case side2 => exact HC0_2.out); rintro e w26 ⟨rfl, hb⟩; have n0_ := Aside0.mk (blk_below (g := gb386) (o := .cells #[.int .i64 a0_0, .slice A0_1 l0_1.length c0_1, .slice A0_2 l0_2.length c0_2, .slice A0_3 l0_3.length c0_3, .int .i64 a0_4] 40 (0, 0)) BK386.out hb); have n1_ := Aside0.mk (below_step HB.out hb); clear BK386; clear HB; have BK386 := n0_; have HB := n1_; clear n0_ n1_; (try clear hb); (try clear hb2); (try clear hk); (try clear hi)))
    go_ret
    exact ⟨rfl, HB.out⟩
  ·replace c5 := Bool.eq_false_iff.mpr c5
   subst c5
   rw [if_neg (show ¬ (false = true) by decide)] at H
   obtain rfl := Option.some.inj H
   go_enter Try.func39, Try.ntmps39
   go_wp2_with (first | ((with_reducible refine gate_dst (N := 1) rfl ?_); (try (refine gate_guard rfl ?_; dsimp only)); refine box_event ?hg (N := 1) ?hd (cs := #[.int .i64 a0_0, .slice A0_1 l0_1.length c0_1, .slice A0_2 l0_2.length c0_2, .slice A0_3 l0_3.length c0_3, .int .i64 a0_4]) (t := 40) ?hr ?_; (case hd => rfl); (case hg => rfl); (case hr => (go_simp; done)); intro gb386 hg w27 hbox hb; have n0_ := Aside0.mk (below_step HB.out hb); have n1_ := Aside0.mk (hbox); have n2_ := Aside0.mk ((by rw [hg]; exact (below_size HB.out) : w.heap.size ≤ gb386)); have n3_ := Aside0.mk ((by rw [hg]; exact (below_size HB.out) : w.heap.size ≤ gb386)); clear HB; have HB := n0_; have BK386 := n1_; have GW386 := n2_; have GE386 := n3_; clear n0_ n1_ n2_ n3_; clear hb hbox hg; have hcz28_0 : w27.cell? ⟨gb386, 0, none⟩ = some (.int .i64 a0_0) := (blk_cell BK386.out 0).trans rfl; have hcz28_1 : w27.cell? ⟨gb386, 1, none⟩ = some (.slice A0_1 l0_1.length c0_1) := (blk_cell BK386.out 1).trans rfl; have hcz28_2 : w27.cell? ⟨gb386, 2, none⟩ = some (.slice A0_2 l0_2.length c0_2) := (blk_cell BK386.out 2).trans rfl; have hcz28_3 : w27.cell? ⟨gb386, 3, none⟩ = some (.slice A0_3 l0_3.length c0_3) := (blk_cell BK386.out 3).trans rfl; have hcz28_4 : w27.cell? ⟨gb386, 4, none⟩ = some (.int .i64 a0_4) := (blk_cell BK386.out 4).trans rfl; have hfz28_0 := blk_frozen BK386.out 0; have hfz28_1 := blk_frozen BK386.out 1; have hfz28_2 := blk_frozen BK386.out 2; have hfz28_3 := blk_frozen BK386.out 3; have hfz28_4 := blk_frozen BK386.out 4) | ((with_reducible refine gate_callee (f := 132) rfl ?_); refine goesL_ (some 5) rfl rfl Try.func132 (by kernel_rfl) rfl #[.int .i64 a0_0] rfl (by (try simp only [List.map_toArray, List.map_cons, List.map_nil]); rfl) ?_; (with_reducible refine (impl_IsValidJoinKind.calls a0_0 true _ A2.out).mono ?_); rintro e w' ⟨rfl, ⟨nd, rfl⟩⟩; refine ⟨_, rfl, ?_⟩) | (go_at_call 133; (with_reducible refine (impl_AreValidRows.calls k _ _ l0_1 false _ ?side1 ?side2 A4.out).mono ?_); (case side1 => repeat (exact (Kd.C_below HR0_1.out (by repeat (with_reducible first | exact HB.out | apply pw_below_drewN))))); (case side2 => exact HC0_1.out); rintro e w29 ⟨rfl, hb⟩; have n0_ := Aside0.mk (blk_below (g := gb386) (o := .cells #[.int .i64 a0_0, .slice A0_1 l0_1.length c0_1, .slice A0_2 l0_2.length c0_2, .slice A0_3 l0_3.length c0_3, .int .i64 a0_4] 40 (0, 0)) (by (with_reducible repeat (refine blk_drewN ?_ _)); exact BK386.out) hb); have n1_ := Aside0.mk (below_step (by repeat (with_reducible first | exact HB.out | apply pw_below_drewN)) hb); clear BK386; clear HB; have BK386 := n0_; have HB := n1_; clear n0_ n1_; (try clear hb); (try clear hb2); (try clear hk); (try clear hi)))
   go_ret
   exact ⟨rfl, HB.out⟩
 ·replace c3 := Bool.eq_false_iff.mpr c3
  subst c3
  rw [if_neg (show ¬ (false = true) by decide)] at H
  obtain rfl := Option.some.inj H
  go_enter Try.func39, Try.ntmps39
  go_wp2_with (first | ((with_reducible refine gate_dst (N := 1) rfl ?_); (try (refine gate_guard rfl ?_; dsimp only)); refine box_event ?hg (N := 1) ?hd (cs := #[.int .i64 a0_0, .slice A0_1 l0_1.length c0_1, .slice A0_2 l0_2.length c0_2, .slice A0_3 l0_3.length c0_3, .int .i64 a0_4]) (t := 40) ?hr ?_; (case hd => rfl); (case hg => rfl); (case hr => (go_simp; done)); intro gb386 hg w30 hbox hb; have n0_ := Aside0.mk (below_step HB.out hb); have n1_ := Aside0.mk (hbox); have n2_ := Aside0.mk ((by rw [hg]; exact (below_size HB.out) : w.heap.size ≤ gb386)); have n3_ := Aside0.mk ((by rw [hg]; exact (below_size HB.out) : w.heap.size ≤ gb386)); clear HB; have HB := n0_; have BK386 := n1_; have GW386 := n2_; have GE386 := n3_; clear n0_ n1_ n2_ n3_; clear hb hbox hg; have hcz31_0 : w30.cell? ⟨gb386, 0, none⟩ = some (.int .i64 a0_0) := (blk_cell BK386.out 0).trans rfl; have hcz31_1 : w30.cell? ⟨gb386, 1, none⟩ = some (.slice A0_1 l0_1.length c0_1) := (blk_cell BK386.out 1).trans rfl; have hcz31_2 : w30.cell? ⟨gb386, 2, none⟩ = some (.slice A0_2 l0_2.length c0_2) := (blk_cell BK386.out 2).trans rfl; have hcz31_3 : w30.cell? ⟨gb386, 3, none⟩ = some (.slice A0_3 l0_3.length c0_3) := (blk_cell BK386.out 3).trans rfl; have hcz31_4 : w30.cell? ⟨gb386, 4, none⟩ = some (.int .i64 a0_4) := (blk_cell BK386.out 4).trans rfl; have hfz31_0 := blk_frozen BK386.out 0; have hfz31_1 := blk_frozen BK386.out 1; have hfz31_2 := blk_frozen BK386.out 2; have hfz31_3 := blk_frozen BK386.out 3; have hfz31_4 := blk_frozen BK386.out 4) | ((with_reducible refine gate_callee (f := 132) rfl ?_); refine goesL_ (some 5) rfl rfl Try.func132 (by kernel_rfl) rfl #[.int .i64 a0_0] rfl (by (try simp only [List.map_toArray, List.map_cons, List.map_nil]); rfl) ?_; (with_reducible refine (impl_IsValidJoinKind.calls a0_0 false _ A2.out).mono ?_); rintro e w' ⟨rfl, ⟨nd, rfl⟩⟩; refine ⟨_, rfl, ?_⟩))
  go_ret
  exact ⟨rfl, by repeat ((with_reducible first | exact HB.out | apply pw_below_drewN))⟩

end Go.Proofs.Ytobndcjmjhehjaa.P
namespace Go.Proofs.Ytobndcjmjhehjaa.P
open Go.RowKit Go.Proofs.YtobndcjmjhehjaaW.PrintWords Go.Proofs.YtobndcjmjhehjaaW.PrintLast Go.Proofs.YtobndcjmjhehjaaW.PrintMore
attribute [local go_sem] max2_int min2_int max_two min_two max_three min_three max_four min_four   -- for this text's walks alone
set_option linter.unusedVariables false
set_option linter.unusedSimpArgs false

/-! ### impl_joined: function 154 -/
def impl_joined.l0 : Nat → ByteArray → ByteArray → List ByteArray → Int → Int → Option (ByteArray)
 | 0, _, _, _, _, _ => none
 | k + 1, x1, x5, x8, x9, x10 => if x10 < x9 then (if 0 ≤ x10 then (if x10 < (x8.length : Int) then (if x10 > 0 then (if x5.size + x1.size ≤ 9223372036854775807 then (if (x5 ++ x1).size + (rdOf ByteArray.empty x8 x10).size ≤ 9223372036854775807 then (impl_joined.l0 k x1 ((x5 ++ x1) ++ (rdOf ByteArray.empty x8 x10)) x8 x9 (wrap64 (x10 + 1))) else (none)) else (none)) else (if x5.size + (rdOf ByteArray.empty x8 x10).size ≤ 9223372036854775807 then (impl_joined.l0 k x1 (x5 ++ (rdOf ByteArray.empty x8 x10)) x8 x9 (wrap64 (x10 + 1))) else (none))) else (none)) else (none)) else (some x5)
def impl_joined.f (k : Nat) (l0 : List ByteArray) (a1 : ByteArray) : Option (ByteArray) := impl_joined.l0 k a1 (⟨#[]⟩ : ByteArray) l0 (l0.length : Int) 0
theorem impl_joined.mono_l : ∀ k, (∀ y0 y1 y2 y3 y4, LeO (impl_joined.l0 k y0 y1 y2 y3 y4) (impl_joined.l0 (k + 1) y0 y1 y2 y3 y4))
 | 0 => fun _ _ _ _ _ r h => by simp [impl_joined.l0] at h
 | k + 1 => by
  have ih0 := impl_joined.mono_l k
  ·intro y0 y1 y2 y3 y4
   unfold impl_joined.l0
   repeat' first
   | (with_reducible exact ih0 _ _ _ _ _)
   | (with_reducible exact LeO.refl _)
   | (with_reducible refine LeO.ite ?_ ?_)
theorem impl_joined.mono : ∀ a0 a1 k, LeO (impl_joined.f k a0 a1) (impl_joined.f (k + 1) a0 a1) := by
 intro a0 a1 k
 have ih0 := impl_joined.mono_l k
 unfold impl_joined.f
 repeat' (with_reducible exact ih0 _ _ _ _ _)

set_option maxHeartbeats 8000000 in
set_option maxRecDepth 100000 in
theorem impl_joined.calls (k : Nat) (A0 : Option Addr) (c0 : Nat) (l0 : List ByteArray) (a1 : ByteArray) (r : ByteArray) (w : World) (hr0 : Kd.C Kd.string w A0 l0.length l0) (hc0 : l0.length ≤ c0) (h : impl_joined.f k l0 a1 = some r) :
  Calls Try.prog 154 #[.slice A0 l0.length c0, .string a1] w fun e w' => e = .returned (.string r) ∧ Drawn0 w w' := by
 have HR0 := Aside0.mk hr0
 have HC0 := Aside0.mk hc0
 clear hr0 hc0
 have H : (impl_joined.l0 k a1 (⟨#[]⟩ : ByteArray) l0 (l0.length : Int) 0) = some r := h
 clear h
 have H' := Aside0.mk H
 clear H
 go_enter Try.func154, Try.ntmps154
 go_wp2
 go_loopg [5, 10] k (fun kq v5 v10 w' => ∃ (x5_1 : ByteArray) (x10_1 : Int), v5 = .string x5_1 ∧ v10 = .int .i64 x10_1 ∧ Aside0 (impl_joined.l0 kq a1 x5_1 l0 (l0.length : Int) x10_1 = some r) ∧ Aside0 (kq ≤ k) ∧ Drawn0 w w')
 case atStart => exact ⟨((⟨#[]⟩ : ByteArray)), (0), rfl, rfl, H', ⟨Nat.le_refl _⟩, by repeat (exact Drawn0.refl _)⟩
 case round =>
  clear H'
  obtain ⟨x5_1, x10_1, rfl, rfl, HA, HK1, ⟨m1, rfl⟩⟩ := hrel
  cases gk with
  | zero => exact absurd HA.out (by simp [impl_joined.l0])
  | succ k1 =>
   have H := HA.out
   clear HA
   simp only [impl_joined.l0] at H
   by_cases c3 : x10_1 < (l0.length : Int)
   ·rw [if_pos c3] at H
    have c3b0 : decide (x10_1 < (l0.length : Int)) = true := decide_eq_true c3
    clear c3
    by_cases c4 : 0 ≤ x10_1
    ·rw [if_pos c4] at H
     have c4b0 : decide (0 ≤ x10_1) = true := decide_eq_true c4
     clear c4
     by_cases c5 : x10_1 < (l0.length : Int)
     ·rw [if_pos c5] at H
      have c5b0 : decide (x10_1 < (l0.length : Int)) = true := decide_eq_true c5
      clear c5
      by_cases c6 : x10_1 > 0
      ·rw [if_pos c6] at H
       have c6b0 : decide (0 < x10_1) = true := decide_eq_true c6
       clear c6
       by_cases c7 : x5_1.size + a1.size ≤ 9223372036854775807
       ·rw [if_pos c7] at H
        have c7b0 := eq_true c7
        have c7b1 : decide (x5_1.size + a1.size ≤ 9223372036854775807) = true := decide_eq_true c7
        try have c7b2 : (9223372036854775807 < x5_1.size + a1.size) = False := eq_false (Nat.not_lt.2 c7)
        by_cases c8 : (x5_1 ++ a1).size + (rdOf ByteArray.empty l0 x10_1).size ≤ 9223372036854775807
        ·rw [if_pos c8] at H
         have c8b0 := eq_true c8
         have c8b1 : decide ((x5_1 ++ a1).size + (rdOf ByteArray.empty l0 x10_1).size ≤ 9223372036854775807) = true := decide_eq_true c8
         try have c8b3 : (9223372036854775807 < x5_1.size + a1.size + (rdOf ByteArray.empty l0 x10_1).size) = False := eq_false (by have h_ := c8; simp only [ByteArray.size_append] at h_; (exact Nat.not_lt.2 h_))
         try have c8b2 : (9223372036854775807 < (x5_1 ++ a1).size + (rdOf ByteArray.empty l0 x10_1).size) = False := eq_false (Nat.not_lt.2 c8)
         have H' := Aside0.mk H
         clear H
         have p1204 : 0 ≤ (x10_1 : Int) := of_decide_eq_true (by (with_reducible assumption))
         have q1204 : x10_1 < (l0.length : Int) := of_decide_eq_true (by (with_reducible assumption))
         obtain ⟨ad1204, e1204, hx1204_0⟩ := Kd.at_string HR0.out x10_1 p1204 q1204
         cases e1204
         replace p1204 := eq_true p1204
         replace q1204 := eq_true q1204
         go_wp2
         go_roundg k1
         case measure => have := HK1.out; omega
         case rel => exact ⟨((x5_1 ++ a1) ++ (rdOf ByteArray.empty l0 x10_1)), (wrap64 (x10_1 + 1)), rfl, rfl, H', ⟨by have := HK1.out; omega⟩, by repeat (first | exact Drawn0.refl _ | apply Drawn0.step)⟩
        ·rw [if_neg c8] at H
         exact absurd H (by simp)
       ·rw [if_neg c7] at H
        exact absurd H (by simp)
      ·rw [if_neg c6] at H
       have c6b0 : decide (0 < x10_1) = false := decide_eq_false c6
       clear c6
       by_cases c9 : x5_1.size + (rdOf ByteArray.empty l0 x10_1).size ≤ 9223372036854775807
       ·rw [if_pos c9] at H
        have c9b0 := eq_true c9
        have c9b1 : decide (x5_1.size + (rdOf ByteArray.empty l0 x10_1).size ≤ 9223372036854775807) = true := decide_eq_true c9
        try have c9b2 : (9223372036854775807 < x5_1.size + (rdOf ByteArray.empty l0 x10_1).size) = False := eq_false (Nat.not_lt.2 c9)
        have H' := Aside0.mk H
        clear H
        have p1204 : 0 ≤ (x10_1 : Int) := of_decide_eq_true (by (with_reducible assumption))
        have q1204 : x10_1 < (l0.length : Int) := of_decide_eq_true (by (with_reducible assumption))
        obtain ⟨ad1204, e1204, hx1204_0⟩ := Kd.at_string HR0.out x10_1 p1204 q1204
        cases e1204
        replace p1204 := eq_true p1204
        replace q1204 := eq_true q1204
        go_wp2
        go_roundg k1
        case measure => have := HK1.out; omega
        case rel => exact ⟨(x5_1 ++ (rdOf ByteArray.empty l0 x10_1)), (wrap64 (x10_1 + 1)), rfl, rfl, H', ⟨by have := HK1.out; omega⟩, by repeat (first | exact Drawn0.refl _ | apply Drawn0.step)⟩
       ·rw [if_neg c9] at H
        exact absurd H (by simp)
     ·rw [if_neg c5] at H
      exact absurd H (by simp)
    ·rw [if_neg c4] at H
     exact absurd H (by simp)
   ·rw [if_neg c3] at H
    have c3b0 : decide (x10_1 < (l0.length : Int)) = false := decide_eq_false c3
    clear c3
    obtain rfl := Option.some.inj H
    go_wp2
    go_ret
    exact ⟨rfl, by repeat (first | exact Drawn0.refl _ | apply Drawn0.step)⟩

end Go.Proofs.Ytobndcjmjhehjaa.P
namespace Go.Proofs.Ytobndcjmjhehjaa.P
open Go.RowKit Go.Proofs.YtobndcjmjhehjaaW.PrintWords Go.Proofs.YtobndcjmjhehjaaW.PrintLast Go.Proofs.YtobndcjmjhehjaaW.PrintMore
attribute [local go_sem] max2_int min2_int max_two min_two max_three min_three max_four min_four   -- for this text's walks alone
set_option linter.unusedVariables false
set_option linter.unusedSimpArgs false

/-! ### impl_decimal: function 188 -/
def impl_decimal.f : Nat → Int → Option (ByteArray)
 | 0, _ => none
 | k + 1, a0 => if a0 < 10 then (some (strOfNums (([(IntKind.u64.wrap (48 + a0)) % 256] : List Int)))) else ((impl_decimal.f k (IntKind.u64.wrap (Int.tdiv a0 10))).bind fun t1208 => ((some (([(IntKind.u64.wrap (48 + (Int.tmod a0 10))) % 256] : List Int) : List Int)).bind fun y1209 => (if t1208.size + (strOfNums y1209).size ≤ 9223372036854775807 then (some (t1208 ++ (strOfNums y1209))) else (none))))
theorem impl_decimal.mono_l : ∀ k, (∀ y0, LeO (impl_decimal.f k y0) (impl_decimal.f (k + 1) y0))
 | 0 => fun _ r h => by simp [impl_decimal.f] at h
 | k + 1 => by
  have ih0 := impl_decimal.mono_l k
  ·intro y0
   unfold impl_decimal.f
   repeat' first
   | (with_reducible exact ih0 _)
   | (with_reducible exact LeO.refl _)
   | (with_reducible refine LeO.ite ?_ ?_)
   | (with_reducible refine LeO.bind ?_ (fun _ => ?_))
   | refine LeO.bind ?_ (fun _ => ?_)
theorem impl_decimal.mono : ∀ a0 k, LeO (impl_decimal.f k a0) (impl_decimal.f (k + 1) a0) := by
 intro a0 k
 have ih0 := impl_decimal.mono_l k
 exact ih0 a0
def impl_decimal.T3 : Bool × List (List Nat × List Nat) := (true, [([], []), ([0], [0]), ([1], [1]), ([], []), ([3], [3]), ([4], [4]), ([5], [5]), ([6], [6]), ([7], [7]), ([2, 8], [2, 8]), ([9, 2, 0, 1, 2, 3, 4, 5, 6, 7, 8, 9], [9])])
def impl_decimal.B3 : List Nat := [0, 1, 3, 0, 8, 24, 56, 120, 248, 511, 1023]
theorem impl_decimal.tab3 : rtab .any (opsOf Try.f188 3) = impl_decimal.T3 := by kernel_rfl
theorem impl_decimal.bits3 : waitsOk impl_decimal.T3.2 impl_decimal.B3 = true := by kernel_rfl
set_option maxHeartbeats 8000000 in
set_option maxRecDepth 100000 in
theorem impl_decimal.calls (k : Nat) : ∀ (a0 : Int) (r : ByteArray) (w : World) (h : impl_decimal.f k a0 = some r),
  Calls Try.prog 188 #[.int .u64 a0] w fun e w' => e = .returned (.string r) ∧ Below w.heap.size w w' := by
 induction k using Nat.strongRecOn with
 | _ k ih =>
 intro a0 r w h
 cases k with
 | zero => exact absurd h (by simp [impl_decimal.f])
 | succ k =>
 simp only [impl_decimal.f] at h
 have HB := Aside0.mk (Below.refl w.heap.size w)
 have H : (if a0 < 10 then (some (strOfNums (([(IntKind.u64.wrap (48 + a0)) % 256] : List Int)))) else ((impl_decimal.f k (IntKind.u64.wrap (Int.tdiv a0 10))).bind fun t1208 => ((some (([(IntKind.u64.wrap (48 + (Int.tmod a0 10))) % 256] : List Int) : List Int)).bind fun y1209 => (if t1208.size + (strOfNums y1209).size ≤ 9223372036854775807 then (some (t1208 ++ (strOfNums y1209))) else (none))))) = some r := h
 clear h
 by_cases c2 : a0 < 10
 ·rw [if_pos c2] at H
  have c2b0 : decide (a0 < 10) = true := decide_eq_true c2
  clear c2
  obtain ⟨y1205, hy1205⟩ : ∃ y_ : List Int, y_ = (([(IntKind.u64.wrap (48 + a0)) % 256] : List Int)) := ⟨_, rfl⟩
  replace H : (some (strOfNums y1205)) = some r := by (rw [hy1205]; with_reducible exact H)
  have Ny1205 := Aside0.mk hy1205
  clear hy1205
  obtain rfl := Option.some.inj H
  go_enter Try.func188, Try.ntmps188
  go_wp2_with (((with_reducible refine gate_dst (N := 8) rfl ?_); refine Kd.R_lit (Kd.int .u8) _ 5 ?hg (N := 8) ?hd (xs := ([(IntKind.u64.wrap (48 + a0)) % 256] : List Int)) (inner := [.int .u8 ((IntKind.u64.wrap (48 + a0)) % 256)]) (ok := fun _ => True) (okp := fun _ => True) ?hr ?hp (fun _ hk => hk) trivial (Below.refl _ _) (Nat.le_refl _) (by simp) ?_; (case hd => rfl); (case hg => rfl); (case hr => (go_simp; done)); (case hp => exact (Reps.one (show Kd.M (Kd.int .u8) _ _ _ ((IntKind.u64.wrap (48 + a0)) % 256) [.int .u8 ((IntKind.u64.wrap (48 + a0)) % 256)] from rfl) (Reps.none _ _))); intro v1206 w3 ho4 hb hg_ hnew_; clear hg_ hnew_; (rw [← Ny1205.out] at ho4); have n0_ := Aside0.mk (Kd.R_lower ho4 (below_size HB.out)); have n1_ := Aside0.mk (below_step HB.out hb); clear HB; have HO1207 := n0_; have HB := n1_; clear n0_ n1_; clear hb ho4; have hcv5 := own_string (P := Try.prog) Try.underlying22 Try.underlying5 Try.underlying9 (Kd.own_of_R HO1207.out)))
  go_ret
  exact ⟨rfl, HB.out⟩
 ·rw [if_neg c2] at H
  have c2b0 : decide (a0 < 10) = false := decide_eq_false c2
  clear c2
  replace H := Option.bind_eq_some_iff.mp H
  obtain ⟨t1208, A60, H⟩ := H
  have A6 := Aside0.mk A60
  clear A60
  obtain ⟨y1209, hy1209, H⟩ := bindO_ H
  have Ny1209 := Aside0.mk hy1209
  clear hy1209
  by_cases c7 : t1208.size + (strOfNums y1209).size ≤ 9223372036854775807
  ·rw [if_pos c7] at H
   have c7b0 := eq_true c7
   have c7b1 : decide (t1208.size + (strOfNums y1209).size ≤ 9223372036854775807) = true := decide_eq_true c7
   try have c7b2 : (9223372036854775807 < t1208.size + (strOfNums y1209).size) = False := eq_false (Nat.not_lt.2 c7)
   obtain rfl := Option.some.inj H
   go_enter Try.func188, Try.ntmps188
   try go_wp2
   have n0_ := Aside0.mk (below_drew1 HB.out)
   clear HB
   have HB := n0_
   clear n0_
   refine start_ (n := 11) (S := fun w' => True) (ds := []) #[false, false, false, false, false, false, false, false, false, false, false] (by kernel_rfl) rfl rfl trivial (fun hHeld => ?_); refine with_tabW impl_decimal.tab3 impl_decimal.bits3 (fun HT_ HW_ => ?_)
   generalize w.drew = w8 at HB hHeld ⊢
   refine pure_ (i := 0) (N := some 10) (v := ?_) (a' := ?_) #[true, false, false, false, false, false, false, false, false, false, false] rfl rfl (any_of HT_.out (by kernel_rfl)) (fun _ _ _ h => h) (Or.inl ⟨rfl, ?_⟩) ?_ ?_
   rotate_left
   ·intro w'
    go_simp
    with_reducible rfl
   rotate_left
   ·simp only [Act.put, List.setIfInBounds_toArray, List.set_cons_zero, List.set_cons_succ, i64_w, i32_w]
    rfl
   refine pure_ (i := 1) (N := some 11) (v := ?_) (a' := ?_) #[true, true, false, false, false, false, false, false, false, false, false] rfl rfl (any_of HT_.out (by kernel_rfl)) (fun _ _ _ h => h) (Or.inl ⟨rfl, ?_⟩) ?_ ?_
   rotate_left
   ·intro w'
    go_simp
    with_reducible rfl
   rotate_left
   ·simp only [Act.put, List.setIfInBounds_toArray, List.set_cons_zero, List.set_cons_succ, i64_w, i32_w]
    rfl
   refine pure_ (i := 3) (N := some 13) (v := ?_) (a' := ?_) #[true, true, false, true, false, false, false, false, false, false, false] rfl rfl (any_of HT_.out (by kernel_rfl)) (fun _ _ _ h => h) (Or.inl ⟨rfl, ?_⟩) ?_ ?_
   rotate_left
   ·intro w'
    go_simp
    with_reducible rfl
   rotate_left
   ·simp only [Act.put, List.setIfInBounds_toArray, List.set_cons_zero, List.set_cons_succ, i64_w, i32_w]
    rfl
   refine pure_ (i := 4) (N := some 14) (v := ?_) (a' := ?_) #[true, true, false, true, true, false, false, false, false, false, false] rfl rfl (any_of HT_.out (by kernel_rfl)) (fun _ _ _ h => h) (Or.inl ⟨rfl, ?_⟩) ?_ ?_
   rotate_left
   ·intro w'
    go_simp
    with_reducible rfl
   rotate_left
   ·simp only [Act.put, List.setIfInBounds_toArray, List.set_cons_zero, List.set_cons_succ, i64_w, i32_w]
    rfl
   refine pure_ (i := 5) (N := some 15) (v := ?_) (a' := ?_) #[true, true, false, true, true, true, false, false, false, false, false] rfl rfl (any_of HT_.out (by kernel_rfl)) (fun _ _ _ h => h) (Or.inl ⟨rfl, ?_⟩) ?_ ?_
   rotate_left
   ·intro w'
    go_simp
    with_reducible rfl
   rotate_left
   ·simp only [Act.put, List.setIfInBounds_toArray, List.set_cons_zero, List.set_cons_succ, i64_w, i32_w]
    rfl
   refine pure_ (i := 6) (N := some 16) (v := ?_) (a' := ?_) #[true, true, false, true, true, true, true, false, false, false, false] rfl rfl (any_of HT_.out (by kernel_rfl)) (fun _ _ _ h => h) (Or.inl ⟨rfl, ?_⟩) ?_ ?_
   rotate_left
   ·intro w'
    go_simp
    with_reducible rfl
   rotate_left
   ·simp only [Act.put, List.setIfInBounds_toArray, List.set_cons_zero, List.set_cons_succ, i64_w, i32_w]
    rfl
   refine join_ (σ := Value) 2 #[true, true, true, true, true, true, true, true, true, false, false] (fun s_ => [(12, .string t1208), (17, s_), (18, .string (strOfNums y1209))]) (fun s_ w' => (Kd.R (Kd.int .u8) 5 w' w.heap.size (fun _ => True) s_ y1209) ∧ (Below w.heap.size w w')) ?_ ?_
   rotate_left
   ·intro hCont
    refine two_ (i := 2) (j := 7) (Ni := some 12) (Nj := some 17) #[true, true, true, true, true, true, true, false, false, false, false] #[true, true, false, true, true, true, true, true, false, false, false] rfl rfl rfl rfl (two_of HT_.out (by kernel_rfl)) (by decide) (by decide) (fun K hK => ?_) (fun K hK => ?_)
    ·skip
     refine goes_ Try.func188 (by kernel_rfl) rfl #[.int .u64 (IntKind.u64.wrap (Int.tdiv a0 10))] rfl rfl rfl (by (try simp only [List.map_toArray, List.map_cons, List.map_nil]); rfl) ?_
     with_reducible refine (ih k (by omega) (IntKind.u64.wrap (Int.tdiv a0 10)) t1208 _ A6.out).mono ?_
     rintro e w9 ⟨rfl, hb⟩
     refine ⟨_, rfl, ?_⟩
     have n0_ := Aside0.mk (below_step HB.out hb)
     clear HB
     have HB := n0_
     clear n0_
     (try clear hb)
     (try clear hb2)
     (try clear hk)
     (try clear hi)
     refine hK.out _ _ trivial (fun hHeld => ?_)
     clear hK K
     refine norm_ (a' := ?_) ?_ ?_
     rotate_left
     ·show Act.put _ (some 12) _ = _
      simp only [Act.put, List.setIfInBounds_toArray, List.set_cons_zero, List.set_cons_succ, i64_w, i32_w]
      rfl
     refine one_ (i := 7) (N := some 17) #[true, true, true, true, true, true, true, true, false, false, false] rfl rfl (one_of HT_.out (by kernel_rfl)) (by decide) (fun K hK => ?_)
     refine Kd.R_lit_step (Kd.int .u8) _ 5 ?hg (N := 17) ?hd (xs := ([(IntKind.u64.wrap (48 + (Int.tmod a0 10))) % 256] : List Int)) (inner := [.int .u8 ((IntKind.u64.wrap (48 + (Int.tmod a0 10))) % 256)]) (ok := fun _ => True) (okp := fun _ => True) ?hr ?hp (fun _ hk => hk) trivial (Below.refl _ _) (Nat.le_refl _) (by simp) ?_; (case hd => rfl); (case hg => rfl); (case hr => (go_simp; rfl)); (case hp => exact (Reps.one (show Kd.M (Kd.int .u8) _ _ _ ((IntKind.u64.wrap (48 + (Int.tmod a0 10))) % 256) [.int .u8 ((IntKind.u64.wrap (48 + (Int.tmod a0 10))) % 256)] from rfl) (Reps.none _ _)))
     intro v1210 w10 ho11 hb hg_ hnew_
     clear hg_ hnew_
     (rw [← Ny1209.out] at ho11)
     have n0_ := Aside0.mk (Kd.R_lower ho11 (below_size HB.out))
     have n1_ := Aside0.mk (below_step HB.out hb)
     clear HB
     have HO1211 := n0_
     have HB := n1_
     clear n0_ n1_
     clear hb ho11
     refine hK.out _ _ trivial (fun hHeld => ?_)
     clear hK K
     refine norm_ (a' := ?_) ?_ ?_
     rotate_left
     ·show Act.put _ (some 17) _ = _
      simp only [Act.put, List.setIfInBounds_toArray, List.set_cons_zero, List.set_cons_succ, i64_w, i32_w]
      rfl
     refine one_ (i := 8) (N := some 18) #[true, true, true, true, true, true, true, true, true, false, false] rfl rfl (one_of HT_.out (by kernel_rfl)) (by decide) (fun K hK => ?_)
     have hcv12 := own_string (P := Try.prog) Try.underlying22 Try.underlying5 Try.underlying9 (Kd.own_of_R HO1211.out)
     refine value_ (w1 := ?_) (v := ?_) rfl rfl ?_ ?_
     rotate_left 2
     ·go_simp
      constructor
      ·rfl
      ·rfl
     clear hcv12
     refine hK.out _ _ trivial (fun hHeld => ?_)
     clear hK K
     refine norm_ (a' := ?_) ?_ ?_
     rotate_left
     ·show Act.put _ (some 18) _ = _
      simp only [Act.put, List.setIfInBounds_toArray, List.set_cons_zero, List.set_cons_succ, i64_w, i32_w]
      rfl
     exact norm_ (by simp only [putAll, Act.put, List.setIfInBounds_toArray, List.set_cons_zero, List.set_cons_succ]) (hCont (v1210) _ ⟨HO1211.out, HB.out⟩)
    ·skip
     refine Kd.R_lit_step (Kd.int .u8) _ 5 ?hg (N := 17) ?hd (xs := ([(IntKind.u64.wrap (48 + (Int.tmod a0 10))) % 256] : List Int)) (inner := [.int .u8 ((IntKind.u64.wrap (48 + (Int.tmod a0 10))) % 256)]) (ok := fun _ => True) (okp := fun _ => True) ?hr ?hp (fun _ hk => hk) trivial (Below.refl _ _) (Nat.le_refl _) (by simp) ?_; (case hd => rfl); (case hg => rfl); (case hr => (go_simp; rfl)); (case hp => exact (Reps.one (show Kd.M (Kd.int .u8) _ _ _ ((IntKind.u64.wrap (48 + (Int.tmod a0 10))) % 256) [.int .u8 ((IntKind.u64.wrap (48 + (Int.tmod a0 10))) % 256)] from rfl) (Reps.none _ _)))
     intro v1210 w9 ho10 hb hg_ hnew_
     clear hg_ hnew_
     (rw [← Ny1209.out] at ho10)
     have n0_ := Aside0.mk (Kd.R_lower ho10 (below_size HB.out))
     have n1_ := Aside0.mk (below_step HB.out hb)
     clear HB
     have HO1211 := n0_
     have HB := n1_
     clear n0_ n1_
     clear hb ho10
     refine hK.out _ _ trivial (fun hHeld => ?_)
     clear hK K
     refine norm_ (a' := ?_) ?_ ?_
     rotate_left
     ·show Act.put _ (some 17) _ = _
      simp only [Act.put, List.setIfInBounds_toArray, List.set_cons_zero, List.set_cons_succ, i64_w, i32_w]
      rfl
     refine two_ (i := 2) (j := 8) (Ni := some 12) (Nj := some 18) #[true, true, true, true, true, true, true, true, false, false, false] #[true, true, false, true, true, true, true, true, true, false, false] rfl rfl rfl rfl (two_of HT_.out (by kernel_rfl)) (by decide) (by decide) (fun K hK => ?_) (fun K hK => ?_)
     ·skip
      refine goes_ Try.func188 (by kernel_rfl) rfl #[.int .u64 (IntKind.u64.wrap (Int.tdiv a0 10))] rfl rfl rfl (by (try simp only [List.map_toArray, List.map_cons, List.map_nil]); rfl) ?_
      with_reducible refine (ih k (by omega) (IntKind.u64.wrap (Int.tdiv a0 10)) t1208 _ A6.out).mono ?_
      rintro e w11 ⟨rfl, hb⟩
      refine ⟨_, rfl, ?_⟩
      have n0_ := Aside0.mk (Kd.R_below HO1211.out hb)
      have n1_ := Aside0.mk (below_step HB.out hb)
      clear HO1211
      clear HB
      have HO1211 := n0_
      have HB := n1_
      clear n0_ n1_
      (try clear hb)
      (try clear hb2)
      (try clear hk)
      (try clear hi)
      refine hK.out _ _ trivial (fun hHeld => ?_)
      clear hK K
      refine norm_ (a' := ?_) ?_ ?_
      rotate_left
      ·show Act.put _ (some 12) _ = _
       simp only [Act.put, List.setIfInBounds_toArray, List.set_cons_zero, List.set_cons_succ, i64_w, i32_w]
       rfl
      refine one_ (i := 8) (N := some 18) #[true, true, true, true, true, true, true, true, true, false, false] rfl rfl (one_of HT_.out (by kernel_rfl)) (by decide) (fun K hK => ?_)
      have hcv12 := own_string (P := Try.prog) Try.underlying22 Try.underlying5 Try.underlying9 (Kd.own_of_R HO1211.out)
      refine value_ (w1 := ?_) (v := ?_) rfl rfl ?_ ?_
      rotate_left 2
      ·go_simp
       constructor
       ·rfl
       ·rfl
      clear hcv12
      refine hK.out _ _ trivial (fun hHeld => ?_)
      clear hK K
      refine norm_ (a' := ?_) ?_ ?_
      rotate_left
      ·show Act.put _ (some 18) _ = _
       simp only [Act.put, List.setIfInBounds_toArray, List.set_cons_zero, List.set_cons_succ, i64_w, i32_w]
       rfl
      exact norm_ (by simp only [putAll, Act.put, List.setIfInBounds_toArray, List.set_cons_zero, List.set_cons_succ]) (hCont (v1210) _ ⟨HO1211.out, HB.out⟩)
     ·skip
      have hcv11 := own_string (P := Try.prog) Try.underlying22 Try.underlying5 Try.underlying9 (Kd.own_of_R HO1211.out)
      refine value_ (w1 := ?_) (v := ?_) rfl rfl ?_ ?_
      rotate_left 2
      ·go_simp
       constructor
       ·rfl
       ·rfl
      clear hcv11
      refine hK.out _ _ trivial (fun hHeld => ?_)
      clear hK K
      refine norm_ (a' := ?_) ?_ ?_
      rotate_left
      ·show Act.put _ (some 18) _ = _
       simp only [Act.put, List.setIfInBounds_toArray, List.set_cons_zero, List.set_cons_succ, i64_w, i32_w]
       rfl
      refine one_ (i := 2) (N := some 12) #[true, true, true, true, true, true, true, true, true, false, false] rfl rfl (one_of HT_.out (by kernel_rfl)) (by decide) (fun K hK => ?_)
      refine goes_ Try.func188 (by kernel_rfl) rfl #[.int .u64 (IntKind.u64.wrap (Int.tdiv a0 10))] rfl rfl rfl (by (try simp only [List.map_toArray, List.map_cons, List.map_nil]); rfl) ?_
      with_reducible refine (ih k (by omega) (IntKind.u64.wrap (Int.tdiv a0 10)) t1208 _ A6.out).mono ?_
      rintro e w12 ⟨rfl, hb⟩
      refine ⟨_, rfl, ?_⟩
      have n0_ := Aside0.mk (Kd.R_below HO1211.out hb)
      have n1_ := Aside0.mk (below_step HB.out hb)
      clear HO1211
      clear HB
      have HO1211 := n0_
      have HB := n1_
      clear n0_ n1_
      (try clear hb)
      (try clear hb2)
      (try clear hk)
      (try clear hi)
      refine hK.out _ _ trivial (fun hHeld => ?_)
      clear hK K
      refine norm_ (a' := ?_) ?_ ?_
      rotate_left
      ·show Act.put _ (some 12) _ = _
       simp only [Act.put, List.setIfInBounds_toArray, List.set_cons_zero, List.set_cons_succ, i64_w, i32_w]
       rfl
      exact norm_ (by simp only [putAll, Act.put, List.setIfInBounds_toArray, List.set_cons_zero, List.set_cons_succ]) (hCont (v1210) _ ⟨HO1211.out, HB.out⟩)
   rintro v1210 w13 ⟨h0_, h1_⟩
   have n0_ : Aside0 (Kd.R (Kd.int .u8) 5 w13 w.heap.size (fun _ => True) v1210 y1209) := ⟨h0_⟩
   have n1_ : Aside0 (Below w.heap.size w w13) := ⟨h1_⟩
   clear HB
   clear h0_ h1_
   have HO1211 := n0_
   have HB := n1_
   clear n0_ n1_
   have hHeld := trivial
   refine norm_ (a' := ?_) ?_ ?_
   rotate_left
   ·simp only [putAll, Act.put, List.setIfInBounds_toArray, List.set_cons_zero, List.set_cons_succ]
    rfl
   refine pure_ (i := 9) (N := some 19) (v := ?_) (a' := ?_) #[true, true, true, true, true, true, true, true, true, true, false] rfl rfl (any_of HT_.out (by kernel_rfl)) (fun _ _ _ h => h) (Or.inl ⟨rfl, ?_⟩) ?_ ?_
   rotate_left
   ·intro w'
    go_simp
    with_reducible rfl
   rotate_left
   ·simp only [Act.put, List.setIfInBounds_toArray, List.set_cons_zero, List.set_cons_succ, i64_w, i32_w]
    rfl
   refine pure_ (i := 10) (N := some 2) (v := ?_) (a' := ?_) #[true, true, true, true, true, true, true, true, true, true, true] rfl rfl (any_of HT_.out (by kernel_rfl)) (fun _ _ _ h => h) (Or.inl ⟨rfl, ?_⟩) ?_ ?_
   rotate_left
   ·intro w'
    go_simp
    with_reducible rfl
   rotate_left
   ·simp only [Act.put, List.setIfInBounds_toArray, List.set_cons_zero, List.set_cons_succ, i64_w, i32_w]
    rfl
   refine done_ (done_of HT_.out (by kernel_rfl)) ?_
   try go_wp2
   go_ret
   exact ⟨rfl, HB.out⟩
  ·rw [if_neg c7] at H
   exact absurd H (by simp)

end Go.Proofs.Ytobndcjmjhehjaa.P
namespace Go.Proofs.Ytobndcjmjhehjaa.P
open Go.RowKit Go.Proofs.YtobndcjmjhehjaaW.PrintWords Go.Proofs.YtobndcjmjhehjaaW.PrintLast Go.Proofs.YtobndcjmjhehjaaW.PrintMore
attribute [local go_sem] max2_int min2_int max_two min_two max_three min_three max_four min_four   -- for this text's walks alone
set_option linter.unusedVariables false
set_option linter.unusedSimpArgs false

/-! ### impl_FormatInt: function 155 -/
def impl_FormatInt.f (k : Nat) (a0 : Int) : Option (ByteArray) := if a0 < 0 then ((impl_decimal.f k (IntKind.u64.wrap (-(IntKind.u64.wrap (a0))))).bind fun t1212 => (if 1 + t1212.size ≤ 9223372036854775807 then (some ((⟨#[45]⟩ : ByteArray) ++ t1212)) else (none))) else ((impl_decimal.f k (IntKind.u64.wrap (a0))).bind fun t1213 => (some t1213))
theorem impl_FormatInt.mono : ∀ a0 k, LeO (impl_FormatInt.f k a0) (impl_FormatInt.f (k + 1) a0) := by
 intro a0 k
 unfold impl_FormatInt.f
 repeat' first
   | (with_reducible exact impl_decimal.mono _ _)
   | (with_reducible exact LeO.refl _)
   | (with_reducible refine LeO.ite ?_ ?_)
   | (with_reducible refine LeO.bind ?_ (fun _ => ?_))
   | refine LeO.bind ?_ (fun _ => ?_)
set_option maxHeartbeats 8000000 in
set_option maxRecDepth 100000 in
theorem impl_FormatInt.calls (k : Nat) (a0 : Int) (r : ByteArray) (w : World) (h : impl_FormatInt.f k a0 = some r) :
  Calls Try.prog 155 #[.int .i64 a0] w fun e w' => e = .returned (.string r) ∧ Below w.heap.size w w' := by
 have HB := Aside0.mk (Below.refl w.heap.size w)
 have H : (if a0 < 0 then ((impl_decimal.f k (IntKind.u64.wrap (-(IntKind.u64.wrap (a0))))).bind fun t1212 => (if 1 + t1212.size ≤ 9223372036854775807 then (some ((⟨#[45]⟩ : ByteArray) ++ t1212)) else (none))) else ((impl_decimal.f k (IntKind.u64.wrap (a0))).bind fun t1213 => (some t1213))) = some r := h
 clear h
 by_cases c2 : a0 < 0
 ·rw [if_pos c2] at H
  have c2b0 : decide (a0 < 0) = true := decide_eq_true c2
  clear c2
  replace H := Option.bind_eq_some_iff.mp H
  obtain ⟨t1212, A30, H⟩ := H
  have A3 := Aside0.mk A30
  clear A30
  by_cases c4 : 1 + t1212.size ≤ 9223372036854775807
  ·rw [if_pos c4] at H
   have c4b0 := eq_true c4
   have c4b1 : decide (1 + t1212.size ≤ 9223372036854775807) = true := decide_eq_true c4
   try have c4b2 : (9223372036854775807 < 1 + t1212.size) = False := eq_false (Nat.not_lt.2 c4)
   obtain rfl := Option.some.inj H
   go_enter Try.func155, Try.ntmps155
   go_wp2_with (((with_reducible refine gate_callee (f := 188) rfl ?_); refine goesL_ (some 8) rfl rfl Try.func188 (by kernel_rfl) rfl #[.int .u64 (IntKind.u64.wrap (-(IntKind.u64.wrap (a0))))] rfl (by (try simp only [List.map_toArray, List.map_cons, List.map_nil]); rfl) ?_; (with_reducible refine (impl_decimal.calls k (IntKind.u64.wrap (-(IntKind.u64.wrap (a0)))) t1212 _ A3.out).mono ?_); rintro e w5 ⟨rfl, hb⟩; refine ⟨_, rfl, ?_⟩; have n0_ := Aside0.mk (below_step HB.out hb); clear HB; have HB := n0_; clear n0_; (try clear hb); (try clear hb2); (try clear hk); (try clear hi)))
   go_ret
   exact ⟨rfl, HB.out⟩
  ·rw [if_neg c4] at H
   exact absurd H (by simp)
 ·rw [if_neg c2] at H
  have c2b0 : decide (a0 < 0) = false := decide_eq_false c2
  clear c2
  replace H := Option.bind_eq_some_iff.mp H
  obtain ⟨t1213, A60, H⟩ := H
  have A6 := Aside0.mk A60
  clear A60
  obtain rfl := Option.some.inj H
  go_enter Try.func155, Try.ntmps155
  go_wp2_with (((with_reducible refine gate_callee (f := 188) rfl ?_); refine goesL_ (some 12) rfl rfl Try.func188 (by kernel_rfl) rfl #[.int .u64 (IntKind.u64.wrap (a0))] rfl (by (try simp only [List.map_toArray, List.map_cons, List.map_nil]); rfl) ?_; (with_reducible refine (impl_decimal.calls k (IntKind.u64.wrap (a0)) t1213 _ A6.out).mono ?_); rintro e w7 ⟨rfl, hb⟩; refine ⟨_, rfl, ?_⟩; have n0_ := Aside0.mk (below_step HB.out hb); clear HB; have HB := n0_; clear n0_; (try clear hb); (try clear hb2); (try clear hk); (try clear hi)))
  go_ret
  exact ⟨rfl, HB.out⟩

end Go.Proofs.Ytobndcjmjhehjaa.P
namespace Go.Proofs.Ytobndcjmjhehjaa.P
open Go.RowKit Go.Proofs.YtobndcjmjhehjaaW.PrintWords Go.Proofs.YtobndcjmjhehjaaW.PrintLast Go.Proofs.YtobndcjmjhehjaaW.PrintMore
attribute [local go_sem] max2_int min2_int max_two min_two max_three min_three max_four min_four   -- for this text's walks alone
set_option linter.unusedVariables false
set_option linter.unusedSimpArgs false

/-! ### impl_FormatRow: function 199 -/
def impl_FormatRow.f (k : Nat) (a0_0 : Int) (a0_1 : Int) (a0_2 : Int) : Option (ByteArray) := (impl_IsValidRow.f a0_0 a0_1 a0_2).bind fun t1215 => (if t1215 = true then ((impl_FormatInt.f k a0_0).bind fun t1216 => (if t1216.size + 1 ≤ 9223372036854775807 then ((impl_FormatInt.f k a0_1).bind fun t1217 => (if (t1216 ++ (⟨#[46]⟩ : ByteArray)).size + t1217.size ≤ 9223372036854775807 then (if ((t1216 ++ (⟨#[46]⟩ : ByteArray)) ++ t1217).size + 1 ≤ 9223372036854775807 then ((impl_FormatInt.f k a0_2).bind fun t1218 => (if (((t1216 ++ (⟨#[46]⟩ : ByteArray)) ++ t1217) ++ (⟨#[46]⟩ : ByteArray)).size + t1218.size ≤ 9223372036854775807 then (some ((((t1216 ++ (⟨#[46]⟩ : ByteArray)) ++ t1217) ++ (⟨#[46]⟩ : ByteArray)) ++ t1218)) else (none))) else (none)) else (none))) else (none))) else (some (⟨#[]⟩ : ByteArray)))
theorem impl_FormatRow.mono : ∀ a0 a1 a2 k, LeO (impl_FormatRow.f k a0 a1 a2) (impl_FormatRow.f (k + 1) a0 a1 a2) := by
 intro a0 a1 a2 k
 unfold impl_FormatRow.f
 repeat' first
   | (with_reducible exact impl_FormatInt.mono _ _)
   | (with_reducible exact LeO.refl _)
   | (with_reducible refine LeO.ite ?_ ?_)
   | (with_reducible refine LeO.bind ?_ (fun _ => ?_))
   | refine LeO.bind ?_ (fun _ => ?_)
def impl_FormatRow.T3 : Bool × List (List Nat × List Nat) := (true, [([], []), ([0], [0]), ([1], [1]), ([2], [2]), ([], []), ([4], [4]), ([5, 2], [5]), ([3, 6], [3, 6]), ([7], [7]), ([], []), ([9], [9]), ([10, 6], [10]), ([8, 11], [8, 11]), ([12, 11, 0, 1, 2, 3, 4, 5, 6, 7, 8, 9, 10, 11, 12], [12])])
def impl_FormatRow.B3 : List Nat := [0, 1, 3, 7, 0, 16, 55, 127, 255, 0, 512, 1655, 4095, 8191]
theorem impl_FormatRow.tab3 : rtab .any (opsOf Try.f199 3) = impl_FormatRow.T3 := by kernel_rfl
theorem impl_FormatRow.bits3 : waitsOk impl_FormatRow.T3.2 impl_FormatRow.B3 = true := by kernel_rfl
set_option maxHeartbeats 8000000 in
set_option maxRecDepth 100000 in
theorem impl_FormatRow.calls (k : Nat) (a0_0 : Int) (a0_1 : Int) (a0_2 : Int) (r : ByteArray) (w : World) (h : impl_FormatRow.f k a0_0 a0_1 a0_2 = some r) :
  Calls Try.prog 199 #[.agg #[.int .i64 a0_0, .int .i64 a0_1, .int .i64 a0_2]] w fun e w' => e = .returned (.string r) ∧ Below w.heap.size w w' := by
 have hu60 := Try.underlying60
 have HB := Aside0.mk (Below.refl w.heap.size w)
 have H : ((impl_IsValidRow.f a0_0 a0_1 a0_2).bind fun t1215 => (if t1215 = true then ((impl_FormatInt.f k a0_0).bind fun t1216 => (if t1216.size + 1 ≤ 9223372036854775807 then ((impl_FormatInt.f k a0_1).bind fun t1217 => (if (t1216 ++ (⟨#[46]⟩ : ByteArray)).size + t1217.size ≤ 9223372036854775807 then (if ((t1216 ++ (⟨#[46]⟩ : ByteArray)) ++ t1217).size + 1 ≤ 9223372036854775807 then ((impl_FormatInt.f k a0_2).bind fun t1218 => (if (((t1216 ++ (⟨#[46]⟩ : ByteArray)) ++ t1217) ++ (⟨#[46]⟩ : ByteArray)).size + t1218.size ≤ 9223372036854775807 then (some ((((t1216 ++ (⟨#[46]⟩ : ByteArray)) ++ t1217) ++ (⟨#[46]⟩ : ByteArray)) ++ t1218)) else (none))) else (none)) else (none))) else (none))) else (some (⟨#[]⟩ : ByteArray)))) = some r := h
 clear h
 replace H := Option.bind_eq_some_iff.mp H
 obtain ⟨t1215, A20, H⟩ := H
 have A2 := Aside0.mk A20
 clear A20
 by_cases c3 : t1215 = true
 ·subst c3
  rw [if_pos rfl] at H
  replace H := Option.bind_eq_some_iff.mp H
  obtain ⟨t1216, A40, H⟩ := H
  have A4 := Aside0.mk A40
  clear A40
  by_cases c5 : t1216.size + 1 ≤ 9223372036854775807
  ·rw [if_pos c5] at H
   have c5b0 := eq_true c5
   have c5b1 : decide (t1216.size + 1 ≤ 9223372036854775807) = true := decide_eq_true c5
   try have c5b2 : (9223372036854775807 < t1216.size + 1) = False := eq_false (Nat.not_lt.2 c5)
   replace H := Option.bind_eq_some_iff.mp H
   obtain ⟨t1217, A60, H⟩ := H
   have A6 := Aside0.mk A60
   clear A60
   by_cases c7 : (t1216 ++ (⟨#[46]⟩ : ByteArray)).size + t1217.size ≤ 9223372036854775807
   ·rw [if_pos c7] at H
    have c7b0 := eq_true c7
    have c7b1 : decide ((t1216 ++ (⟨#[46]⟩ : ByteArray)).size + t1217.size ≤ 9223372036854775807) = true := decide_eq_true c7
    try have c7b3 : (9223372036854775807 < t1216.size + 1 + t1217.size) = False := eq_false (by have h_ := c7; simp only [ByteArray.size_append] at h_; (exact Nat.not_lt.2 h_))
    try have c7b2 : (9223372036854775807 < (t1216 ++ (⟨#[46]⟩ : ByteArray)).size + t1217.size) = False := eq_false (Nat.not_lt.2 c7)
    by_cases c8 : ((t1216 ++ (⟨#[46]⟩ : ByteArray)) ++ t1217).size + 1 ≤ 9223372036854775807
    ·rw [if_pos c8] at H
     have c8b0 := eq_true c8
     have c8b1 : decide (((t1216 ++ (⟨#[46]⟩ : ByteArray)) ++ t1217).size + 1 ≤ 9223372036854775807) = true := decide_eq_true c8
     try have c8b3 : (9223372036854775807 < t1216.size + 1 + t1217.size + 1) = False := eq_false (by have h_ := c8; simp only [ByteArray.size_append] at h_; (exact Nat.not_lt.2 h_))
     try have c8b2 : (9223372036854775807 < ((t1216 ++ (⟨#[46]⟩ : ByteArray)) ++ t1217).size + 1) = False := eq_false (Nat.not_lt.2 c8)
     replace H := Option.bind_eq_some_iff.mp H
     obtain ⟨t1218, A90, H⟩ := H
     have A9 := Aside0.mk A90
     clear A90
     by_cases c10 : (((t1216 ++ (⟨#[46]⟩ : ByteArray)) ++ t1217) ++ (⟨#[46]⟩ : ByteArray)).size + t1218.size ≤ 9223372036854775807
     ·rw [if_pos c10] at H
      have c10b0 := eq_true c10
      have c10b1 : decide ((((t1216 ++ (⟨#[46]⟩ : ByteArray)) ++ t1217) ++ (⟨#[46]⟩ : ByteArray)).size + t1218.size ≤ 9223372036854775807) = true := decide_eq_true c10
      try have c10b3 : (9223372036854775807 < t1216.size + 1 + t1217.size + 1 + t1218.size) = False := eq_false (by have h_ := c10; simp only [ByteArray.size_append] at h_; (exact Nat.not_lt.2 h_))
      try have c10b2 : (9223372036854775807 < (((t1216 ++ (⟨#[46]⟩ : ByteArray)) ++ t1217) ++ (⟨#[46]⟩ : ByteArray)).size + t1218.size) = False := eq_false (Nat.not_lt.2 c10)
      obtain rfl := Option.some.inj H
      go_enter Try.func199, Try.ntmps199
      try go_wp2_with (first | ((with_reducible refine gate_dst (N := 1) rfl ?_); refine box_event ?hg (N := 1) ?hd (cs := #[.int .i64 a0_0, .int .i64 a0_1, .int .i64 a0_2]) (t := 60) ?hr ?_; (case hd => rfl); (case hg => rfl); (case hr => (go_simp; done)); intro gb1214 hg w11 hbox hb; have n0_ := Aside0.mk (below_step HB.out hb); have n1_ := Aside0.mk (hbox); have n2_ := Aside0.mk ((by rw [hg]; exact (below_size HB.out) : w.heap.size ≤ gb1214)); have n3_ := Aside0.mk ((by rw [hg]; exact (below_size HB.out) : w.heap.size ≤ gb1214)); clear HB; have HB := n0_; have BK1214 := n1_; have GW1214 := n2_; have GE1214 := n3_; clear n0_ n1_ n2_ n3_; clear hb hbox hg; have hcz12_0 : w11.cell? ⟨gb1214, 0, none⟩ = some (.int .i64 a0_0) := (blk_cell BK1214.out 0).trans rfl; have hcz12_1 : w11.cell? ⟨gb1214, 1, none⟩ = some (.int .i64 a0_1) := (blk_cell BK1214.out 1).trans rfl; have hcz12_2 : w11.cell? ⟨gb1214, 2, none⟩ = some (.int .i64 a0_2) := (blk_cell BK1214.out 2).trans rfl; have hfz12_0 := blk_frozen BK1214.out 0; have hfz12_1 := blk_frozen BK1214.out 1; have hfz12_2 := blk_frozen BK1214.out 2) | ((with_reducible refine gate_callee (f := 196) rfl ?_); refine goesL_ (some 4) rfl rfl Try.func196 (by kernel_rfl) rfl #[.agg #[.int .i64 a0_0, .int .i64 a0_1, .int .i64 a0_2]] rfl (by (try simp only [List.map_toArray, List.map_cons, List.map_nil]); rfl) ?_; (with_reducible refine (impl_IsValidRow.calls a0_0 a0_1 a0_2 true _ A2.out).mono ?_); rintro e w13 ⟨rfl, hb⟩; refine ⟨_, rfl, ?_⟩; have n0_ := Aside0.mk (blk_below (g := gb1214) (o := .cells #[.int .i64 a0_0, .int .i64 a0_1, .int .i64 a0_2] 60 (0, 0)) BK1214.out hb); have n1_ := Aside0.mk (below_step HB.out hb); clear BK1214; clear HB; have BK1214 := n0_; have HB := n1_; clear n0_ n1_; (try clear hb); (try clear hb2); (try clear hk); (try clear hi)))
      have n0_ := Aside0.mk (blk_drew BK1214.out)
      have n1_ := Aside0.mk (below_drew1 HB.out)
      clear BK1214
      clear HB
      have BK1214 := n0_
      have HB := n1_
      clear n0_ n1_
      refine start_ (n := 14) (S := fun w' => w'.cell? ⟨gb1214, 0, none⟩ = some (.int .i64 a0_0) ∧ w'.cell? ⟨gb1214, 1, none⟩ = some (.int .i64 a0_1) ∧ w'.cell? ⟨gb1214, 2, none⟩ = some (.int .i64 a0_2)) (ds := []) #[false, false, false, false, false, false, false, false, false, false, false, false, false, false] (by kernel_rfl) rfl rfl ⟨(blk_cell BK1214.out 0).trans rfl, (blk_cell BK1214.out 1).trans rfl, (blk_cell BK1214.out 2).trans rfl⟩ (fun hHeld => ?_); refine with_tabW impl_FormatRow.tab3 impl_FormatRow.bits3 (fun HT_ HW_ => ?_)
      generalize w13.drew = w14 at BK1214 HB hHeld ⊢
      refine pure_ (i := 0) (N := some 6) (v := ?_) (a' := ?_) #[true, false, false, false, false, false, false, false, false, false, false, false, false, false] rfl rfl (any_of HT_.out (by kernel_rfl)) (fun _ _ _ h => h) (Or.inl ⟨rfl, ?_⟩) ?_ ?_
      rotate_left
      ·intro w'
       go_simp
       with_reducible rfl
      rotate_left
      ·simp only [Act.put, List.setIfInBounds_toArray, List.set_cons_zero, List.set_cons_succ, i64_w, i32_w]
       rfl
      refine pure_ (i := 4) (N := some 10) (v := ?_) (a' := ?_) #[true, false, false, false, true, false, false, false, false, false, false, false, false, false] rfl rfl (any_of HT_.out (by kernel_rfl)) (fun _ _ _ h => h) (Or.inl ⟨rfl, ?_⟩) ?_ ?_
      rotate_left
      ·intro w'
       go_simp
       with_reducible rfl
      rotate_left
      ·simp only [Act.put, List.setIfInBounds_toArray, List.set_cons_zero, List.set_cons_succ, i64_w, i32_w]
       rfl
      refine pure_ (i := 9) (N := some 15) (v := ?_) (a' := ?_) #[true, false, false, false, true, false, false, false, false, true, false, false, false, false] rfl rfl (any_of HT_.out (by kernel_rfl)) (fun _ _ _ h => h) (Or.inl ⟨rfl, ?_⟩) ?_ ?_
      rotate_left
      ·intro w'
       go_simp
       with_reducible rfl
      rotate_left
      ·simp only [Act.put, List.setIfInBounds_toArray, List.set_cons_zero, List.set_cons_succ, i64_w, i32_w]
       rfl
      refine take_ (i := 1) (N := some 7) (v := ?_) (a' := ?_) #[true, true, false, false, true, false, false, false, false, true, false, false, false, false] rfl rfl (take_ofW HT_.out HW_.out (by kernel_rfl)) (fun _ _ _ h => h) (Or.inl ⟨rfl, ?_⟩) hHeld ?_ ?_
      rotate_left
      ·rintro w' ⟨s0, s1, s2⟩
       go_simp
       with_reducible rfl
      rotate_left
      ·simp only [Act.put, List.setIfInBounds_toArray, List.set_cons_zero, List.set_cons_succ, i64_w, i32_w]
       rfl
      refine take_ (i := 5) (N := some 11) (v := ?_) (a' := ?_) #[true, true, false, false, true, true, false, false, false, true, false, false, false, false] rfl rfl (take_ofW HT_.out HW_.out (by kernel_rfl)) (fun _ _ _ h => h) (Or.inl ⟨rfl, ?_⟩) hHeld ?_ ?_
      rotate_left
      ·rintro w' ⟨s0, s1, s2⟩
       go_simp
       with_reducible rfl
      rotate_left
      ·simp only [Act.put, List.setIfInBounds_toArray, List.set_cons_zero, List.set_cons_succ, i64_w, i32_w]
       rfl
      refine take_ (i := 10) (N := some 16) (v := ?_) (a' := ?_) #[true, true, false, false, true, true, false, false, false, true, true, false, false, false] rfl rfl (take_ofW HT_.out HW_.out (by kernel_rfl)) (fun _ _ _ h => h) (Or.inl ⟨rfl, ?_⟩) hHeld ?_ ?_
      rotate_left
      ·rintro w' ⟨s0, s1, s2⟩
       go_simp
       with_reducible rfl
      rotate_left
      ·simp only [Act.put, List.setIfInBounds_toArray, List.set_cons_zero, List.set_cons_succ, i64_w, i32_w]
       rfl
      refine one_ (i := 2) (N := some 8) #[true, true, true, false, true, true, false, false, false, true, true, false, false, false] rfl rfl (one_of HT_.out (by kernel_rfl)) (by decide) (fun K hK => ?_)
      refine goes_ Try.func155 (by kernel_rfl) rfl #[.int .i64 a0_0] rfl rfl rfl (by (try simp only [List.map_toArray, List.map_cons, List.map_nil]); rfl) ?_
      with_reducible refine (impl_FormatInt.calls k a0_0 t1216 _ A4.out).mono ?_
      rintro e w15 ⟨rfl, hb⟩
      refine ⟨_, rfl, ?_⟩
      have n0_ := Aside0.mk (blk_below (g := gb1214) (o := .cells #[.int .i64 a0_0, .int .i64 a0_1, .int .i64 a0_2] 60 (0, 0)) BK1214.out hb)
      have n1_ := Aside0.mk (below_step HB.out hb)
      clear BK1214
      clear HB
      have BK1214 := n0_
      have HB := n1_
      clear n0_ n1_
      (try clear hb)
      (try clear hb2)
      (try clear hk)
      (try clear hi)
      refine hK.out _ _ ⟨(blk_cell BK1214.out 0).trans rfl, (blk_cell BK1214.out 1).trans rfl, (blk_cell BK1214.out 2).trans rfl⟩ (fun hHeld => ?_)
      clear hK K
      refine norm_ (a' := ?_) ?_ ?_
      rotate_left
      ·show Act.put _ (some 8) _ = _
       simp only [Act.put, List.setIfInBounds_toArray, List.set_cons_zero, List.set_cons_succ, i64_w, i32_w]
       rfl
      refine pure_ (i := 3) (N := some 9) (v := ?_) (a' := ?_) #[true, true, true, true, true, true, false, false, false, true, true, false, false, false] rfl rfl (any_of HT_.out (by kernel_rfl)) (fun _ _ _ h => h) (Or.inl ⟨rfl, ?_⟩) ?_ ?_
      rotate_left
      ·intro w'
       go_simp
       with_reducible rfl
      rotate_left
      ·simp only [Act.put, List.setIfInBounds_toArray, List.set_cons_zero, List.set_cons_succ, i64_w, i32_w]
       rfl
      refine one_ (i := 6) (N := some 12) #[true, true, true, true, true, true, true, false, false, true, true, false, false, false] rfl rfl (one_of HT_.out (by kernel_rfl)) (by decide) (fun K hK => ?_)
      refine goes_ Try.func155 (by kernel_rfl) rfl #[.int .i64 a0_1] rfl rfl rfl (by (try simp only [List.map_toArray, List.map_cons, List.map_nil]); rfl) ?_
      with_reducible refine (impl_FormatInt.calls k a0_1 t1217 _ A6.out).mono ?_
      rintro e w16 ⟨rfl, hb⟩
      refine ⟨_, rfl, ?_⟩
      have n0_ := Aside0.mk (blk_below (g := gb1214) (o := .cells #[.int .i64 a0_0, .int .i64 a0_1, .int .i64 a0_2] 60 (0, 0)) BK1214.out hb)
      have n1_ := Aside0.mk (below_step HB.out hb)
      clear BK1214
      clear HB
      have BK1214 := n0_
      have HB := n1_
      clear n0_ n1_
      (try clear hb)
      (try clear hb2)
      (try clear hk)
      (try clear hi)
      refine hK.out _ _ ⟨(blk_cell BK1214.out 0).trans rfl, (blk_cell BK1214.out 1).trans rfl, (blk_cell BK1214.out 2).trans rfl⟩ (fun hHeld => ?_)
      clear hK K
      refine norm_ (a' := ?_) ?_ ?_
      rotate_left
      ·show Act.put _ (some 12) _ = _
       simp only [Act.put, List.setIfInBounds_toArray, List.set_cons_zero, List.set_cons_succ, i64_w, i32_w]
       rfl
      refine pure_ (i := 7) (N := some 13) (v := ?_) (a' := ?_) #[true, true, true, true, true, true, true, true, false, true, true, false, false, false] rfl rfl (any_of HT_.out (by kernel_rfl)) (fun _ _ _ h => h) (Or.inl ⟨rfl, ?_⟩) ?_ ?_
      rotate_left
      ·intro w'
       go_simp
       with_reducible rfl
      rotate_left
      ·simp only [Act.put, List.setIfInBounds_toArray, List.set_cons_zero, List.set_cons_succ, i64_w, i32_w]
       rfl
      refine pure_ (i := 8) (N := some 14) (v := ?_) (a' := ?_) #[true, true, true, true, true, true, true, true, true, true, true, false, false, false] rfl rfl (any_of HT_.out (by kernel_rfl)) (fun _ _ _ h => h) (Or.inl ⟨rfl, ?_⟩) ?_ ?_
      rotate_left
      ·intro w'
       go_simp
       with_reducible rfl
      rotate_left
      ·simp only [Act.put, List.setIfInBounds_toArray, List.set_cons_zero, List.set_cons_succ, i64_w, i32_w]
       rfl
      refine one_ (i := 11) (N := some 17) #[true, true, true, true, true, true, true, true, true, true, true, true, false, false] rfl rfl (one_of HT_.out (by kernel_rfl)) (by decide) (fun K hK => ?_)
      refine goes_ Try.func155 (by kernel_rfl) rfl #[.int .i64 a0_2] rfl rfl rfl (by (try simp only [List.map_toArray, List.map_cons, List.map_nil]); rfl) ?_
      with_reducible refine (impl_FormatInt.calls k a0_2 t1218 _ A9.out).mono ?_
      rintro e w17 ⟨rfl, hb⟩
      refine ⟨_, rfl, ?_⟩
      have n0_ := Aside0.mk (blk_below (g := gb1214) (o := .cells #[.int .i64 a0_0, .int .i64 a0_1, .int .i64 a0_2] 60 (0, 0)) BK1214.out hb)
      have n1_ := Aside0.mk (below_step HB.out hb)
      clear BK1214
      clear HB
      have BK1214 := n0_
      have HB := n1_
      clear n0_ n1_
      (try clear hb)
      (try clear hb2)
      (try clear hk)
      (try clear hi)
      refine hK.out _ _ ⟨(blk_cell BK1214.out 0).trans rfl, (blk_cell BK1214.out 1).trans rfl, (blk_cell BK1214.out 2).trans rfl⟩ (fun hHeld => ?_)
      clear hK K
      refine norm_ (a' := ?_) ?_ ?_
      rotate_left
      ·show Act.put _ (some 17) _ = _
       simp only [Act.put, List.setIfInBounds_toArray, List.set_cons_zero, List.set_cons_succ, i64_w, i32_w]
       rfl
      refine pure_ (i := 12) (N := some 18) (v := ?_) (a' := ?_) #[true, true, true, true, true, true, true, true, true, true, true, true, true, false] rfl rfl (any_of HT_.out (by kernel_rfl)) (fun _ _ _ h => h) (Or.inl ⟨rfl, ?_⟩) ?_ ?_
      rotate_left
      ·intro w'
       go_simp
       with_reducible rfl
      rotate_left
      ·simp only [Act.put, List.setIfInBounds_toArray, List.set_cons_zero, List.set_cons_succ, i64_w, i32_w]
       rfl
      refine pure_ (i := 13) (N := some 2) (v := ?_) (a' := ?_) #[true, true, true, true, true, true, true, true, true, true, true, true, true, true] rfl rfl (any_of HT_.out (by kernel_rfl)) (fun _ _ _ h => h) (Or.inl ⟨rfl, ?_⟩) ?_ ?_
      rotate_left
      ·intro w'
       go_simp
       with_reducible rfl
      rotate_left
      ·simp only [Act.put, List.setIfInBounds_toArray, List.set_cons_zero, List.set_cons_succ, i64_w, i32_w]
       rfl
      refine done_ (done_of HT_.out (by kernel_rfl)) ?_
      try go_wp2
      go_ret
      exact ⟨rfl, HB.out⟩
     ·rw [if_neg c10] at H
      exact absurd H (by simp)
    ·rw [if_neg c8] at H
     exact absurd H (by simp)
   ·rw [if_neg c7] at H
    exact absurd H (by simp)
  ·rw [if_neg c5] at H
   exact absurd H (by simp)
 ·replace c3 := Bool.eq_false_iff.mpr c3
  subst c3
  rw [if_neg (show ¬ (false = true) by decide)] at H
  obtain rfl := Option.some.inj H
  go_enter Try.func199, Try.ntmps199
  go_wp2_with (first | ((with_reducible refine gate_dst (N := 1) rfl ?_); refine box_event ?hg (N := 1) ?hd (cs := #[.int .i64 a0_0, .int .i64 a0_1, .int .i64 a0_2]) (t := 60) ?hr ?_; (case hd => rfl); (case hg => rfl); (case hr => (go_simp; done)); intro gb1214 hg w18 hbox hb; have n0_ := Aside0.mk (below_step HB.out hb); have n1_ := Aside0.mk (hbox); have n2_ := Aside0.mk ((by rw [hg]; exact (below_size HB.out) : w.heap.size ≤ gb1214)); have n3_ := Aside0.mk ((by rw [hg]; exact (below_size HB.out) : w.heap.size ≤ gb1214)); clear HB; have HB := n0_; have BK1214 := n1_; have GW1214 := n2_; have GE1214 := n3_; clear n0_ n1_ n2_ n3_; clear hb hbox hg; have hcz19_0 : w18.cell? ⟨gb1214, 0, none⟩ = some (.int .i64 a0_0) := (blk_cell BK1214.out 0).trans rfl; have hcz19_1 : w18.cell? ⟨gb1214, 1, none⟩ = some (.int .i64 a0_1) := (blk_cell BK1214.out 1).trans rfl; have hcz19_2 : w18.cell? ⟨gb1214, 2, none⟩ = some (.int .i64 a0_2) := (blk_cell BK1214.out 2).trans rfl; have hfz19_0 := blk_frozen BK1214.out 0; have hfz19_1 := blk_frozen BK1214.out 1; have hfz19_2 := blk_frozen BK1214.out 2) | ((with_reducible refine gate_callee (f := 196) rfl ?_); refine goesL_ (some 4) rfl rfl Try.func196 (by kernel_rfl) rfl #[.agg #[.int .i64 a0_0, .int .i64 a0_1, .int .i64 a0_2]] rfl (by (try simp only [List.map_toArray, List.map_cons, List.map_nil]); rfl) ?_; (with_reducible refine (impl_IsValidRow.calls a0_0 a0_1 a0_2 false _ A2.out).mono ?_); rintro e w20 ⟨rfl, hb⟩; refine ⟨_, rfl, ?_⟩; have n0_ := Aside0.mk (blk_below (g := gb1214) (o := .cells #[.int .i64 a0_0, .int .i64 a0_1, .int .i64 a0_2] 60 (0, 0)) BK1214.out hb); have n1_ := Aside0.mk (below_step HB.out hb); clear BK1214; clear HB; have BK1214 := n0_; have HB := n1_; clear n0_ n1_; (try clear hb); (try clear hb2); (try clear hk); (try clear hi)))
  go_ret
  exact ⟨rfl, HB.out⟩

end Go.Proofs.Ytobndcjmjhehjaa.P
namespace Go.Proofs.Ytobndcjmjhehjaa.P
open Go.RowKit Go.Proofs.YtobndcjmjhehjaaW.PrintWords Go.Proofs.YtobndcjmjhehjaaW.PrintLast Go.Proofs.YtobndcjmjhehjaaW.PrintMore
attribute [local go_sem] max2_int min2_int max_two min_two max_three min_three max_four min_four   -- for this text's walks alone
set_option linter.unusedVariables false
set_option linter.unusedSimpArgs false

/-! ### impl_rowTexts: function 189 -/
def impl_rowTexts.l0 : Nat → List ByteArray → List (S60) → Int → Int → Option (ByteArray)
 | 0, _, _, _, _ => none
 | k + 1, x3, x7, x8, x9 => if x9 < x8 then (if 0 ≤ x9 then (if x9 < (x7.length : Int) then ((impl_FormatRow.f k ((rd_T60 x7 x9).f0) ((rd_T60 x7 x9).f1) ((rd_T60 x7 x9).f2)).bind fun t1224 => (if x3.length < 8796093022208 then (impl_rowTexts.l0 k (x3 ++ [t1224]) x7 x8 (wrap64 (x9 + 1))) else (none))) else (none)) else (none)) else ((impl_joined.f k x3 (⟨#[32]⟩ : ByteArray)).bind fun t1228 => (some t1228))
def impl_rowTexts.f (k : Nat) (l0 : List (S60)) : Option (ByteArray) := impl_rowTexts.l0 k ([] : List ByteArray) l0 (l0.length : Int) 0
theorem impl_rowTexts.mono_l : ∀ k, (∀ y0 y1 y2 y3, LeO (impl_rowTexts.l0 k y0 y1 y2 y3) (impl_rowTexts.l0 (k + 1) y0 y1 y2 y3))
 | 0 => fun _ _ _ _ r h => by simp [impl_rowTexts.l0] at h
 | k + 1 => by
  have ih0 := impl_rowTexts.mono_l k
  ·intro y0 y1 y2 y3
   unfold impl_rowTexts.l0
   repeat' first
   | (with_reducible exact ih0 _ _ _ _)
   | (with_reducible exact impl_FormatRow.mono _ _ _ _)
   | (with_reducible exact impl_joined.mono _ _ _)
   | (with_reducible exact LeO.refl _)
   | (with_reducible refine LeO.ite ?_ ?_)
   | (with_reducible refine LeO.bind ?_ (fun _ => ?_))
theorem impl_rowTexts.mono : ∀ a0 k, LeO (impl_rowTexts.f k a0) (impl_rowTexts.f (k + 1) a0) := by
 intro a0 k
 have ih0 := impl_rowTexts.mono_l k
 unfold impl_rowTexts.f
 repeat' (with_reducible exact ih0 _ _ _ _)

set_option maxHeartbeats 8000000 in
set_option maxRecDepth 100000 in
theorem impl_rowTexts.calls (k : Nat) (A0 : Option Addr) (c0 : Nat) (l0 : List (S60)) (r : ByteArray) (w : World) (hr0 : Kd.C k60 w A0 l0.length l0) (hc0 : l0.length ≤ c0) (h : impl_rowTexts.f k l0 = some r) :
  Calls Try.prog 189 #[.slice A0 l0.length c0] w fun e w' => e = .returned (.string r) ∧ Below w.heap.size w w' := by
 have hu60 := Try.underlying60
 have HR0 := Aside0.mk hr0
 have HC0 := Aside0.mk hc0
 clear hr0 hc0
 have HB := Aside0.mk (Below.refl w.heap.size w)
 have H : (impl_rowTexts.l0 k ([] : List ByteArray) l0 (l0.length : Int) 0) = some r := h
 clear h
 obtain ⟨y1219, hy1219⟩ : ∃ y_ : List ByteArray, y_ = ([] : List ByteArray) := ⟨_, rfl⟩
 replace H : (impl_rowTexts.l0 k y1219 l0 (l0.length : Int) 0) = some r := by (rw [hy1219]; with_reducible exact H)
 have Ny1219 := Aside0.mk hy1219
 clear hy1219
 have H' := Aside0.mk H
 clear H
 go_enter Try.func189, Try.ntmps189
 go_wp2_with (((with_reducible refine gate_dst (N := 6) rfl ?_); refine Kd.R_lit Kd.string _ 9 ?hg (N := 6) ?hd (xs := ([] : List ByteArray)) (inner := []) (ok := fun _ => True) (okp := fun _ => True) ?hr ?hp (fun _ hk => hk) trivial (Below.refl _ _) (Nat.le_refl _) (by simp) ?_; (case hd => rfl); (case hg => rfl); (case hr => (go_simp; done)); (case hp => exact (Reps.none _ _)); intro v1220 w2 ho3 hb hg_ hnew_; clear hg_ hnew_; (rw [← Ny1219.out] at ho3); have n0_ := Aside0.mk (Kd.R_lower ho3 (below_size HB.out)); have n1_ := Aside0.mk (below_step HB.out hb); clear HB; have HO1221 := n0_; have HB := n1_; clear n0_ n1_; clear hb ho3))
 go_loopg [3, 9] k (fun kq v3 v9 w' => ∃ (x3_1 : List ByteArray) (x9_1 : Int), v9 = .int .i64 x9_1 ∧ Aside0 (impl_rowTexts.l0 kq x3_1 l0 (l0.length : Int) x9_1 = some r) ∧ Aside0 (kq ≤ k) ∧ Aside0 (Kd.R Kd.string 9 w' w.heap.size (fun _ => True) v3 x3_1) ∧ Aside0 (Below w.heap.size w w'))
 case atStart => exact ⟨(y1219), (0), rfl, H', ⟨Nat.le_refl _⟩, ⟨HO1221.out⟩, ⟨HB.out⟩⟩
 case round =>
  clear H'
  obtain ⟨x3_1, x9_1, rfl, HA, HK1, HO_3, HB⟩ := hrel
  cases gk with
  | zero => exact absurd HA.out (by simp [impl_rowTexts.l0])
  | succ k1 =>
   have H := HA.out
   clear HA
   simp only [impl_rowTexts.l0] at H
   by_cases c4 : x9_1 < (l0.length : Int)
   ·rw [if_pos c4] at H
    have c4b0 : decide (x9_1 < (l0.length : Int)) = true := decide_eq_true c4
    clear c4
    by_cases c5 : 0 ≤ x9_1
    ·rw [if_pos c5] at H
     have c5b0 : decide (0 ≤ x9_1) = true := decide_eq_true c5
     clear c5
     by_cases c6 : x9_1 < (l0.length : Int)
     ·rw [if_pos c6] at H
      have c6b0 : decide (x9_1 < (l0.length : Int)) = true := decide_eq_true c6
      clear c6
      replace H := Option.bind_eq_some_iff.mp H
      obtain ⟨t1224, A70, H⟩ := H
      have A7 := Aside0.mk A70
      clear A70
      by_cases c8 : x3_1.length < 8796093022208
      ·rw [if_pos c8] at H
       have LMc8 := Aside0.mk c8
       clear c8
       obtain ⟨y1225, hy1225⟩ : ∃ y_ : List ByteArray, y_ = (x3_1 ++ [t1224]) := ⟨_, rfl⟩
       replace H : (impl_rowTexts.l0 k1 y1225 l0 (l0.length : Int) (wrap64 (x9_1 + 1))) = some r := by (rw [hy1225]; with_reducible exact H)
       have Ny1225 := Aside0.mk hy1225
       clear hy1225
       have H' := Aside0.mk H
       clear H
       have p1222 : 0 ≤ (x9_1 : Int) := of_decide_eq_true (by (with_reducible assumption))
       have q1222 : x9_1 < (l0.length : Int) := of_decide_eq_true (by (with_reducible assumption))
       obtain ⟨ad1222, e1222, hx1222_0, hx1222_1, hx1222_2⟩ := at_T60 HR0.out x9_1 p1222 q1222
       cases e1222
       replace hx1222_0 := (HB.out.cell (World.block_lt_of_cell? w _ hx1222_0)).trans hx1222_0
       replace hx1222_1 := (HB.out.cell (World.block_lt_of_cell? w _ hx1222_1)).trans hx1222_1
       replace hx1222_2 := (HB.out.cell (World.block_lt_of_cell? w _ hx1222_2)).trans hx1222_2
       replace p1222 := eq_true p1222
       replace q1222 := eq_true q1222
       go_wp2_with (first | ((with_reducible refine gate_dst (N := 5) rfl ?_); refine box_event ?hg (N := 5) ?hd (cs := #[.int .i64 0, .int .i64 0, .int .i64 0]) (t := 60) ?hr ?_; (case hd => rfl); (case hg => rfl); (case hr => (go_simp; done)); intro gb1223 hg w9 hbox hb; have n0_ := Aside0.mk (Kd.R_below HO_3.out hb); have n1_ := Aside0.mk (below_step HB.out hb); have n2_ := Aside0.mk (hbox); have n3_ := Aside0.mk ((by rw [hg]; exact (below_size HB.out) : w.heap.size ≤ gb1223)); have n4_ := Aside0.mk ((by rw [hg]; exact (below_size HB.out) : w.heap.size ≤ gb1223)); clear HO_3; clear HB; have HO_3 := n0_; have HB := n1_; have BK1223 := n2_; have GW1223 := n3_; have GE1223 := n4_; clear n0_ n1_ n2_ n3_ n4_; clear hb hbox hg; have hcz10_0 : w9.cell? ⟨gb1223, 0, none⟩ = some (.int .i64 0) := (blk_cell BK1223.out 0).trans rfl; have hcz10_1 : w9.cell? ⟨gb1223, 1, none⟩ = some (.int .i64 0) := (blk_cell BK1223.out 1).trans rfl; have hcz10_2 : w9.cell? ⟨gb1223, 2, none⟩ = some (.int .i64 0) := (blk_cell BK1223.out 2).trans rfl; have hfz10_0 := blk_frozen BK1223.out 0; have hfz10_1 := blk_frozen BK1223.out 1; have hfz10_2 := blk_frozen BK1223.out 2) | ((with_reducible refine gate_callee (f := 199) rfl ?_); refine goesL_ (some 15) rfl rfl Try.func199 (by kernel_rfl) rfl #[.agg #[.int .i64 ((rd_T60 l0 x9_1).f0), .int .i64 ((rd_T60 l0 x9_1).f1), .int .i64 ((rd_T60 l0 x9_1).f2)]] rfl (by (try simp only [List.map_toArray, List.map_cons, List.map_nil]); rfl) ?_; (with_reducible refine (impl_FormatRow.calls k1 ((rd_T60 l0 x9_1).f0) ((rd_T60 l0 x9_1).f1) ((rd_T60 l0 x9_1).f2) t1224 _ A7.out).mono ?_); rintro e w11 ⟨rfl, hb⟩; refine ⟨_, rfl, ?_⟩; have n0_ := Aside0.mk (Kd.R_below (by exact (Kd.R_mono (Kd.R_far (p := ⟨gb1223, 2, none⟩) (Kd.R_far (p := ⟨gb1223, 1, none⟩) (Kd.R_far (p := ⟨gb1223, 0, none⟩) (Kd.R_types HO_3.out BK1223.out (by decide)) (fun _ hk => hk.2) (.int .i64 ((rd_T60 l0 x9_1).f0))) (fun _ hk => hk.2) (.int .i64 ((rd_T60 l0 x9_1).f1))) (fun _ hk => hk.2) (.int .i64 ((rd_T60 l0 x9_1).f2))) (fun _ h_ => h_.1))) hb); have n1_ := Aside0.mk (blk_below (g := gb1223) (o := .cells #[.int .i64 ((rd_T60 l0 x9_1).f0), .int .i64 ((rd_T60 l0 x9_1).f1), .int .i64 ((rd_T60 l0 x9_1).f2)] 60 (0, 0)) (by refine blk_put (cs := #[.int .i64 ((rd_T60 l0 x9_1).f0), .int .i64 ((rd_T60 l0 x9_1).f1), .int .i64 0]) ?_ 2 _ rfl; refine blk_put (cs := #[.int .i64 ((rd_T60 l0 x9_1).f0), .int .i64 0, .int .i64 0]) ?_ 1 _ rfl; refine blk_put (cs := #[.int .i64 0, .int .i64 0, .int .i64 0]) ?_ 0 _ rfl; exact BK1223.out) hb); have n2_ := Aside0.mk (below_step (by repeat (with_reducible first | exact HB.out | refine below_set ?_ GE1223.out)) hb); clear HO_3; clear BK1223; clear HB; have HO_3 := n0_; have BK1223 := n1_; have HB := n2_; clear n0_ n1_ n2_; (try clear hb); (try clear hb2); (try clear hk); (try clear hi)) | ((with_reducible refine gate_builtin (b := .append) (xs := #[.tmp 13, .tmp 16]) rfl ?_); at_builtin; refine Kd.R_append Kd.string (w0 := w) w.heap.size rfl (.tmp 13) (.tmp 16) 134 9 (.string ⟨#[]⟩) 16 rfl Try.underlying134 info9 rfl (by decide) (by omega) u3 x3_1 t1224 [.string t1224] (fun _ => True) (fun _ => False) rfl rfl ?aP (fun _ hk => hk.elim) ?aF ?aO ?aB ?aS ?aL ?_; (case aP => exact rfl); (case aB => exact HB.out); (case aF => exact (fun _ _ => trivial)); (case aO => exact HO_3.out); (case aS => exact (below_size HB.out)); (case aL => have := LMc8.out; omega); intro v1226 w12 ho hb hg hat; rw [← Ny1225.out] at ho; have n0_ := Aside0.mk (blk_grown (g := gb1223) (o := .cells #[.int .i64 ((rd_T60 l0 x9_1).f0), .int .i64 ((rd_T60 l0 x9_1).f1), .int .i64 ((rd_T60 l0 x9_1).f2)] 60 (0, 0)) BK1223.out hg (Kd.R_ne HO_3.out BK1223.out (by decide))); have n1_ := Aside0.mk (hb); have n2_ := Aside0.mk (ho); clear BK1223; clear HB; clear HO_3; have BK1223 := n0_; have HB := n1_; have HO1227 := n2_; clear n0_ n1_ n2_; clear ho hb hg hat))
       go_roundg k1
       case measure => have := HK1.out; omega
       case rel => exact ⟨(y1225), (wrap64 (x9_1 + 1)), rfl, H', ⟨by have := HK1.out; omega⟩, ⟨HO1227.out⟩, ⟨HB.out⟩⟩
      ·rw [if_neg c8] at H
       exact absurd H (by simp)
     ·rw [if_neg c6] at H
      exact absurd H (by simp)
    ·rw [if_neg c5] at H
     exact absurd H (by simp)
   ·rw [if_neg c4] at H
    have c4b0 : decide (x9_1 < (l0.length : Int)) = false := decide_eq_false c4
    clear c4
    replace H := Option.bind_eq_some_iff.mp H
    obtain ⟨t1228, A130, H⟩ := H
    have A13 := Aside0.mk A130
    clear A130
    obtain rfl := Option.some.inj H
    obtain ⟨Ao14, co14, eo14⟩ := Kd.R_slice HO_3.out
    subst eo14
    go_wp2_with (((with_reducible refine gate_callee (f := 154) rfl ?_); refine goesL_ (some 20) rfl rfl Try.func154 (by kernel_rfl) rfl #[.slice Ao14 x3_1.length co14, .string (⟨#[32]⟩ : ByteArray)] rfl (by (try simp only [List.map_toArray, List.map_cons, List.map_nil]); rfl) ?_; (with_reducible refine (impl_joined.calls k1 _ _ x3_1 (⟨#[32]⟩ : ByteArray) t1228 _ ?side1 ?side2 A13.out).mono ?_); (case side1 => repeat (exact (Kd.R_reads' HO_3.out).2.2)); (case side2 => exact (Kd.R_reads' HO_3.out).2.1); rintro e w' ⟨rfl, ⟨nd, rfl⟩⟩; refine ⟨_, rfl, ?_⟩))
    go_ret
    exact ⟨rfl, by repeat ((with_reducible first | exact HB.out | apply pw_below_drewN))⟩

end Go.Proofs.Ytobndcjmjhehjaa.P
namespace Go.Proofs.Ytobndcjmjhehjaa.P
open Go.RowKit Go.Proofs.YtobndcjmjhehjaaW.PrintWords Go.Proofs.YtobndcjmjhehjaaW.PrintLast Go.Proofs.YtobndcjmjhehjaaW.PrintMore
attribute [local go_sem] max2_int min2_int max_two min_two max_three min_three max_four min_four   -- for this text's walks alone
set_option linter.unusedVariables false
set_option linter.unusedSimpArgs false

/-! ### impl_FormatRows: function 156 -/
def impl_FormatRows.f (k : Nat) (l0 : List (S60)) : Option (ByteArray) := (impl_AreValidRows.f k l0).bind fun t1229 => (if t1229 = true then ((impl_rowTexts.f k l0).bind fun t1230 => (some t1230)) else (some (⟨#[]⟩ : ByteArray)))
theorem impl_FormatRows.mono : ∀ a0 k, LeO (impl_FormatRows.f k a0) (impl_FormatRows.f (k + 1) a0) := by
 intro a0 k
 unfold impl_FormatRows.f
 repeat' first
   | (with_reducible exact impl_AreValidRows.mono _ _)
   | (with_reducible exact impl_rowTexts.mono _ _)
   | (with_reducible exact LeO.refl _)
   | (with_reducible refine LeO.ite ?_ ?_)
   | (with_reducible refine LeO.bind ?_ (fun _ => ?_))
   | refine LeO.bind ?_ (fun _ => ?_)
set_option maxHeartbeats 8000000 in
set_option maxRecDepth 100000 in
theorem impl_FormatRows.calls (k : Nat) (A0 : Option Addr) (c0 : Nat) (l0 : List (S60)) (r : ByteArray) (w : World) (hr0 : Kd.C k60 w A0 l0.length l0) (hc0 : l0.length ≤ c0) (h : impl_FormatRows.f k l0 = some r) :
  Calls Try.prog 156 #[.slice A0 l0.length c0] w fun e w' => e = .returned (.string r) ∧ Below w.heap.size w w' := by
 have HR0 := Aside0.mk hr0
 have HC0 := Aside0.mk hc0
 clear hr0 hc0
 have HB := Aside0.mk (Below.refl w.heap.size w)
 have H : ((impl_AreValidRows.f k l0).bind fun t1229 => (if t1229 = true then ((impl_rowTexts.f k l0).bind fun t1230 => (some t1230)) else (some (⟨#[]⟩ : ByteArray)))) = some r := h
 clear h
 replace H := Option.bind_eq_some_iff.mp H
 obtain ⟨t1229, A20, H⟩ := H
 have A2 := Aside0.mk A20
 clear A20
 by_cases c3 : t1229 = true
 ·subst c3
  rw [if_pos rfl] at H
  replace H := Option.bind_eq_some_iff.mp H
  obtain ⟨t1230, A40, H⟩ := H
  have A4 := Aside0.mk A40
  clear A40
  obtain rfl := Option.some.inj H
  go_enter Try.func156, Try.ntmps156
  go_wp2_with (first | ((with_reducible refine gate_callee (f := 133) rfl ?_); refine goesL_ (some 4) rfl rfl Try.func133 (by kernel_rfl) rfl #[.slice A0 l0.length c0] rfl (by (try simp only [List.map_toArray, List.map_cons, List.map_nil]); rfl) ?_; (with_reducible refine (impl_AreValidRows.calls k _ _ l0 true _ ?side1 ?side2 A2.out).mono ?_); (case side1 => repeat (exact HR0.out)); (case side2 => exact HC0.out); rintro e w5 ⟨rfl, hb⟩; refine ⟨_, rfl, ?_⟩; have n0_ := Aside0.mk (below_step HB.out hb); clear HB; have HB := n0_; clear n0_; (try clear hb); (try clear hb2); (try clear hk); (try clear hi)) | ((with_reducible refine gate_callee (f := 189) rfl ?_); refine goesL_ (some 7) rfl rfl Try.func189 (by kernel_rfl) rfl #[.slice A0 l0.length c0] rfl (by (try simp only [List.map_toArray, List.map_cons, List.map_nil]); rfl) ?_; (with_reducible refine (impl_rowTexts.calls k _ _ l0 t1230 _ ?side1 ?side2 A4.out).mono ?_); (case side1 => repeat (exact (Kd.C_below HR0.out HB.out))); (case side2 => exact HC0.out); rintro e w6 ⟨rfl, hb⟩; refine ⟨_, rfl, ?_⟩; have n0_ := Aside0.mk (below_step HB.out hb); clear HB; have HB := n0_; clear n0_; (try clear hb); (try clear hb2); (try clear hk); (try clear hi)))
  go_ret
  exact ⟨rfl, HB.out⟩
 ·replace c3 := Bool.eq_false_iff.mpr c3
  subst c3
  rw [if_neg (show ¬ (false = true) by decide)] at H
  obtain rfl := Option.some.inj H
  go_enter Try.func156, Try.ntmps156
  go_wp2_with (((with_reducible refine gate_callee (f := 133) rfl ?_); refine goesL_ (some 4) rfl rfl Try.func133 (by kernel_rfl) rfl #[.slice A0 l0.length c0] rfl (by (try simp only [List.map_toArray, List.map_cons, List.map_nil]); rfl) ?_; (with_reducible refine (impl_AreValidRows.calls k _ _ l0 false _ ?side1 ?side2 A2.out).mono ?_); (case side1 => repeat (exact HR0.out)); (case side2 => exact HC0.out); rintro e w7 ⟨rfl, hb⟩; refine ⟨_, rfl, ?_⟩; have n0_ := Aside0.mk (below_step HB.out hb); clear HB; have HB := n0_; clear n0_; (try clear hb); (try clear hb2); (try clear hk); (try clear hi)))
  go_ret
  exact ⟨rfl, HB.out⟩

end Go.Proofs.Ytobndcjmjhehjaa.P
namespace Go.Proofs.Ytobndcjmjhehjaa.P
open Go.RowKit Go.Proofs.YtobndcjmjhehjaaW.PrintWords Go.Proofs.YtobndcjmjhehjaaW.PrintLast Go.Proofs.YtobndcjmjhehjaaW.PrintMore
attribute [local go_sem] max2_int min2_int max_two min_two max_three min_three max_four min_four   -- for this text's walks alone
set_option linter.unusedVariables false
set_option linter.unusedSimpArgs false

/-! ### impl_FormatTask: function 57 -/
def impl_FormatTask.l0 : Nat → ByteArray → List Bool → Int → Int → Int → List (S60) → List (S60) → List Bool → Int → Option (ByteArray)
 | 0, _, _, _, _, _, _, _, _, _ => none
 | k + 1, x3, x10, x11, x12, x1232000, x1232001, x1232002, x1232003, x1232004 => if x12 < x11 then (if 0 ≤ x12 then (if x12 < (x10.length : Int) then (if rdOf false x10 x12 = true then (if x3.size + 1 ≤ 9223372036854775807 then (impl_FormatTask.l0 k (x3 ++ (⟨#[49]⟩ : ByteArray)) x10 x11 (wrap64 (x12 + 1)) x1232000 x1232001 x1232002 x1232003 x1232004) else (none)) else (if x3.size + 1 ≤ 9223372036854775807 then (impl_FormatTask.l0 k (x3 ++ (⟨#[48]⟩ : ByteArray)) x10 x11 (wrap64 (x12 + 1)) x1232000 x1232001 x1232002 x1232003 x1232004) else (none))) else (none)) else (none)) else ((impl_FormatInt.f k x1232000).bind fun t1234 => ((impl_FormatRows.f k x1232001).bind fun t1235 => ((impl_FormatRows.f k x1232002).bind fun t1236 => ((impl_FormatInt.f k x1232004).bind fun t1237 => ((impl_joined.f k ([t1234, t1235, t1236, x3, t1237] : List ByteArray) (⟨#[59]⟩ : ByteArray)).bind fun t1241 => (some t1241))))))
def impl_FormatTask.f (k : Nat) (a0_0 : Int) (l0_1 : List (S60)) (l0_2 : List (S60)) (l0_3 : List Bool) (a0_4 : Int) : Option (ByteArray) := (impl_IsValidTask.f k a0_0 l0_1 l0_2 l0_3 a0_4).bind fun t1232 => (if t1232 = true then (impl_FormatTask.l0 k (⟨#[]⟩ : ByteArray) l0_3 (l0_3.length : Int) 0 a0_0 l0_1 l0_2 l0_3 a0_4) else (some (⟨#[]⟩ : ByteArray)))
theorem impl_FormatTask.mono_l : ∀ k, (∀ y0 y1 y2 y3 y4 y5 y6 y7 y8, LeO (impl_FormatTask.l0 k y0 y1 y2 y3 y4 y5 y6 y7 y8) (impl_FormatTask.l0 (k + 1) y0 y1 y2 y3 y4 y5 y6 y7 y8))
 | 0 => fun _ _ _ _ _ _ _ _ _ r h => by simp [impl_FormatTask.l0] at h
 | k + 1 => by
  have ih0 := impl_FormatTask.mono_l k
  ·intro y0 y1 y2 y3 y4 y5 y6 y7 y8
   unfold impl_FormatTask.l0
   repeat' first
   | (with_reducible exact ih0 _ _ _ _ _ _ _ _ _)
   | (with_reducible exact impl_FormatInt.mono _ _)
   | (with_reducible exact impl_FormatRows.mono _ _)
   | (with_reducible exact impl_joined.mono _ _ _)
   | (with_reducible exact LeO.refl _)
   | (with_reducible refine LeO.ite ?_ ?_)
   | (with_reducible refine LeO.bind ?_ (fun _ => ?_))
   | refine LeO.bind ?_ (fun _ => ?_)
theorem impl_FormatTask.mono : ∀ a0 a1 a2 a3 a4 k, LeO (impl_FormatTask.f k a0 a1 a2 a3 a4) (impl_FormatTask.f (k + 1) a0 a1 a2 a3 a4) := by
 intro a0 a1 a2 a3 a4 k
 have ih0 := impl_FormatTask.mono_l k
 unfold impl_FormatTask.f
 repeat' first
   | (with_reducible exact ih0 _ _ _ _ _ _ _ _ _)
   | (with_reducible exact impl_IsValidTask.mono _ _ _ _ _ _)
   | (with_reducible exact LeO.refl _)
   | (with_reducible refine LeO.ite ?_ ?_)
   | (with_reducible refine LeO.bind ?_ (fun _ => ?_))
   | refine LeO.bind ?_ (fun _ => ?_)
def impl_FormatTask.T11 : Bool × List (List Nat × List Nat) := (true, [([], []), ([0], [0]), ([1], [1]), ([], []), ([3], [3]), ([4, 2], [4]), ([], []), ([6], [6]), ([7, 5], [7]), ([], []), ([], []), ([10], [10]), ([11, 8], [11]), ([2, 5, 8, 9, 12], [2, 5, 8, 9, 12]), ([13, 12], [13]), ([14, 14, 0, 1, 2, 3, 4, 5, 6, 7, 8, 9, 10, 11, 12, 13, 14], [14])])
def impl_FormatTask.B11 : List Nat := [0, 1, 3, 0, 8, 31, 0, 64, 255, 0, 0, 1024, 3583, 8191, 16383, 32767]
theorem impl_FormatTask.tab11 : rtab .any (opsOf Try.f57 11) = impl_FormatTask.T11 := by kernel_rfl
theorem impl_FormatTask.bits11 : waitsOk impl_FormatTask.T11.2 impl_FormatTask.B11 = true := by kernel_rfl
set_option maxHeartbeats 8000000 in
set_option maxRecDepth 100000 in
theorem impl_FormatTask.calls (k : Nat) (a0_0 : Int) (A0_1 : Option Addr) (c0_1 : Nat) (l0_1 : List (S60)) (A0_2 : Option Addr) (c0_2 : Nat) (l0_2 : List (S60)) (A0_3 : Option Addr) (c0_3 : Nat) (l0_3 : List Bool) (a0_4 : Int) (r : ByteArray) (w : World) (hr0_1 : Kd.C k60 w A0_1 l0_1.length l0_1) (hc0_1 : l0_1.length ≤ c0_1) (hr0_2 : Kd.C k60 w A0_2 l0_2.length l0_2) (hc0_2 : l0_2.length ≤ c0_2) (hr0_3 : Kd.C Kd.bool w A0_3 l0_3.length l0_3) (hc0_3 : l0_3.length ≤ c0_3) (h : impl_FormatTask.f k a0_0 l0_1 l0_2 l0_3 a0_4 = some r) :
  Calls Try.prog 57 #[.agg #[.int .i64 a0_0, .slice A0_1 l0_1.length c0_1, .slice A0_2 l0_2.length c0_2, .slice A0_3 l0_3.length c0_3, .int .i64 a0_4]] w fun e w' => e = .returned (.string r) ∧ Below w.heap.size w w' := by
 have hu40 := Try.underlying40
 have HR0_1 := Aside0.mk hr0_1
 have HC0_1 := Aside0.mk hc0_1
 clear hr0_1 hc0_1
 have HR0_2 := Aside0.mk hr0_2
 have HC0_2 := Aside0.mk hc0_2
 clear hr0_2 hc0_2
 have HR0_3 := Aside0.mk hr0_3
 have HC0_3 := Aside0.mk hc0_3
 clear hr0_3 hc0_3
 have HB := Aside0.mk (Below.refl w.heap.size w)
 have H : ((impl_IsValidTask.f k a0_0 l0_1 l0_2 l0_3 a0_4).bind fun t1232 => (if t1232 = true then (impl_FormatTask.l0 k (⟨#[]⟩ : ByteArray) l0_3 (l0_3.length : Int) 0 a0_0 l0_1 l0_2 l0_3 a0_4) else (some (⟨#[]⟩ : ByteArray)))) = some r := h
 clear h
 replace H := Option.bind_eq_some_iff.mp H
 obtain ⟨t1232, A20, H⟩ := H
 have A2 := Aside0.mk A20
 clear A20
 by_cases c3 : t1232 = true
 ·subst c3
  rw [if_pos rfl] at H
  have H' := Aside0.mk H
  clear H
  go_enter Try.func57, Try.ntmps57
  go_wp2_with (first | ((with_reducible refine gate_dst (N := 1) rfl ?_); refine box_event ?hg (N := 1) ?hd (cs := #[.int .i64 a0_0, .slice A0_1 l0_1.length c0_1, .slice A0_2 l0_2.length c0_2, .slice A0_3 l0_3.length c0_3, .int .i64 a0_4]) (t := 40) ?hr ?_; (case hd => rfl); (case hg => rfl); (case hr => (go_simp; done)); intro gb1231 hg w4 hbox hb; have n0_ := Aside0.mk (below_step HB.out hb); have n1_ := Aside0.mk (hbox); have n2_ := Aside0.mk ((by rw [hg]; exact (below_size HB.out) : w.heap.size ≤ gb1231)); have n3_ := Aside0.mk ((by rw [hg]; exact (below_size HB.out) : w.heap.size ≤ gb1231)); clear HB; have HB := n0_; have BK1231 := n1_; have GW1231 := n2_; have GE1231 := n3_; clear n0_ n1_ n2_ n3_; clear hb hbox hg; have hcz5_0 : w4.cell? ⟨gb1231, 0, none⟩ = some (.int .i64 a0_0) := (blk_cell BK1231.out 0).trans rfl; have hcz5_1 : w4.cell? ⟨gb1231, 1, none⟩ = some (.slice A0_1 l0_1.length c0_1) := (blk_cell BK1231.out 1).trans rfl; have hcz5_2 : w4.cell? ⟨gb1231, 2, none⟩ = some (.slice A0_2 l0_2.length c0_2) := (blk_cell BK1231.out 2).trans rfl; have hcz5_3 : w4.cell? ⟨gb1231, 3, none⟩ = some (.slice A0_3 l0_3.length c0_3) := (blk_cell BK1231.out 3).trans rfl; have hcz5_4 : w4.cell? ⟨gb1231, 4, none⟩ = some (.int .i64 a0_4) := (blk_cell BK1231.out 4).trans rfl; have hfz5_0 := blk_frozen BK1231.out 0; have hfz5_1 := blk_frozen BK1231.out 1; have hfz5_2 := blk_frozen BK1231.out 2; have hfz5_3 := blk_frozen BK1231.out 3; have hfz5_4 := blk_frozen BK1231.out 4) | ((with_reducible refine gate_callee (f := 39) rfl ?_); refine goesL_ (some 7) rfl rfl Try.func39 (by kernel_rfl) rfl #[.agg #[.int .i64 a0_0, .slice A0_1 l0_1.length c0_1, .slice A0_2 l0_2.length c0_2, .slice A0_3 l0_3.length c0_3, .int .i64 a0_4]] rfl (by (try simp only [List.map_toArray, List.map_cons, List.map_nil]); rfl) ?_; (with_reducible refine (impl_IsValidTask.calls k a0_0 _ _ l0_1 _ _ l0_2 _ _ l0_3 a0_4 true _ ?side1 ?side2 ?side3 ?side4 ?side5 ?side6 A2.out).mono ?_); (case side1 => repeat (exact (Kd.C_below HR0_1.out HB.out))); (case side2 => exact HC0_1.out); (case side3 => repeat (exact (Kd.C_below HR0_2.out HB.out))); (case side4 => exact HC0_2.out); (case side5 => repeat (exact (Kd.C_below HR0_3.out HB.out))); (case side6 => exact HC0_3.out); rintro e w6 ⟨rfl, hb⟩; refine ⟨_, rfl, ?_⟩; have n0_ := Aside0.mk (blk_below (g := gb1231) (o := .cells #[.int .i64 a0_0, .slice A0_1 l0_1.length c0_1, .slice A0_2 l0_2.length c0_2, .slice A0_3 l0_3.length c0_3, .int .i64 a0_4] 40 (0, 0)) BK1231.out hb); have n1_ := Aside0.mk (below_step HB.out hb); clear BK1231; clear HB; have BK1231 := n0_; have HB := n1_; clear n0_ n1_; (try clear hb); (try clear hb2); (try clear hk); (try clear hi); have hcz7_0 : w6.cell? ⟨gb1231, 0, none⟩ = some (.int .i64 a0_0) := (blk_cell BK1231.out 0).trans rfl; have hcz7_1 : w6.cell? ⟨gb1231, 1, none⟩ = some (.slice A0_1 l0_1.length c0_1) := (blk_cell BK1231.out 1).trans rfl; have hcz7_2 : w6.cell? ⟨gb1231, 2, none⟩ = some (.slice A0_2 l0_2.length c0_2) := (blk_cell BK1231.out 2).trans rfl; have hcz7_3 : w6.cell? ⟨gb1231, 3, none⟩ = some (.slice A0_3 l0_3.length c0_3) := (blk_cell BK1231.out 3).trans rfl; have hcz7_4 : w6.cell? ⟨gb1231, 4, none⟩ = some (.int .i64 a0_4) := (blk_cell BK1231.out 4).trans rfl; have hfz7_0 := blk_frozen BK1231.out 0; have hfz7_1 := blk_frozen BK1231.out 1; have hfz7_2 := blk_frozen BK1231.out 2; have hfz7_3 := blk_frozen BK1231.out 3; have hfz7_4 := blk_frozen BK1231.out 4))
  go_loopg [3, 12] k (fun kq v3 v12 w' => ∃ (x3_1 : ByteArray) (x12_1 : Int), v3 = .string x3_1 ∧ v12 = .int .i64 x12_1 ∧ Aside0 (impl_FormatTask.l0 kq x3_1 l0_3 (l0_3.length : Int) x12_1 a0_0 l0_1 l0_2 l0_3 a0_4 = some r) ∧ Aside0 (kq ≤ k) ∧ Aside0 (w'.heap[gb1231]? = some (.cells #[.int .i64 a0_0, (.slice A0_1 l0_1.length c0_1), (.slice A0_2 l0_2.length c0_2), (.slice A0_3 l0_3.length c0_3), .int .i64 a0_4] 40 (0, 0))) ∧ Aside0 (Below w.heap.size w w'))
  case atStart => exact ⟨((⟨#[]⟩ : ByteArray)), (0), rfl, rfl, H', ⟨Nat.le_refl _⟩, ⟨BK1231.out⟩, ⟨HB.out⟩⟩
  case round =>
   clear H'
   try clear hcz5_0
   try clear hcz5_1
   try clear hcz5_2
   try clear hcz5_3
   try clear hcz5_4
   try clear hcz7_0
   try clear hcz7_1
   try clear hcz7_2
   try clear hcz7_3
   try clear hcz7_4
   try clear hfz5_0
   try clear hfz5_1
   try clear hfz5_2
   try clear hfz5_3
   try clear hfz5_4
   try clear hfz7_0
   try clear hfz7_1
   try clear hfz7_2
   try clear hfz7_3
   try clear hfz7_4
   obtain ⟨x3_1, x12_1, rfl, rfl, HA, HK1, BK1231, HB⟩ := hrel
   cases gk with
   | zero => exact absurd HA.out (by simp [impl_FormatTask.l0])
   | succ k1 =>
    have H := HA.out
    clear HA
    simp only [impl_FormatTask.l0] at H
    by_cases c8 : x12_1 < (l0_3.length : Int)
    ·rw [if_pos c8] at H
     have c8b0 : decide (x12_1 < (l0_3.length : Int)) = true := decide_eq_true c8
     clear c8
     by_cases c9 : 0 ≤ x12_1
     ·rw [if_pos c9] at H
      have c9b0 : decide (0 ≤ x12_1) = true := decide_eq_true c9
      clear c9
      by_cases c10 : x12_1 < (l0_3.length : Int)
      ·rw [if_pos c10] at H
       have c10b0 : decide (x12_1 < (l0_3.length : Int)) = true := decide_eq_true c10
       clear c10
       obtain ⟨bq11, hbq11⟩ : ∃ b_ : Bool, b_ = (rdOf false l0_3 x12_1) := ⟨_, rfl⟩
       replace H : (if bq11 = true then (if x3_1.size + 1 ≤ 9223372036854775807 then (impl_FormatTask.l0 k1 (x3_1 ++ (⟨#[49]⟩ : ByteArray)) l0_3 (l0_3.length : Int) (wrap64 (x12_1 + 1)) a0_0 l0_1 l0_2 l0_3 a0_4) else (none)) else (if x3_1.size + 1 ≤ 9223372036854775807 then (impl_FormatTask.l0 k1 (x3_1 ++ (⟨#[48]⟩ : ByteArray)) l0_3 (l0_3.length : Int) (wrap64 (x12_1 + 1)) a0_0 l0_1 l0_2 l0_3 a0_4) else (none))) = some r := by rw [← hbq11] at H; exact H
       have Nbq11 := Aside0.mk hbq11
       clear hbq11
       by_cases c12 : bq11 = true
       ·subst c12
        rw [if_pos rfl] at H
        by_cases c13 : x3_1.size + 1 ≤ 9223372036854775807
        ·rw [if_pos c13] at H
         have c13b0 := eq_true c13
         have c13b1 : decide (x3_1.size + 1 ≤ 9223372036854775807) = true := decide_eq_true c13
         try have c13b2 : (9223372036854775807 < x3_1.size + 1) = False := eq_false (Nat.not_lt.2 c13)
         have H' := Aside0.mk H
         clear H
         have p1233 : 0 ≤ (x12_1 : Int) := of_decide_eq_true (by (with_reducible assumption))
         have q1233 : x12_1 < (l0_3.length : Int) := of_decide_eq_true (by (with_reducible assumption))
         obtain ⟨ad1233, e1233, hx1233_0⟩ := Kd.at_bool HR0_3.out x12_1 p1233 q1233
         (try rw [← Nbq11.out] at hx1233_0)
         cases e1233
         replace hx1233_0 := (HB.out.cell (World.block_lt_of_cell? w _ hx1233_0)).trans hx1233_0
         replace p1233 := eq_true p1233
         replace q1233 := eq_true q1233
         go_wp2
         go_roundg k1
         case measure => have := HK1.out; omega
         case rel => exact ⟨(x3_1 ++ (⟨#[49]⟩ : ByteArray)), (wrap64 (x12_1 + 1)), rfl, rfl, H', ⟨by have := HK1.out; omega⟩, ⟨BK1231.out⟩, ⟨HB.out⟩⟩
        ·rw [if_neg c13] at H
         exact absurd H (by simp)
       ·replace c12 := Bool.eq_false_iff.mpr c12
        subst c12
        rw [if_neg (show ¬ (false = true) by decide)] at H
        by_cases c14 : x3_1.size + 1 ≤ 9223372036854775807
        ·rw [if_pos c14] at H
         have c14b0 := eq_true c14
         have c14b1 : decide (x3_1.size + 1 ≤ 9223372036854775807) = true := decide_eq_true c14
         try have c14b2 : (9223372036854775807 < x3_1.size + 1) = False := eq_false (Nat.not_lt.2 c14)
         have H' := Aside0.mk H
         clear H
         have p1233 : 0 ≤ (x12_1 : Int) := of_decide_eq_true (by (with_reducible assumption))
         have q1233 : x12_1 < (l0_3.length : Int) := of_decide_eq_true (by (with_reducible assumption))
         obtain ⟨ad1233, e1233, hx1233_0⟩ := Kd.at_bool HR0_3.out x12_1 p1233 q1233
         (try rw [← Nbq11.out] at hx1233_0)
         cases e1233
         replace hx1233_0 := (HB.out.cell (World.block_lt_of_cell? w _ hx1233_0)).trans hx1233_0
         replace p1233 := eq_true p1233
         replace q1233 := eq_true q1233
         go_wp2
         go_roundg k1
         case measure => have := HK1.out; omega
         case rel => exact ⟨(x3_1 ++ (⟨#[48]⟩ : ByteArray)), (wrap64 (x12_1 + 1)), rfl, rfl, H', ⟨by have := HK1.out; omega⟩, ⟨BK1231.out⟩, ⟨HB.out⟩⟩
        ·rw [if_neg c14] at H
         exact absurd H (by simp)
      ·rw [if_neg c10] at H
       exact absurd H (by simp)
     ·rw [if_neg c9] at H
      exact absurd H (by simp)
    ·rw [if_neg c8] at H
     have c8b0 : decide (x12_1 < (l0_3.length : Int)) = false := decide_eq_false c8
     clear c8
     replace H := Option.bind_eq_some_iff.mp H
     obtain ⟨t1234, A150, H⟩ := H
     have A15 := Aside0.mk A150
     clear A150
     replace H := Option.bind_eq_some_iff.mp H
     obtain ⟨t1235, A160, H⟩ := H
     have A16 := Aside0.mk A160
     clear A160
     replace H := Option.bind_eq_some_iff.mp H
     obtain ⟨t1236, A170, H⟩ := H
     have A17 := Aside0.mk A170
     clear A170
     replace H := Option.bind_eq_some_iff.mp H
     obtain ⟨t1237, A180, H⟩ := H
     have A18 := Aside0.mk A180
     clear A180
     obtain ⟨y1238, hy1238⟩ : ∃ y_ : List ByteArray, y_ = ([t1234, t1235, t1236, x3_1, t1237] : List ByteArray) := ⟨_, rfl⟩
     replace H : ((impl_joined.f k1 y1238 (⟨#[59]⟩ : ByteArray)).bind fun t1241 => (some t1241)) = some r := by (rw [hy1238]; with_reducible exact H)
     have Ny1238 := Aside0.mk hy1238
     clear hy1238
     replace H := Option.bind_eq_some_iff.mp H
     obtain ⟨t1241, A190, H⟩ := H
     have A19 := Aside0.mk A190
     clear A190
     obtain rfl := Option.some.inj H
     try go_wp2
     have n0_ := Aside0.mk (blk_drew BK1231.out)
     have n1_ := Aside0.mk (below_drew1 HB.out)
     clear BK1231
     clear HB
     have BK1231 := n0_
     have HB := n1_
     clear n0_ n1_
     refine start_ (n := 16) (S := fun w' => w'.cell? ⟨gb1231, 0, none⟩ = some (.int .i64 a0_0) ∧ w'.cell? ⟨gb1231, 1, none⟩ = some (.slice A0_1 l0_1.length c0_1) ∧ w'.cell? ⟨gb1231, 2, none⟩ = some (.slice A0_2 l0_2.length c0_2) ∧ w'.cell? ⟨gb1231, 3, none⟩ = some (.slice A0_3 l0_3.length c0_3) ∧ w'.cell? ⟨gb1231, 4, none⟩ = some (.int .i64 a0_4)) (ds := []) #[false, false, false, false, false, false, false, false, false, false, false, false, false, false, false, false] (by kernel_rfl) rfl rfl ⟨(blk_cell BK1231.out 0).trans rfl, (blk_cell BK1231.out 1).trans rfl, (blk_cell BK1231.out 2).trans rfl, (blk_cell BK1231.out 3).trans rfl, (blk_cell BK1231.out 4).trans rfl⟩ (fun hHeld => ?_); refine with_tabW impl_FormatTask.tab11 impl_FormatTask.bits11 (fun HT_ HW_ => ?_)
     generalize wr.drew = w20 at BK1231 HB hHeld ⊢
     refine pure_ (i := 0) (N := some 22) (v := ?_) (a' := ?_) #[true, false, false, false, false, false, false, false, false, false, false, false, false, false, false, false] rfl rfl (any_of HT_.out (by kernel_rfl)) (fun _ _ _ h => h) (Or.inl ⟨rfl, ?_⟩) ?_ ?_
     rotate_left
     ·intro w'
      go_simp
      with_reducible rfl
     rotate_left
     ·simp only [Act.put, List.setIfInBounds_toArray, List.set_cons_zero, List.set_cons_succ, i64_w, i32_w]
      rfl
     refine pure_ (i := 3) (N := some 25) (v := ?_) (a' := ?_) #[true, false, false, true, false, false, false, false, false, false, false, false, false, false, false, false] rfl rfl (any_of HT_.out (by kernel_rfl)) (fun _ _ _ h => h) (Or.inl ⟨rfl, ?_⟩) ?_ ?_
     rotate_left
     ·intro w'
      go_simp
      with_reducible rfl
     rotate_left
     ·simp only [Act.put, List.setIfInBounds_toArray, List.set_cons_zero, List.set_cons_succ, i64_w, i32_w]
      rfl
     refine pure_ (i := 6) (N := some 28) (v := ?_) (a' := ?_) #[true, false, false, true, false, false, true, false, false, false, false, false, false, false, false, false] rfl rfl (any_of HT_.out (by kernel_rfl)) (fun _ _ _ h => h) (Or.inl ⟨rfl, ?_⟩) ?_ ?_
     rotate_left
     ·intro w'
      go_simp
      with_reducible rfl
     rotate_left
     ·simp only [Act.put, List.setIfInBounds_toArray, List.set_cons_zero, List.set_cons_succ, i64_w, i32_w]
      rfl
     refine pure_ (i := 9) (N := some 31) (v := ?_) (a' := ?_) #[true, false, false, true, false, false, true, false, false, true, false, false, false, false, false, false] rfl rfl (any_of HT_.out (by kernel_rfl)) (fun _ _ _ h => h) (Or.inl ⟨rfl, ?_⟩) ?_ ?_
     rotate_left
     ·intro w'
      go_simp
      with_reducible rfl
     rotate_left
     ·simp only [Act.put, List.setIfInBounds_toArray, List.set_cons_zero, List.set_cons_succ, i64_w, i32_w]
      rfl
     refine pure_ (i := 10) (N := some 32) (v := ?_) (a' := ?_) #[true, false, false, true, false, false, true, false, false, true, true, false, false, false, false, false] rfl rfl (any_of HT_.out (by kernel_rfl)) (fun _ _ _ h => h) (Or.inl ⟨rfl, ?_⟩) ?_ ?_
     rotate_left
     ·intro w'
      go_simp
      with_reducible rfl
     rotate_left
     ·simp only [Act.put, List.setIfInBounds_toArray, List.set_cons_zero, List.set_cons_succ, i64_w, i32_w]
      rfl
     refine take_ (i := 1) (N := some 23) (v := ?_) (a' := ?_) #[true, true, false, true, false, false, true, false, false, true, true, false, false, false, false, false] rfl rfl (take_ofW HT_.out HW_.out (by kernel_rfl)) (fun _ _ _ h => h) (Or.inl ⟨rfl, ?_⟩) hHeld ?_ ?_
     rotate_left
     ·rintro w' ⟨s0, s1, s2, s3, s4⟩
      go_simp
      with_reducible rfl
     rotate_left
     ·simp only [Act.put, List.setIfInBounds_toArray, List.set_cons_zero, List.set_cons_succ, i64_w, i32_w]
      rfl
     refine take_ (i := 4) (N := some 26) (v := ?_) (a' := ?_) #[true, true, false, true, true, false, true, false, false, true, true, false, false, false, false, false] rfl rfl (take_ofW HT_.out HW_.out (by kernel_rfl)) (fun _ _ _ h => h) (Or.inl ⟨rfl, ?_⟩) hHeld ?_ ?_
     rotate_left
     ·rintro w' ⟨s0, s1, s2, s3, s4⟩
      go_simp
      with_reducible rfl
     rotate_left
     ·simp only [Act.put, List.setIfInBounds_toArray, List.set_cons_zero, List.set_cons_succ, i64_w, i32_w]
      rfl
     refine take_ (i := 7) (N := some 29) (v := ?_) (a' := ?_) #[true, true, false, true, true, false, true, true, false, true, true, false, false, false, false, false] rfl rfl (take_ofW HT_.out HW_.out (by kernel_rfl)) (fun _ _ _ h => h) (Or.inl ⟨rfl, ?_⟩) hHeld ?_ ?_
     rotate_left
     ·rintro w' ⟨s0, s1, s2, s3, s4⟩
      go_simp
      with_reducible rfl
     rotate_left
     ·simp only [Act.put, List.setIfInBounds_toArray, List.set_cons_zero, List.set_cons_succ, i64_w, i32_w]
      rfl
     refine take_ (i := 11) (N := some 33) (v := ?_) (a' := ?_) #[true, true, false, true, true, false, true, true, false, true, true, true, false, false, false, false] rfl rfl (take_ofW HT_.out HW_.out (by kernel_rfl)) (fun _ _ _ h => h) (Or.inl ⟨rfl, ?_⟩) hHeld ?_ ?_
     rotate_left
     ·rintro w' ⟨s0, s1, s2, s3, s4⟩
      go_simp
      with_reducible rfl
     rotate_left
     ·simp only [Act.put, List.setIfInBounds_toArray, List.set_cons_zero, List.set_cons_succ, i64_w, i32_w]
      rfl
     refine one_ (i := 2) (N := some 24) #[true, true, true, true, true, false, true, true, false, true, true, true, false, false, false, false] rfl rfl (one_of HT_.out (by kernel_rfl)) (by decide) (fun K hK => ?_)
     refine goes_ Try.func155 (by kernel_rfl) rfl #[.int .i64 a0_0] rfl rfl rfl (by (try simp only [List.map_toArray, List.map_cons, List.map_nil]); rfl) ?_
     with_reducible refine (impl_FormatInt.calls k1 a0_0 t1234 _ A15.out).mono ?_
     rintro e w21 ⟨rfl, hb⟩
     refine ⟨_, rfl, ?_⟩
     have n0_ := Aside0.mk (blk_below (g := gb1231) (o := .cells #[.int .i64 a0_0, .slice A0_1 l0_1.length c0_1, .slice A0_2 l0_2.length c0_2, .slice A0_3 l0_3.length c0_3, .int .i64 a0_4] 40 (0, 0)) BK1231.out hb)
     have n1_ := Aside0.mk (below_step HB.out hb)
     clear BK1231
     clear HB
     have BK1231 := n0_
     have HB := n1_
     clear n0_ n1_
     (try clear hb)
     (try clear hb2)
     (try clear hk)
     (try clear hi)
     refine hK.out _ _ ⟨(blk_cell BK1231.out 0).trans rfl, (blk_cell BK1231.out 1).trans rfl, (blk_cell BK1231.out 2).trans rfl, (blk_cell BK1231.out 3).trans rfl, (blk_cell BK1231.out 4).trans rfl⟩ (fun hHeld => ?_)
     clear hK K
     refine norm_ (a' := ?_) ?_ ?_
     rotate_left
     ·show Act.put _ (some 24) _ = _
      simp only [Act.put, List.setIfInBounds_toArray, List.set_cons_zero, List.set_cons_succ, i64_w, i32_w]
      rfl
     refine one_ (i := 5) (N := some 27) #[true, true, true, true, true, true, true, true, false, true, true, true, false, false, false, false] rfl rfl (one_of HT_.out (by kernel_rfl)) (by decide) (fun K hK => ?_)
     refine goes_ Try.func156 (by kernel_rfl) rfl #[.slice A0_1 l0_1.length c0_1] rfl rfl rfl (by (try simp only [List.map_toArray, List.map_cons, List.map_nil]); rfl) ?_
     with_reducible refine (impl_FormatRows.calls k1 _ _ l0_1 t1235 _ ?side1 ?side2 A16.out).mono ?_
     (case side1 => repeat (exact (Kd.C_below HR0_1.out HB.out)))
     (case side2 => exact HC0_1.out)
     rintro e w22 ⟨rfl, hb⟩
     refine ⟨_, rfl, ?_⟩
     have n0_ := Aside0.mk (blk_below (g := gb1231) (o := .cells #[.int .i64 a0_0, .slice A0_1 l0_1.length c0_1, .slice A0_2 l0_2.length c0_2, .slice A0_3 l0_3.length c0_3, .int .i64 a0_4] 40 (0, 0)) BK1231.out hb)
     have n1_ := Aside0.mk (below_step HB.out hb)
     clear BK1231
     clear HB
     have BK1231 := n0_
     have HB := n1_
     clear n0_ n1_
     (try clear hb)
     (try clear hb2)
     (try clear hk)
     (try clear hi)
     refine hK.out _ _ ⟨(blk_cell BK1231.out 0).trans rfl, (blk_cell BK1231.out 1).trans rfl, (blk_cell BK1231.out 2).trans rfl, (blk_cell BK1231.out 3).trans rfl, (blk_cell BK1231.out 4).trans rfl⟩ (fun hHeld => ?_)
     clear hK K
     refine norm_ (a' := ?_) ?_ ?_
     rotate_left
     ·show Act.put _ (some 27) _ = _
      simp only [Act.put, List.setIfInBounds_toArray, List.set_cons_zero, List.set_cons_succ, i64_w, i32_w]
      rfl
     refine one_ (i := 8) (N := some 30) #[true, true, true, true, true, true, true, true, true, true, true, true, false, false, false, false] rfl rfl (one_of HT_.out (by kernel_rfl)) (by decide) (fun K hK => ?_)
     refine goes_ Try.func156 (by kernel_rfl) rfl #[.slice A0_2 l0_2.length c0_2] rfl rfl rfl (by (try simp only [List.map_toArray, List.map_cons, List.map_nil]); rfl) ?_
     with_reducible refine (impl_FormatRows.calls k1 _ _ l0_2 t1236 _ ?side1 ?side2 A17.out).mono ?_
     (case side1 => repeat (exact (Kd.C_below HR0_2.out HB.out)))
     (case side2 => exact HC0_2.out)
     rintro e w23 ⟨rfl, hb⟩
     refine ⟨_, rfl, ?_⟩
     have n0_ := Aside0.mk (blk_below (g := gb1231) (o := .cells #[.int .i64 a0_0, .slice A0_1 l0_1.length c0_1, .slice A0_2 l0_2.length c0_2, .slice A0_3 l0_3.length c0_3, .int .i64 a0_4] 40 (0, 0)) BK1231.out hb)
     have n1_ := Aside0.mk (below_step HB.out hb)
     clear BK1231
     clear HB
     have BK1231 := n0_
     have HB := n1_
     clear n0_ n1_
     (try clear hb)
     (try clear hb2)
     (try clear hk)
     (try clear hi)
     refine hK.out _ _ ⟨(blk_cell BK1231.out 0).trans rfl, (blk_cell BK1231.out 1).trans rfl, (blk_cell BK1231.out 2).trans rfl, (blk_cell BK1231.out 3).trans rfl, (blk_cell BK1231.out 4).trans rfl⟩ (fun hHeld => ?_)
     clear hK K
     refine norm_ (a' := ?_) ?_ ?_
     rotate_left
     ·show Act.put _ (some 30) _ = _
      simp only [Act.put, List.setIfInBounds_toArray, List.set_cons_zero, List.set_cons_succ, i64_w, i32_w]
      rfl
     refine one_ (i := 12) (N := some 34) #[true, true, true, true, true, true, true, true, true, true, true, true, true, false, false, false] rfl rfl (one_of HT_.out (by kernel_rfl)) (by decide) (fun K hK => ?_)
     refine goes_ Try.func155 (by kernel_rfl) rfl #[.int .i64 a0_4] rfl rfl rfl (by (try simp only [List.map_toArray, List.map_cons, List.map_nil]); rfl) ?_
     with_reducible refine (impl_FormatInt.calls k1 a0_4 t1237 _ A18.out).mono ?_
     rintro e w24 ⟨rfl, hb⟩
     refine ⟨_, rfl, ?_⟩
     have n0_ := Aside0.mk (blk_below (g := gb1231) (o := .cells #[.int .i64 a0_0, .slice A0_1 l0_1.length c0_1, .slice A0_2 l0_2.length c0_2, .slice A0_3 l0_3.length c0_3, .int .i64 a0_4] 40 (0, 0)) BK1231.out hb)
     have n1_ := Aside0.mk (below_step HB.out hb)
     clear BK1231
     clear HB
     have BK1231 := n0_
     have HB := n1_
     clear n0_ n1_
     (try clear hb)
     (try clear hb2)
     (try clear hk)
     (try clear hi)
     refine hK.out _ _ ⟨(blk_cell BK1231.out 0).trans rfl, (blk_cell BK1231.out 1).trans rfl, (blk_cell BK1231.out 2).trans rfl, (blk_cell BK1231.out 3).trans rfl, (blk_cell BK1231.out 4).trans rfl⟩ (fun hHeld => ?_)
     clear hK K
     refine norm_ (a' := ?_) ?_ ?_
     rotate_left
     ·show Act.put _ (some 34) _ = _
      simp only [Act.put, List.setIfInBounds_toArray, List.set_cons_zero, List.set_cons_succ, i64_w, i32_w]
      rfl
     refine one_ (i := 13) (N := some 35) #[true, true, true, true, true, true, true, true, true, true, true, true, true, true, false, false] rfl rfl (one_of HT_.out (by kernel_rfl)) (by decide) (fun K hK => ?_)
     refine Kd.R_lit_step Kd.string _ 9 ?hg (N := 35) ?hd (xs := ([t1234, t1235, t1236, x3_1, t1237] : List ByteArray)) (inner := [.string t1234, .string t1235, .string t1236, .string x3_1, .string t1237]) (ok := fun _ => True) (okp := fun _ => True) ?hr ?hp (fun _ hk => hk) trivial (Below.refl _ _) (Nat.le_refl _) (by simp) ?_; (case hd => rfl); (case hg => rfl); (case hr => (go_simp; done)); (case hp => exact (Reps.one (show Kd.M Kd.string _ _ _ t1234 [.string t1234] from rfl) (Reps.one (show Kd.M Kd.string _ _ _ t1235 [.string t1235] from rfl) (Reps.one (show Kd.M Kd.string _ _ _ t1236 [.string t1236] from rfl) (Reps.one (show Kd.M Kd.string _ _ _ x3_1 [.string x3_1] from rfl) (Reps.one (show Kd.M Kd.string _ _ _ t1237 [.string t1237] from rfl) (Reps.none _ _)))))))
     intro v1239 w25 ho26 hb hg_ hnew_
     clear hg_ hnew_
     (rw [← Ny1238.out] at ho26)
     have n0_ := Aside0.mk (Kd.R_lower ho26 (below_size HB.out))
     have n1_ := Aside0.mk (blk_below (g := gb1231) (o := .cells #[.int .i64 a0_0, .slice A0_1 l0_1.length c0_1, .slice A0_2 l0_2.length c0_2, .slice A0_3 l0_3.length c0_3, .int .i64 a0_4] 40 (0, 0)) BK1231.out hb)
     have n2_ := Aside0.mk (below_step HB.out hb)
     clear BK1231
     clear HB
     have HO1240 := n0_
     have BK1231 := n1_
     have HB := n2_
     clear n0_ n1_ n2_
     clear hb ho26
     obtain ⟨Ao27, co27, eo27⟩ := Kd.R_slice HO1240.out
     (subst eo27)
     refine hK.out _ _ ⟨(blk_cell BK1231.out 0).trans rfl, (blk_cell BK1231.out 1).trans rfl, (blk_cell BK1231.out 2).trans rfl, (blk_cell BK1231.out 3).trans rfl, (blk_cell BK1231.out 4).trans rfl⟩ (fun hHeld => ?_)
     clear hK K
     refine norm_ (a' := ?_) ?_ ?_
     rotate_left
     ·show Act.put _ (some 35) _ = _
      simp only [Act.put, List.setIfInBounds_toArray, List.set_cons_zero, List.set_cons_succ, i64_w, i32_w]
      rfl
     refine one_ (i := 14) (N := some 36) #[true, true, true, true, true, true, true, true, true, true, true, true, true, true, true, false] rfl rfl (one_of HT_.out (by kernel_rfl)) (by decide) (fun K hK => ?_)
     refine goes_ Try.func154 (by kernel_rfl) rfl #[.slice Ao27 y1238.length co27, .string (⟨#[59]⟩ : ByteArray)] rfl rfl rfl (by (try simp only [List.map_toArray, List.map_cons, List.map_nil]); rfl) ?_
     with_reducible refine (impl_joined.calls k1 _ _ y1238 (⟨#[59]⟩ : ByteArray) t1241 _ ?side1 ?side2 A19.out).mono ?_
     (case side1 => repeat (exact (Kd.R_reads' HO1240.out).2.2))
     (case side2 => exact (Kd.R_reads' HO1240.out).2.1)
     rintro e w' ⟨rfl, ⟨nd, rfl⟩⟩
     refine ⟨_, rfl, ?_⟩
     refine hK.out _ _ ⟨(blk_cell BK1231.out 0).trans rfl, (blk_cell BK1231.out 1).trans rfl, (blk_cell BK1231.out 2).trans rfl, (blk_cell BK1231.out 3).trans rfl, (blk_cell BK1231.out 4).trans rfl⟩ (fun hHeld => ?_)
     clear hK K
     refine norm_ (a' := ?_) ?_ ?_
     rotate_left
     ·show Act.put _ (some 36) _ = _
      simp only [Act.put, List.setIfInBounds_toArray, List.set_cons_zero, List.set_cons_succ, i64_w, i32_w]
      rfl
     refine pure_ (i := 15) (N := some 2) (v := ?_) (a' := ?_) #[true, true, true, true, true, true, true, true, true, true, true, true, true, true, true, true] rfl rfl (any_of HT_.out (by kernel_rfl)) (fun _ _ _ h => h) (Or.inl ⟨rfl, ?_⟩) ?_ ?_
     rotate_left
     ·intro w'
      go_simp
      with_reducible rfl
     rotate_left
     ·simp only [Act.put, List.setIfInBounds_toArray, List.set_cons_zero, List.set_cons_succ, i64_w, i32_w]
      rfl
     refine done_ (done_of HT_.out (by kernel_rfl)) ?_
     try go_wp2
     go_ret
     exact ⟨rfl, by repeat ((with_reducible first | exact HB.out | apply pw_below_drewN))⟩
 ·replace c3 := Bool.eq_false_iff.mpr c3
  subst c3
  rw [if_neg (show ¬ (false = true) by decide)] at H
  obtain rfl := Option.some.inj H
  go_enter Try.func57, Try.ntmps57
  go_wp2_with (first | ((with_reducible refine gate_dst (N := 1) rfl ?_); refine box_event ?hg (N := 1) ?hd (cs := #[.int .i64 a0_0, .slice A0_1 l0_1.length c0_1, .slice A0_2 l0_2.length c0_2, .slice A0_3 l0_3.length c0_3, .int .i64 a0_4]) (t := 40) ?hr ?_; (case hd => rfl); (case hg => rfl); (case hr => (go_simp; done)); intro gb1231 hg w28 hbox hb; have n0_ := Aside0.mk (below_step HB.out hb); have n1_ := Aside0.mk (hbox); have n2_ := Aside0.mk ((by rw [hg]; exact (below_size HB.out) : w.heap.size ≤ gb1231)); have n3_ := Aside0.mk ((by rw [hg]; exact (below_size HB.out) : w.heap.size ≤ gb1231)); clear HB; have HB := n0_; have BK1231 := n1_; have GW1231 := n2_; have GE1231 := n3_; clear n0_ n1_ n2_ n3_; clear hb hbox hg; have hcz29_0 : w28.cell? ⟨gb1231, 0, none⟩ = some (.int .i64 a0_0) := (blk_cell BK1231.out 0).trans rfl; have hcz29_1 : w28.cell? ⟨gb1231, 1, none⟩ = some (.slice A0_1 l0_1.length c0_1) := (blk_cell BK1231.out 1).trans rfl; have hcz29_2 : w28.cell? ⟨gb1231, 2, none⟩ = some (.slice A0_2 l0_2.length c0_2) := (blk_cell BK1231.out 2).trans rfl; have hcz29_3 : w28.cell? ⟨gb1231, 3, none⟩ = some (.slice A0_3 l0_3.length c0_3) := (blk_cell BK1231.out 3).trans rfl; have hcz29_4 : w28.cell? ⟨gb1231, 4, none⟩ = some (.int .i64 a0_4) := (blk_cell BK1231.out 4).trans rfl; have hfz29_0 := blk_frozen BK1231.out 0; have hfz29_1 := blk_frozen BK1231.out 1; have hfz29_2 := blk_frozen BK1231.out 2; have hfz29_3 := blk_frozen BK1231.out 3; have hfz29_4 := blk_frozen BK1231.out 4) | ((with_reducible refine gate_callee (f := 39) rfl ?_); refine goesL_ (some 7) rfl rfl Try.func39 (by kernel_rfl) rfl #[.agg #[.int .i64 a0_0, .slice A0_1 l0_1.length c0_1, .slice A0_2 l0_2.length c0_2, .slice A0_3 l0_3.length c0_3, .int .i64 a0_4]] rfl (by (try simp only [List.map_toArray, List.map_cons, List.map_nil]); rfl) ?_; (with_reducible refine (impl_IsValidTask.calls k a0_0 _ _ l0_1 _ _ l0_2 _ _ l0_3 a0_4 false _ ?side1 ?side2 ?side3 ?side4 ?side5 ?side6 A2.out).mono ?_); (case side1 => repeat (exact (Kd.C_below HR0_1.out HB.out))); (case side2 => exact HC0_1.out); (case side3 => repeat (exact (Kd.C_below HR0_2.out HB.out))); (case side4 => exact HC0_2.out); (case side5 => repeat (exact (Kd.C_below HR0_3.out HB.out))); (case side6 => exact HC0_3.out); rintro e w30 ⟨rfl, hb⟩; refine ⟨_, rfl, ?_⟩; have n0_ := Aside0.mk (blk_below (g := gb1231) (o := .cells #[.int .i64 a0_0, .slice A0_1 l0_1.length c0_1, .slice A0_2 l0_2.length c0_2, .slice A0_3 l0_3.length c0_3, .int .i64 a0_4] 40 (0, 0)) BK1231.out hb); have n1_ := Aside0.mk (below_step HB.out hb); clear BK1231; clear HB; have BK1231 := n0_; have HB := n1_; clear n0_ n1_; (try clear hb); (try clear hb2); (try clear hk); (try clear hi)))
  go_ret
  exact ⟨rfl, HB.out⟩

end Go.Proofs.Ytobndcjmjhehjaa.P
namespace Go.Proofs.Ytobndcjmjhehjaa.P
open Go.RowKit Go.Proofs.YtobndcjmjhehjaaW.PrintWords Go.Proofs.YtobndcjmjhehjaaW.PrintLast Go.Proofs.YtobndcjmjhehjaaW.PrintMore
attribute [local go_sem] max2_int min2_int max_two min_two max_three min_three max_four min_four   -- for this text's walks alone
set_option linter.unusedVariables false
set_option linter.unusedSimpArgs false

/-! ### impl_cut: function 139 -/
def impl_cut.l0 : Nat → ByteArray → Int → List ByteArray → Int → Int → Int → Option (List ByteArray)
 | 0, _, _, _, _, _, _ => none
 | k + 1, x0, x1, x5, x6, x10, x11 => if x11 < x10 then (if 0 ≤ x11 then (if x11 < (x0.size : Int) then (if (bt x0 x11) = x1 then (if 0 ≤ x6 then (if x6 ≤ x11 then (if x11 ≤ (x0.size : Int) then (if x5.length < 8796093022208 then (impl_cut.l0 k x0 x1 (x5 ++ [x0.extract (x6 : Int).toNat (x11 : Int).toNat]) (wrap64 (x11 + 1)) x10 (wrap64 (x11 + 1))) else (none)) else (none)) else (none)) else (none)) else (impl_cut.l0 k x0 x1 x5 x6 x10 (wrap64 (x11 + 1)))) else (none)) else (none)) else (if 0 ≤ x6 then (if x6 ≤ (x0.size : Int) then (if x5.length < 8796093022208 then (some (x5 ++ [x0.extract (x6 : Int).toNat x0.size])) else (none)) else (none)) else (none))
def impl_cut.f (k : Nat) (a0 : ByteArray) (a1 : Int) : Option (List ByteArray) := impl_cut.l0 k a0 a1 ([] : List ByteArray) 0 (a0.size : Int) 0
theorem impl_cut.mono_l : ∀ k, (∀ y0 y1 y2 y3 y4 y5, LeO (impl_cut.l0 k y0 y1 y2 y3 y4 y5) (impl_cut.l0 (k + 1) y0 y1 y2 y3 y4 y5))
 | 0 => fun _ _ _ _ _ _ r h => by simp [impl_cut.l0] at h
 | k + 1 => by
  have ih0 := impl_cut.mono_l k
  ·intro y0 y1 y2 y3 y4 y5
   unfold impl_cut.l0
   repeat' first
   | (with_reducible exact ih0 _ _ _ _ _ _)
   | (with_reducible exact LeO.refl _)
   | (with_reducible refine LeO.ite ?_ ?_)
theorem impl_cut.mono : ∀ a0 a1 k, LeO (impl_cut.f k a0 a1) (impl_cut.f (k + 1) a0 a1) := by
 intro a0 a1 k
 have ih0 := impl_cut.mono_l k
 unfold impl_cut.f
 repeat' (with_reducible exact ih0 _ _ _ _ _ _)

set_option maxHeartbeats 8000000 in
set_option maxRecDepth 100000 in
theorem impl_cut.calls (k : Nat) (a0 : ByteArray) (a1 : Int) (r : List ByteArray) (w : World) (h : impl_cut.f k a0 a1 = some r) :
  Calls Try.prog 139 #[.string a0, .int .u8 a1] w fun e w' => ∃ v0_ : Value, e = .returned (v0_) ∧ Kd.R Kd.string 9 w' w.heap.size (fun _ => True) v0_ r ∧ Below w.heap.size w w' := by
 have HB := Aside0.mk (Below.refl w.heap.size w)
 have H : (impl_cut.l0 k a0 a1 ([] : List ByteArray) 0 (a0.size : Int) 0) = some r := h
 clear h
 obtain ⟨y1242, hy1242⟩ : ∃ y_ : List ByteArray, y_ = ([] : List ByteArray) := ⟨_, rfl⟩
 replace H : (impl_cut.l0 k a0 a1 y1242 0 (a0.size : Int) 0) = some r := by (rw [hy1242]; with_reducible exact H)
 have Ny1242 := Aside0.mk hy1242
 clear hy1242
 have H' := Aside0.mk H
 clear H
 go_enter Try.func139, Try.ntmps139
 go_wp2_with (((with_reducible refine gate_dst (N := 8) rfl ?_); refine Kd.R_lit Kd.string _ 9 ?hg (N := 8) ?hd (xs := ([] : List ByteArray)) (inner := []) (ok := fun _ => True) (okp := fun _ => True) ?hr ?hp (fun _ hk => hk) trivial (Below.refl _ _) (Nat.le_refl _) (by simp) ?_; (case hd => rfl); (case hg => rfl); (case hr => (go_simp; done)); (case hp => exact (Reps.none _ _)); intro v1243 w3 ho4 hb hg_ hnew_; clear hg_ hnew_; (rw [← Ny1242.out] at ho4); have n0_ := Aside0.mk (Kd.R_lower ho4 (below_size HB.out)); have n1_ := Aside0.mk (below_step HB.out hb); clear HB; have HO1244 := n0_; have HB := n1_; clear n0_ n1_; clear hb ho4))
 go_loopg [5, 6, 11] k (fun kq v5 v6 v11 w' => ∃ (x5_1 : List ByteArray) (x6_1 : Int) (x11_1 : Int), v6 = .int .i64 x6_1 ∧ v11 = .int .i64 x11_1 ∧ Aside0 (impl_cut.l0 kq a0 a1 x5_1 x6_1 (a0.size : Int) x11_1 = some r) ∧ Aside0 (kq ≤ k) ∧ Aside0 (Kd.R Kd.string 9 w' w.heap.size (fun _ => True) v5 x5_1) ∧ Aside0 (Below w.heap.size w w'))
 case atStart => exact ⟨(y1242), (0), (0), rfl, rfl, H', ⟨Nat.le_refl _⟩, ⟨HO1244.out⟩, ⟨HB.out⟩⟩
 case round =>
  clear H'
  obtain ⟨x5_1, x6_1, x11_1, rfl, rfl, HA, HK1, HO_5, HB⟩ := hrel
  cases gk with
  | zero => exact absurd HA.out (by simp [impl_cut.l0])
  | succ k1 =>
   have H := HA.out
   clear HA
   simp only [impl_cut.l0] at H
   by_cases c5 : x11_1 < (a0.size : Int)
   ·rw [if_pos c5] at H
    have c5b0 : decide (x11_1 < (a0.size : Int)) = true := decide_eq_true c5
    clear c5
    by_cases c6 : 0 ≤ x11_1
    ·rw [if_pos c6] at H
     have c6b0 : decide (0 ≤ x11_1) = true := decide_eq_true c6
     clear c6
     by_cases c7 : x11_1 < (a0.size : Int)
     ·rw [if_pos c7] at H
      have c7b0 : decide (x11_1 < (a0.size : Int)) = true := decide_eq_true c7
      clear c7
      by_cases c9 : (bt a0 x11_1) = a1
      ·rw [if_pos c9] at H
       have c9b0 : ((bt a0 x11_1) == a1) = true := beq_iff_eq.mpr c9
       have c9b1 : ((bt a0 x11_1) != a1) = false := bne_eq_false_iff_eq.mpr c9
       clear c9
       by_cases c10 : 0 ≤ x6_1
       ·rw [if_pos c10] at H
        have c10b0 := eq_true c10
        have c10b1 : decide (0 ≤ x6_1) = true := decide_eq_true c10
        clear c10
        by_cases c11 : x6_1 ≤ x11_1
        ·rw [if_pos c11] at H
         have c11b0 := eq_true c11
         have c11b1 : decide (x6_1 ≤ x11_1) = true := decide_eq_true c11
         clear c11
         by_cases c12 : x11_1 ≤ (a0.size : Int)
         ·rw [if_pos c12] at H
          have c12b0 := eq_true c12
          have c12b1 : decide (x11_1 ≤ (a0.size : Int)) = true := decide_eq_true c12
          clear c12
          by_cases c13 : x5_1.length < 8796093022208
          ·rw [if_pos c13] at H
           have LMc13 := Aside0.mk c13
           clear c13
           obtain ⟨y1245, hy1245⟩ : ∃ y_ : List ByteArray, y_ = (x5_1 ++ [a0.extract (x6_1 : Int).toNat (x11_1 : Int).toNat]) := ⟨_, rfl⟩
           replace H : (impl_cut.l0 k1 a0 a1 y1245 (wrap64 (x11_1 + 1)) (a0.size : Int) (wrap64 (x11_1 + 1))) = some r := by (rw [hy1245]; with_reducible exact H)
           have Ny1245 := Aside0.mk hy1245
           clear hy1245
           have H' := Aside0.mk H
           clear H
           have p8 : 0 ≤ (x11_1 : Int) := of_decide_eq_true (by (with_reducible assumption))
           have q8 : x11_1 < (a0.size : Int) := of_decide_eq_true (by (with_reducible assumption))
           have hx8 := bt_at a0 x11_1
           replace p8 := eq_true p8
           replace q8 := eq_true q8
           go_wp2_with (((with_reducible refine gate_builtin (b := .append) (xs := #[.tmp 19, .tmp 24]) rfl ?_); at_builtin; refine Kd.R_append Kd.string (w0 := w) w.heap.size rfl (.tmp 19) (.tmp 24) 134 9 (.string ⟨#[]⟩) 16 rfl Try.underlying134 info9 rfl (by decide) (by omega) u5 x5_1 (a0.extract (x6_1 : Int).toNat (x11_1 : Int).toNat) [.string (a0.extract (x6_1 : Int).toNat (x11_1 : Int).toNat)] (fun _ => True) (fun _ => False) rfl rfl ?aP (fun _ hk => hk.elim) ?aF ?aO ?aB ?aS ?aL ?_; (case aP => exact rfl); (case aB => exact HB.out); (case aF => exact (fun _ _ => trivial)); (case aO => exact HO_5.out); (case aS => exact (below_size HB.out)); (case aL => have := LMc13.out; omega); intro v1246 w14 ho hb hg hat; rw [← Ny1245.out] at ho; have n0_ := Aside0.mk (hb); have n1_ := Aside0.mk (ho); clear HB; clear HO_5; have HB := n0_; have HO1247 := n1_; clear n0_ n1_; clear ho hb hg hat))
           go_roundg k1
           case measure => have := HK1.out; omega
           case rel => exact ⟨(y1245), (wrap64 (x11_1 + 1)), (wrap64 (x11_1 + 1)), rfl, rfl, H', ⟨by have := HK1.out; omega⟩, ⟨HO1247.out⟩, ⟨HB.out⟩⟩
          ·rw [if_neg c13] at H
           exact absurd H (by simp)
         ·rw [if_neg c12] at H
          exact absurd H (by simp)
        ·rw [if_neg c11] at H
         exact absurd H (by simp)
       ·rw [if_neg c10] at H
        exact absurd H (by simp)
      ·rw [if_neg c9] at H
       have c9b0 : ((bt a0 x11_1) == a1) = false := beq_eq_false_iff_ne.mpr c9
       have c9b1 : ((bt a0 x11_1) != a1) = true := bne_iff_ne.mpr c9
       have H' := Aside0.mk H
       clear H
       have p8 : 0 ≤ (x11_1 : Int) := of_decide_eq_true (by (with_reducible assumption))
       have q8 : x11_1 < (a0.size : Int) := of_decide_eq_true (by (with_reducible assumption))
       have hx8 := bt_at a0 x11_1
       replace p8 := eq_true p8
       replace q8 := eq_true q8
       go_wp2
       go_roundg k1
       case measure => have := HK1.out; omega
       case rel => exact ⟨(x5_1), (x6_1), (wrap64 (x11_1 + 1)), rfl, rfl, H', ⟨by have := HK1.out; omega⟩, ⟨HO_5.out⟩, ⟨HB.out⟩⟩
     ·rw [if_neg c7] at H
      exact absurd H (by simp)
    ·rw [if_neg c6] at H
     exact absurd H (by simp)
   ·rw [if_neg c5] at H
    have c5b0 : decide (x11_1 < (a0.size : Int)) = false := decide_eq_false c5
    clear c5
    by_cases c15 : 0 ≤ x6_1
    ·rw [if_pos c15] at H
     have c15b0 := eq_true c15
     have c15b1 : decide (0 ≤ x6_1) = true := decide_eq_true c15
     clear c15
     by_cases c16 : x6_1 ≤ (a0.size : Int)
     ·rw [if_pos c16] at H
      have c16b0 := eq_true c16
      have c16b1 : decide (x6_1 ≤ (a0.size : Int)) = true := decide_eq_true c16
      clear c16
      by_cases c17 : x5_1.length < 8796093022208
      ·rw [if_pos c17] at H
       have LMc17 := Aside0.mk c17
       clear c17
       obtain ⟨y1248, hy1248⟩ : ∃ y_ : List ByteArray, y_ = (x5_1 ++ [a0.extract (x6_1 : Int).toNat a0.size]) := ⟨_, rfl⟩
       replace H : (some y1248) = some r := by (rw [hy1248]; with_reducible exact H)
       have Ny1248 := Aside0.mk hy1248
       clear hy1248
       obtain rfl := Option.some.inj H
       go_wp2_with (((with_reducible refine gate_builtin (b := .append) (xs := #[.tmp 29, .tmp 33]) rfl ?_); at_builtin; refine Kd.R_append Kd.string (w0 := w) w.heap.size rfl (.tmp 29) (.tmp 33) 134 9 (.string ⟨#[]⟩) 16 rfl Try.underlying134 info9 rfl (by decide) (by omega) u5 x5_1 (a0.extract (x6_1 : Int).toNat a0.size) [.string (a0.extract (x6_1 : Int).toNat a0.size)] (fun _ => True) (fun _ => False) rfl rfl ?aP (fun _ hk => hk.elim) ?aF ?aO ?aB ?aS ?aL ?_; (case aP => exact rfl); (case aB => exact HB.out); (case aF => exact (fun _ _ => trivial)); (case aO => exact HO_5.out); (case aS => exact (below_size HB.out)); (case aL => have := LMc17.out; omega); intro v1249 w18 ho hb hg hat; rw [← Ny1248.out] at ho; have n0_ := Aside0.mk (hb); have n1_ := Aside0.mk (ho); clear HB; clear HO_5; have HB := n0_; have HO1250 := n1_; clear n0_ n1_; clear ho hb hg hat))
       go_ret
       exact ⟨_, rfl, HO1250.out, HB.out⟩
      ·rw [if_neg c17] at H
       exact absurd H (by simp)
     ·rw [if_neg c16] at H
      exact absurd H (by simp)
    ·rw [if_neg c15] at H
     exact absurd H (by simp)

end Go.Proofs.Ytobndcjmjhehjaa.P
namespace Go.Proofs.Ytobndcjmjhehjaa.P
open Go.RowKit Go.Proofs.YtobndcjmjhehjaaW.PrintWords Go.Proofs.YtobndcjmjhehjaaW.PrintLast Go.Proofs.YtobndcjmjhehjaaW.PrintMore
attribute [local go_sem] max2_int min2_int max_two min_two max_three min_three max_four min_four   -- for this text's walks alone
set_option linter.unusedVariables false
set_option linter.unusedSimpArgs false

/-! ### impl_ParseInt: function 140 -/
mutual
def impl_ParseInt.j0 : Nat → ByteArray → ByteArray → Bool → Option (Int × Bool)
 | 0, _, _, _ => none
 | k + 1, x0, x4, x15 => if x15 = true then (if 1 ≤ (x0.size : Int) then (impl_ParseInt.j1 k x0 (x0.extract 1 x0.size)) else (none)) else (impl_ParseInt.j1 k x0 x4)
def impl_ParseInt.j1 : Nat → ByteArray → ByteArray → Option (Int × Bool)
 | 0, _, _ => none
 | k + 1, x0, x4 => if (x4.size : Int) < 1 then (impl_ParseInt.j2 k x0 x4 true) else (impl_ParseInt.j2 k x0 x4 (decide ((x4.size : Int) > 9)))
def impl_ParseInt.j2 : Nat → ByteArray → ByteArray → Bool → Option (Int × Bool)
 | 0, _, _, _ => none
 | k + 1, x0, x4, x25 => if x25 = true then (some (0, false)) else (impl_ParseInt.l0 k x0 x4 0 (x4.size : Int) 0)
def impl_ParseInt.l0 : Nat → ByteArray → ByteArray → Int → Int → Int → Option (Int × Bool)
 | 0, _, _, _, _, _ => none
 | k + 1, x0, x4, x5, x27, x28 => if x28 < x27 then (if 0 ≤ x28 then (if x28 < (x4.size : Int) then (if (bt x4 x28) < 48 then (some (0, false)) else (if (bt x4 x28) > 57 then (some (0, false)) else (impl_ParseInt.l0 k x0 x4 (wrap64 ((wrap64 (10 * x5)) + (((bt x4 x28) - 48) % 256))) x27 (wrap64 (x28 + 1))))) else (none)) else (none)) else (if (x4.size : Int) < (x0.size : Int) then ((impl_FormatInt.f k (wrap64 (-x5))).bind fun t1251 => (if t1251.toList = x0.toList then (some (wrap64 (-x5), true)) else (some (0, false)))) else ((impl_FormatInt.f k x5).bind fun t1252 => (if t1252.toList = x0.toList then (some (x5, true)) else (some (0, false)))))
end
def impl_ParseInt.f (k : Nat) (a0 : ByteArray) : Option (Int × Bool) := if (a0.size : Int) > 0 then (if 0 < (a0.size : Int) then (impl_ParseInt.j0 k a0 a0 ((bt a0 0) == 45)) else (none)) else (impl_ParseInt.j0 k a0 a0 false)
theorem impl_ParseInt.mono_l : ∀ k, (∀ y0 y1 y2, LeO (impl_ParseInt.j0 k y0 y1 y2) (impl_ParseInt.j0 (k + 1) y0 y1 y2)) ∧ (∀ y0 y1, LeO (impl_ParseInt.j1 k y0 y1) (impl_ParseInt.j1 (k + 1) y0 y1)) ∧ (∀ y0 y1 y2, LeO (impl_ParseInt.j2 k y0 y1 y2) (impl_ParseInt.j2 (k + 1) y0 y1 y2)) ∧ (∀ y0 y1 y2 y3 y4, LeO (impl_ParseInt.l0 k y0 y1 y2 y3 y4) (impl_ParseInt.l0 (k + 1) y0 y1 y2 y3 y4))
 | 0 => ⟨fun _ _ _ r h => by simp [impl_ParseInt.j0] at h, fun _ _ r h => by simp [impl_ParseInt.j1] at h, fun _ _ _ r h => by simp [impl_ParseInt.j2] at h, fun _ _ _ _ _ r h => by simp [impl_ParseInt.l0] at h⟩
 | k + 1 => by
  obtain ⟨ih0, ih1, ih2, ih3⟩ := impl_ParseInt.mono_l k
  refine ⟨?_, ?_, ?_, ?_⟩
  ·intro y0 y1 y2
   unfold impl_ParseInt.j0
   repeat' first
   | (with_reducible exact ih1 _ _)
   | (with_reducible exact LeO.refl _)
   | (with_reducible refine LeO.ite ?_ ?_)
   | refine LeO.bind ?_ (fun _ => ?_)
  ·intro y0 y1
   unfold impl_ParseInt.j1
   repeat' first

   | (with_reducible exact ih2 _ _ _)
   | (with_reducible refine LeO.ite ?_ ?_)
   | refine LeO.bind ?_ (fun _ => ?_)
  ·intro y0 y1 y2
   unfold impl_ParseInt.j2
   repeat' first

   | (with_reducible exact ih3 _ _ _ _ _)
   | (with_reducible exact LeO.refl _)
   | (with_reducible refine LeO.ite ?_ ?_)
   | refine LeO.bind ?_ (fun _ => ?_)
  ·intro y0 y1 y2 y3 y4
   unfold impl_ParseInt.l0
   repeat' first

   | (with_reducible exact ih3 _ _ _ _ _)
   | (with_reducible exact impl_FormatInt.mono _ _)
   | (with_reducible exact LeO.refl _)
   | (with_reducible refine LeO.ite ?_ ?_)
   | (with_reducible refine LeO.bind ?_ (fun _ => ?_))
   | refine LeO.bind ?_ (fun _ => ?_)
theorem impl_ParseInt.mono : ∀ a0 k, LeO (impl_ParseInt.f k a0) (impl_ParseInt.f (k + 1) a0) := by
 intro a0 k
 obtain ⟨ih0, ih1, ih2, ih3⟩ := impl_ParseInt.mono_l k
 unfold impl_ParseInt.f
 repeat' first
   | (with_reducible exact ih0 _ _ _)
   | (with_reducible exact LeO.refl _)
   | (with_reducible refine LeO.ite ?_ ?_)
   | refine LeO.bind ?_ (fun _ => ?_)
set_option maxHeartbeats 8000000 in
set_option maxRecDepth 100000 in
theorem impl_ParseInt.calls (k : Nat) (a0 : ByteArray) (r1 : Int) (r2 : Bool) (w : World) (h : impl_ParseInt.f k a0 = some (r1, r2)) :
  Calls Try.prog 140 #[.string a0] w fun e w' => e = .returned (.tuple #[.int .i64 r1, .bool r2]) ∧ Below w.heap.size w w' := by
 have HB := Aside0.mk (Below.refl w.heap.size w)
 have H : (if (a0.size : Int) > 0 then (if 0 < (a0.size : Int) then (impl_ParseInt.j0 k a0 a0 ((bt a0 0) == 45)) else (none)) else (impl_ParseInt.j0 k a0 a0 false)) = some (r1, r2) := h
 clear h
 have HC2 := Aside0.mk H
 clear H
 go_enter Try.func140, Try.ntmps140
 go_upto_region 2 with (fail)
 go_cut [15] (fun v15 wc => ∃ (kq : Nat) (x15_1 : Bool), v15 = .bool x15_1 ∧ Aside0 (impl_ParseInt.j0 kq a0 a0 x15_1 = some (r1, r2)) ∧ Aside0 (kq ≤ k) ∧ Aside0 (Below w.heap.size w wc))
 case first =>
  have H := HC2.out
  clear HC2
  by_cases c3 : (a0.size : Int) > 0
  ·rw [if_pos c3] at H
   have c3b0 : decide (0 < (a0.size : Int)) = true := decide_eq_true c3
   have c3b1 : decide (0 < a0.size) = true := decide_eq_true (by omega)
   clear c3
   (skip)
   by_cases c4 : 0 < (a0.size : Int)
   ·rw [if_pos c4] at H
    have c4b0 : decide (0 < (a0.size : Int)) = true := decide_eq_true c4
    have c4b1 : decide (0 < a0.size) = true := decide_eq_true (by omega)
    clear c4
    have H' := Aside0.mk H
    clear H
    have p5 : 0 ≤ (0 : Int) := (by omega)
    have q5 : 0 < a0.size := (by have : (0 : Int) < (a0.size : Int) := of_decide_eq_true (by (with_reducible assumption)); omega)
    have hx5 : ∀ h : 0 < a0.size, ((a0[0]'h).toNat : Int) = bt a0 0 := bt_at a0 0
    clear p5
    have qi5 : (0 < (a0.size : Int)) = True := eq_true (of_decide_eq_true (by (with_reducible assumption)))
    replace q5 := eq_true q5
    go_wp2
    go_meet
    case rel => exact ⟨_, (((bt a0 0) == 45)), rfl, H', ⟨by omega⟩, ⟨HB.out⟩⟩
   ·rw [if_neg c4] at H
    exact absurd H (by simp)
  ·rw [if_neg c3] at H
   have c3b0 : decide (0 < (a0.size : Int)) = false := decide_eq_false c3
   have c3b1 : decide (0 < a0.size) = false := decide_eq_false (by omega)
   clear c3
   (skip)
   have H' := Aside0.mk H
   clear H
   go_wp2
   go_meet
   case rel => exact ⟨_, (false), rfl, H', ⟨by omega⟩, ⟨HB.out⟩⟩
 case rest =>
  clear HC2
  obtain ⟨kq, x15_1, rfl, HA, HJ1, HB⟩ := hcut
  cases kq with
  | zero => exact absurd HA.out (by simp [impl_ParseInt.j0])
  | succ kj1 =>
   have H := HA.out
   clear HA
   simp only [impl_ParseInt.j0] at H
   have HC6 := Aside0.mk H
   clear H
   go_upto_if 15 with (fail)
   go_cut [4] (fun v4 wc => ∃ (kq : Nat) (x4_5 : ByteArray), v4 = .string x4_5 ∧ Aside0 (impl_ParseInt.j1 kq a0 x4_5 = some (r1, r2)) ∧ Aside0 (kq ≤ kj1) ∧ Aside0 (Below w.heap.size w wc))
   case first =>
    have H := HC6.out
    clear HC6
    by_cases c7 : x15_1 = true
    ·subst c7
     rw [if_pos rfl] at H
     by_cases c8 : 1 ≤ (a0.size : Int)
     ·rw [if_pos c8] at H
      have c8b0 := eq_true c8
      have c8b1 : decide (1 ≤ (a0.size : Int)) = true := decide_eq_true c8
      clear c8
      have H' := Aside0.mk H
      clear H
      go_wp2
      go_meet
      case rel => exact ⟨_, (a0.extract 1 a0.size), rfl, H', ⟨by have := HJ1.out; omega⟩, ⟨HB.out⟩⟩
     ·rw [if_neg c8] at H
      exact absurd H (by simp)
    ·replace c7 := Bool.eq_false_iff.mpr c7
     subst c7
     rw [if_neg (show ¬ (false = true) by decide)] at H
     have H' := Aside0.mk H
     clear H
     go_wp2
     go_meet
     case rel => exact ⟨_, (a0), rfl, H', ⟨by have := HJ1.out; omega⟩, ⟨HB.out⟩⟩
   case rest =>
    clear HC6
    obtain ⟨kq, x4_5, rfl, HA, HJ5, HB⟩ := hcut
    cases kq with
    | zero => exact absurd HA.out (by simp [impl_ParseInt.j1])
    | succ kj5 =>
     have H := HA.out
     clear HA
     simp only [impl_ParseInt.j1] at H
     have HC9 := Aside0.mk H
     clear H
     go_upto_region 4 with (fail)
     go_cut [25] (fun v25 wc => ∃ (kq : Nat) (x25_8 : Bool), v25 = .bool x25_8 ∧ Aside0 (impl_ParseInt.j2 kq a0 x4_5 x25_8 = some (r1, r2)) ∧ Aside0 (kq ≤ kj5) ∧ Aside0 (Below w.heap.size w wc))
     case first =>
      have H := HC9.out
      clear HC9
      by_cases c10 : (x4_5.size : Int) < 1
      ·rw [if_pos c10] at H
       have c10b0 : decide ((x4_5.size : Int) < 1) = true := decide_eq_true c10
       have c10b1 : decide (x4_5.size < 1) = true := decide_eq_true (by omega)
       clear c10
       (skip)
       have H' := Aside0.mk H
       clear H
       go_wp2
       go_meet
       case rel => exact ⟨_, (true), rfl, H', ⟨by have := HJ1.out; have := HJ5.out; omega⟩, ⟨HB.out⟩⟩
      ·rw [if_neg c10] at H
       have c10b0 : decide ((x4_5.size : Int) < 1) = false := decide_eq_false c10
       have c10b1 : decide (x4_5.size < 1) = false := decide_eq_false (by omega)
       clear c10
       (skip)
       have H' := Aside0.mk H
       clear H
       go_wp2
       go_meet
       case rel => exact ⟨_, (decide ((x4_5.size : Int) > 9)), rfl, H', ⟨by have := HJ1.out; have := HJ5.out; omega⟩, ⟨HB.out⟩⟩
     case rest =>
      clear HC9
      obtain ⟨kq, x25_8, rfl, HA, HJ8, HB⟩ := hcut
      cases kq with
      | zero => exact absurd HA.out (by simp [impl_ParseInt.j2])
      | succ kj8 =>
       have H := HA.out
       clear HA
       simp only [impl_ParseInt.j2] at H
       by_cases c11 : x25_8 = true
       ·subst c11
        rw [if_pos rfl] at H
        simp only [Option.some.injEq, Prod.mk.injEq] at H
        obtain ⟨rfl, rfl⟩ := H
        go_wp2
        go_ret2
        exact ⟨rfl, HB.out⟩
       ·replace c11 := Bool.eq_false_iff.mpr c11
        subst c11
        rw [if_neg (show ¬ (false = true) by decide)] at H
        have H' := Aside0.mk H
        clear H
        go_wp2
        go_loopg [5, 28] kj8 (fun kq v5 v28 w' => ∃ (x5_4 : Int) (x28_4 : Int), v5 = .int .i64 x5_4 ∧ v28 = .int .i64 x28_4 ∧ Aside0 (impl_ParseInt.l0 kq a0 x4_5 x5_4 (x4_5.size : Int) x28_4 = some (r1, r2)) ∧ Aside0 (kq ≤ kj8) ∧ Aside0 (Below w.heap.size w w'))
        case atStart => exact ⟨(0), (0), rfl, rfl, H', ⟨Nat.le_refl _⟩, ⟨HB.out⟩⟩
        case round =>
         clear H'
         obtain ⟨x5_4, x28_4, rfl, rfl, HA, HK4, HB⟩ := hrel
         cases gk with
         | zero => exact absurd HA.out (by simp [impl_ParseInt.l0])
         | succ k4 =>
          have H := HA.out
          clear HA
          simp only [impl_ParseInt.l0] at H
          by_cases c12 : x28_4 < (x4_5.size : Int)
          ·rw [if_pos c12] at H
           have c12b0 : decide (x28_4 < (x4_5.size : Int)) = true := decide_eq_true c12
           clear c12
           by_cases c13 : 0 ≤ x28_4
           ·rw [if_pos c13] at H
            have c13b0 : decide (0 ≤ x28_4) = true := decide_eq_true c13
            clear c13
            by_cases c14 : x28_4 < (x4_5.size : Int)
            ·rw [if_pos c14] at H
             have c14b0 : decide (x28_4 < (x4_5.size : Int)) = true := decide_eq_true c14
             clear c14
             by_cases c16 : (bt x4_5 x28_4) < 48
             ·rw [if_pos c16] at H
              have c16b0 : decide ((bt x4_5 x28_4) < 48) = true := decide_eq_true c16
              clear c16
              simp only [Option.some.injEq, Prod.mk.injEq] at H
              obtain ⟨rfl, rfl⟩ := H
              have p15 : 0 ≤ (x28_4 : Int) := of_decide_eq_true (by (with_reducible assumption))
              have q15 : x28_4 < (x4_5.size : Int) := of_decide_eq_true (by (with_reducible assumption))
              have hx15 := bt_at x4_5 x28_4
              replace p15 := eq_true p15
              replace q15 := eq_true q15
              go_wp2
              go_ret2
              exact ⟨rfl, HB.out⟩
             ·rw [if_neg c16] at H
              have c16b0 : decide ((bt x4_5 x28_4) < 48) = false := decide_eq_false c16
              clear c16
              by_cases c18 : (bt x4_5 x28_4) > 57
              ·rw [if_pos c18] at H
               have c18b0 : decide (57 < (bt x4_5 x28_4)) = true := decide_eq_true c18
               clear c18
               simp only [Option.some.injEq, Prod.mk.injEq] at H
               obtain ⟨rfl, rfl⟩ := H
               have p15 : 0 ≤ (x28_4 : Int) := of_decide_eq_true (by (with_reducible assumption))
               have q15 : x28_4 < (x4_5.size : Int) := of_decide_eq_true (by (with_reducible assumption))
               have hx15 := bt_at x4_5 x28_4
               replace p15 := eq_true p15
               replace q15 := eq_true q15
               have p17 : 0 ≤ (x28_4 : Int) := of_decide_eq_true (by (with_reducible assumption))
               have q17 : x28_4 < (x4_5.size : Int) := of_decide_eq_true (by (with_reducible assumption))
               have hx17 := bt_at x4_5 x28_4
               replace p17 := eq_true p17
               replace q17 := eq_true q17
               go_wp2
               go_ret2
               exact ⟨rfl, HB.out⟩
              ·rw [if_neg c18] at H
               have c18b0 : decide (57 < (bt x4_5 x28_4)) = false := decide_eq_false c18
               clear c18
               have H' := Aside0.mk H
               clear H
               have p15 : 0 ≤ (x28_4 : Int) := of_decide_eq_true (by (with_reducible assumption))
               have q15 : x28_4 < (x4_5.size : Int) := of_decide_eq_true (by (with_reducible assumption))
               have hx15 := bt_at x4_5 x28_4
               replace p15 := eq_true p15
               replace q15 := eq_true q15
               have p17 : 0 ≤ (x28_4 : Int) := of_decide_eq_true (by (with_reducible assumption))
               have q17 : x28_4 < (x4_5.size : Int) := of_decide_eq_true (by (with_reducible assumption))
               have hx17 := bt_at x4_5 x28_4
               replace p17 := eq_true p17
               replace q17 := eq_true q17
               have p19 : 0 ≤ (x28_4 : Int) := of_decide_eq_true (by (with_reducible assumption))
               have q19 : x28_4 < (x4_5.size : Int) := of_decide_eq_true (by (with_reducible assumption))
               have hx19 := bt_at x4_5 x28_4
               replace p19 := eq_true p19
               replace q19 := eq_true q19
               go_wp2
               go_roundg k4
               case measure => have := HJ1.out; have := HJ5.out; have := HJ8.out; have := HK4.out; omega
               case rel => exact ⟨(wrap64 ((wrap64 (10 * x5_4)) + (((bt x4_5 x28_4) - 48) % 256))), (wrap64 (x28_4 + 1)), rfl, rfl, H', ⟨by have := HJ1.out; have := HJ5.out; have := HJ8.out; have := HK4.out; omega⟩, ⟨HB.out⟩⟩
            ·rw [if_neg c14] at H
             exact absurd H (by simp)
           ·rw [if_neg c13] at H
            exact absurd H (by simp)
          ·rw [if_neg c12] at H
           have c12b0 : decide (x28_4 < (x4_5.size : Int)) = false := decide_eq_false c12
           clear c12
           by_cases c20 : (x4_5.size : Int) < (a0.size : Int)
           ·rw [if_pos c20] at H
            have c20b0 : decide ((x4_5.size : Int) < (a0.size : Int)) = true := decide_eq_true c20
            have c20b1 : decide (x4_5.size < a0.size) = true := decide_eq_true (Int.ofNat_lt.mp c20)
            clear c20
            replace H := Option.bind_eq_some_iff.mp H
            obtain ⟨t1251, A210, H⟩ := H
            have A21 := Aside0.mk A210
            clear A210
            by_cases c22 : t1251.toList = a0.toList
            ·rw [if_pos c22] at H
             have c22b0 : (t1251.toList == a0.toList) = true := beq_iff_eq.mpr c22
             have c22b1 : (t1251.toList != a0.toList) = false := bne_eq_false_iff_eq.mpr c22
             clear c22
             simp only [Option.some.injEq, Prod.mk.injEq] at H
             obtain ⟨rfl, rfl⟩ := H
             go_wp2_with (((with_reducible refine gate_callee (f := 155) rfl ?_); refine goesL_ (some 58) rfl rfl Try.func155 (by kernel_rfl) rfl #[.int .i64 (wrap64 (-x5_4))] rfl (by (try simp only [List.map_toArray, List.map_cons, List.map_nil]); rfl) ?_; (with_reducible refine (impl_FormatInt.calls k4 (wrap64 (-x5_4)) t1251 _ A21.out).mono ?_); rintro e w23 ⟨rfl, hb⟩; refine ⟨_, rfl, ?_⟩; have n0_ := Aside0.mk (below_step HB.out hb); clear HB; have HB := n0_; clear n0_; (try clear hb); (try clear hb2); (try clear hk); (try clear hi)))
             go_ret2
             exact ⟨rfl, HB.out⟩
            ·rw [if_neg c22] at H
             have c22b0 : (t1251.toList == a0.toList) = false := beq_eq_false_iff_ne.mpr c22
             have c22b1 : (t1251.toList != a0.toList) = true := bne_iff_ne.mpr c22
             simp only [Option.some.injEq, Prod.mk.injEq] at H
             obtain ⟨rfl, rfl⟩ := H
             go_wp2_with (((with_reducible refine gate_callee (f := 155) rfl ?_); refine goesL_ (some 58) rfl rfl Try.func155 (by kernel_rfl) rfl #[.int .i64 (wrap64 (-x5_4))] rfl (by (try simp only [List.map_toArray, List.map_cons, List.map_nil]); rfl) ?_; (with_reducible refine (impl_FormatInt.calls k4 (wrap64 (-x5_4)) t1251 _ A21.out).mono ?_); rintro e w24 ⟨rfl, hb⟩; refine ⟨_, rfl, ?_⟩; have n0_ := Aside0.mk (below_step HB.out hb); clear HB; have HB := n0_; clear n0_; (try clear hb); (try clear hb2); (try clear hk); (try clear hi)))
             go_ret2
             exact ⟨rfl, HB.out⟩
           ·rw [if_neg c20] at H
            have c20b0 : decide ((x4_5.size : Int) < (a0.size : Int)) = false := decide_eq_false c20
            have c20b1 : decide (x4_5.size < a0.size) = false := decide_eq_false (fun h => c20 (Int.ofNat_lt.mpr h))
            clear c20
            replace H := Option.bind_eq_some_iff.mp H
            obtain ⟨t1252, A250, H⟩ := H
            have A25 := Aside0.mk A250
            clear A250
            by_cases c26 : t1252.toList = a0.toList
            ·rw [if_pos c26] at H
             have c26b0 : (t1252.toList == a0.toList) = true := beq_iff_eq.mpr c26
             have c26b1 : (t1252.toList != a0.toList) = false := bne_eq_false_iff_eq.mpr c26
             clear c26
             simp only [Option.some.injEq, Prod.mk.injEq] at H
             obtain ⟨rfl, rfl⟩ := H
             go_wp2_with (((with_reducible refine gate_callee (f := 155) rfl ?_); refine goesL_ (some 58) rfl rfl Try.func155 (by kernel_rfl) rfl #[.int .i64 x5_4] rfl (by (try simp only [List.map_toArray, List.map_cons, List.map_nil]); rfl) ?_; (with_reducible refine (impl_FormatInt.calls k4 x5_4 t1252 _ A25.out).mono ?_); rintro e w27 ⟨rfl, hb⟩; refine ⟨_, rfl, ?_⟩; have n0_ := Aside0.mk (below_step HB.out hb); clear HB; have HB := n0_; clear n0_; (try clear hb); (try clear hb2); (try clear hk); (try clear hi)))
             go_ret2
             exact ⟨rfl, HB.out⟩
            ·rw [if_neg c26] at H
             have c26b0 : (t1252.toList == a0.toList) = false := beq_eq_false_iff_ne.mpr c26
             have c26b1 : (t1252.toList != a0.toList) = true := bne_iff_ne.mpr c26
             simp only [Option.some.injEq, Prod.mk.injEq] at H
             obtain ⟨rfl, rfl⟩ := H
             go_wp2_with (((with_reducible refine gate_callee (f := 155) rfl ?_); refine goesL_ (some 58) rfl rfl Try.func155 (by kernel_rfl) rfl #[.int .i64 x5_4] rfl (by (try simp only [List.map_toArray, List.map_cons, List.map_nil]); rfl) ?_; (with_reducible refine (impl_FormatInt.calls k4 x5_4 t1252 _ A25.out).mono ?_); rintro e w28 ⟨rfl, hb⟩; refine ⟨_, rfl, ?_⟩; have n0_ := Aside0.mk (below_step HB.out hb); clear HB; have HB := n0_; clear n0_; (try clear hb); (try clear hb2); (try clear hk); (try clear hi)))
             go_ret2
             exact ⟨rfl, HB.out⟩

end Go.Proofs.Ytobndcjmjhehjaa.P
