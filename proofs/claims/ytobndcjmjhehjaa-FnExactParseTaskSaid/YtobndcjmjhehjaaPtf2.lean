/- For every string the law FnExactParseTask of the given program returns true and leaves its argument as it was; no condition. -/
import Derived.Test.YtobndcjmjhehjaaPtf1
namespace Go.Proofs.Ytobndcjmjhehjaa.P
open Go.RowKit Go.Proofs.YtobndcjmjhehjaaW.PrintWords Go.Proofs.YtobndcjmjhehjaaW.PrintLast Go.Proofs.YtobndcjmjhehjaaW.PrintMore
attribute [local go_sem] max2_int min2_int max_two min_two max_three min_three max_four min_four   -- for this text's walks alone
set_option linter.unusedVariables false
set_option linter.unusedSimpArgs false

/-! ### impl_ParseRow: function 187 -/
def impl_ParseRow.f (k : Nat) (a0 : ByteArray) : Option (Int × Int × Int × Bool) := (impl_cut.f k a0 46).bind fun t1254 => (if (t1254.length : Int) = 3 then (if 0 < (t1254.length : Int) then ((impl_ParseInt.f k (rdOf ByteArray.empty t1254 0)).bind fun bt1258 => (if 1 < (t1254.length : Int) then ((impl_ParseInt.f k (rdOf ByteArray.empty t1254 1)).bind fun bt1261 => (if 2 < (t1254.length : Int) then ((impl_ParseInt.f k (rdOf ByteArray.empty t1254 2)).bind fun bt1264 => (if bt1258.2 = true then (if bt1261.2 = true then (if bt1264.2 = true then ((impl_IsValidRow.f bt1258.1 bt1261.1 bt1264.1).bind fun t1267 => (if t1267 = true then (some (bt1258.1, bt1261.1, bt1264.1, true)) else (some (0, 0, 0, false)))) else (some (0, 0, 0, false))) else (some (0, 0, 0, false))) else (some (0, 0, 0, false)))) else (none))) else (none))) else (none)) else (some (0, 0, 0, false)))
theorem impl_ParseRow.mono : ∀ a0 k, LeO (impl_ParseRow.f k a0) (impl_ParseRow.f (k + 1) a0) := by
 intro a0 k
 unfold impl_ParseRow.f
 repeat' first
   | (with_reducible exact impl_ParseInt.mono _ _)
   | (with_reducible exact impl_cut.mono _ _ _)
   | (with_reducible exact LeO.refl _)
   | (with_reducible refine LeO.ite ?_ ?_)
   | (with_reducible refine LeO.bind ?_ (fun _ => ?_))
   | refine LeO.bind ?_ (fun _ => ?_)
set_option maxHeartbeats 8000000 in
set_option maxRecDepth 100000 in
theorem impl_ParseRow.calls (k : Nat) (a0 : ByteArray) (r1 : Int) (r2 : Int) (r3 : Int) (r4 : Bool) (w : World) (h : impl_ParseRow.f k a0 = some (r1, r2, r3, r4)) :
  Calls Try.prog 187 #[.string a0] w fun e w' => e = .returned (.tuple #[.agg #[.int .i64 r1, .int .i64 r2, .int .i64 r3], .bool r4]) ∧ Below w.heap.size w w' := by
 have hu60 := Try.underlying60
 have HB := Aside0.mk (Below.refl w.heap.size w)
 have H : ((impl_cut.f k a0 46).bind fun t1254 => (if (t1254.length : Int) = 3 then (if 0 < (t1254.length : Int) then ((impl_ParseInt.f k (rdOf ByteArray.empty t1254 0)).bind fun bt1258 => (if 1 < (t1254.length : Int) then ((impl_ParseInt.f k (rdOf ByteArray.empty t1254 1)).bind fun bt1261 => (if 2 < (t1254.length : Int) then ((impl_ParseInt.f k (rdOf ByteArray.empty t1254 2)).bind fun bt1264 => (if bt1258.2 = true then (if bt1261.2 = true then (if bt1264.2 = true then ((impl_IsValidRow.f bt1258.1 bt1261.1 bt1264.1).bind fun t1267 => (if t1267 = true then (some (bt1258.1, bt1261.1, bt1264.1, true)) else (some (0, 0, 0, false)))) else (some (0, 0, 0, false))) else (some (0, 0, 0, false))) else (some (0, 0, 0, false)))) else (none))) else (none))) else (none)) else (some (0, 0, 0, false)))) = some (r1, r2, r3, r4) := h
 clear h
 replace H := Option.bind_eq_some_iff.mp H
 obtain ⟨t1254, A20, H⟩ := H
 have A2 := Aside0.mk A20
 clear A20
 by_cases c3 : (t1254.length : Int) = 3
 ·rw [if_pos c3] at H
  have c3b0 : ((t1254.length : Int) == 3) = true := beq_iff_eq.mpr c3
  have c3b1 : ((t1254.length : Int) != 3) = false := bne_eq_false_iff_eq.mpr c3
  clear c3
  by_cases c4 : 0 < (t1254.length : Int)
  ·rw [if_pos c4] at H
   have c4b0 : decide (0 < (t1254.length : Int)) = true := decide_eq_true c4
   have c4b1 : decide (0 < t1254.length) = true := decide_eq_true (by omega)
   clear c4
   replace H := Option.bind_eq_some_iff.mp H
   obtain ⟨⟨t1258, t1259⟩, A50, H⟩ := H
   have A5 := Aside0.mk A50
   clear A50
   by_cases c6 : 1 < (t1254.length : Int)
   ·rw [if_pos c6] at H
    have c6b0 : decide (1 < (t1254.length : Int)) = true := decide_eq_true c6
    have c6b1 : decide (1 < t1254.length) = true := decide_eq_true (by omega)
    clear c6
    replace H := Option.bind_eq_some_iff.mp H
    obtain ⟨⟨t1261, t1262⟩, A70, H⟩ := H
    have A7 := Aside0.mk A70
    clear A70
    by_cases c8 : 2 < (t1254.length : Int)
    ·rw [if_pos c8] at H
     have c8b0 : decide (2 < (t1254.length : Int)) = true := decide_eq_true c8
     have c8b1 : decide (2 < t1254.length) = true := decide_eq_true (by omega)
     clear c8
     replace H := Option.bind_eq_some_iff.mp H
     obtain ⟨⟨t1264, t1265⟩, A90, H⟩ := H
     have A9 := Aside0.mk A90
     clear A90
     by_cases c10 : t1259 = true
     ·subst c10
      rw [if_pos rfl] at H
      by_cases c11 : t1262 = true
      ·subst c11
       rw [if_pos rfl] at H
       by_cases c12 : t1265 = true
       ·subst c12
        rw [if_pos rfl] at H
        replace H := Option.bind_eq_some_iff.mp H
        obtain ⟨t1267, A130, H⟩ := H
        have A13 := Aside0.mk A130
        clear A130
        by_cases c14 : t1267 = true
        ·subst c14
         rw [if_pos rfl] at H
         simp only [Option.some.injEq, Prod.mk.injEq] at H
         obtain ⟨rfl, rfl, rfl, rfl⟩ := H
         go_enter Try.func187, Try.ntmps187
         go_wp2_with (first | ((with_reducible refine gate_dst (N := 2) rfl ?_); refine box_event ?hg (N := 2) ?hd (cs := #[.int .i64 0, .int .i64 0, .int .i64 0]) (t := 60) ?hr ?_; (case hd => rfl); (case hg => rfl); (case hr => (go_simp; done)); intro gb1253 hg w15 hbox hb; have n0_ := Aside0.mk (below_step HB.out hb); have n1_ := Aside0.mk (hbox); have n2_ := Aside0.mk ((by rw [hg]; exact (below_size HB.out) : w.heap.size ≤ gb1253)); have n3_ := Aside0.mk ((by rw [hg]; exact (below_size HB.out) : w.heap.size ≤ gb1253)); clear HB; have HB := n0_; have BK1253 := n1_; have GW1253 := n2_; have GE1253 := n3_; clear n0_ n1_ n2_ n3_; clear hb hbox hg) | ((with_reducible refine gate_callee (f := 139) rfl ?_); refine goesL_ (some 13) rfl rfl Try.func139 (by kernel_rfl) rfl #[.string a0, .int .u8 46] rfl (by (try simp only [List.map_toArray, List.map_cons, List.map_nil]); rfl) ?_; (with_reducible refine (impl_cut.calls k a0 46 t1254 _ A2.out).mono ?_); rintro e w16 ⟨v1255, rfl, ho0, hb⟩; refine ⟨_, rfl, ?_⟩; have n0_ := Aside0.mk (Kd.R_lower ho0 (below_size HB.out)); have n1_ := Aside0.mk (blk_below (g := gb1253) (o := .cells #[.int .i64 0, .int .i64 0, .int .i64 0] 60 (0, 0)) BK1253.out hb); have n2_ := Aside0.mk (below_step HB.out hb); clear BK1253; clear HB; have HO1256 := n0_; have BK1253 := n1_; have HB := n2_; clear n0_ n1_ n2_; (try clear hb); (try clear hb2); (try clear hk); (try clear hi); (try clear ho0); obtain ⟨Ao17, co17, eo17⟩ := Kd.R_slice HO1256.out; subst eo17; have p1257 : 0 ≤ (0 : Int) := (by omega); have q1257 : 0 < (t1254.length : Int) := of_decide_eq_true (by (with_reducible assumption)); obtain ⟨ad1257, e1257, hx1257_0⟩ := Kd.at_string (Kd.R_reads' HO1256.out).2.2 0 p1257 q1257; cases e1257; have qi1257 : (0 < t1254.length) = True := eq_true (by omega); (try rw [show ((0 : Int)).toNat = 0 from rfl] at hx1257_0); (try rw [Addr.add_zero'] at hx1257_0); replace p1257 := eq_true p1257; replace q1257 := eq_true q1257) | ((with_reducible refine gate_callee (f := 140) rfl ?_); refine goesL_ (some 22) rfl rfl Try.func140 (by kernel_rfl) rfl #[.string (rdOf ByteArray.empty t1254 0)] rfl (by (try simp only [List.map_toArray, List.map_cons, List.map_nil]); rfl) ?_; (with_reducible refine (impl_ParseInt.calls k (rdOf ByteArray.empty t1254 0) t1258 true _ A5.out).mono ?_); rintro e w18 ⟨rfl, hb⟩; refine ⟨_, rfl, ?_⟩; have n0_ := Aside0.mk (Kd.R_below HO1256.out hb); have n1_ := Aside0.mk (blk_below (g := gb1253) (o := .cells #[.int .i64 0, .int .i64 0, .int .i64 0] 60 (0, 0)) BK1253.out hb); have n2_ := Aside0.mk (below_step HB.out hb); clear HO1256; clear BK1253; clear HB; have HO1256 := n0_; have BK1253 := n1_; have HB := n2_; clear n0_ n1_ n2_; (try clear hb); (try clear hb2); (try clear hk); (try clear hi); have p1260 : 0 ≤ (1 : Int) := (by omega); have q1260 : 1 < (t1254.length : Int) := of_decide_eq_true (by (with_reducible assumption)); obtain ⟨ad1260, e1260, hx1260_0⟩ := Kd.at_string (Kd.R_reads' HO1256.out).2.2 1 p1260 q1260; obtain rfl : ad1257 = ad1260 := (by injection e1260); (try simp only [show (1 : Int).toNat = 1 from rfl, Nat.reduceMul, Nat.reduceEqDiff, Go.Addr.add, ↓reduceIte] at hx1260_0); have qi1260 : (1 < t1254.length) = True := eq_true (by omega); (try rw [show ((1 : Int)).toNat = 1 from rfl] at hx1260_0); replace p1260 := eq_true p1260; replace q1260 := eq_true q1260) | ((with_reducible refine gate_callee (f := 140) rfl ?_); refine goesL_ (some 29) rfl rfl Try.func140 (by kernel_rfl) rfl #[.string (rdOf ByteArray.empty t1254 1)] rfl (by (try simp only [List.map_toArray, List.map_cons, List.map_nil]); rfl) ?_; (with_reducible refine (impl_ParseInt.calls k (rdOf ByteArray.empty t1254 1) t1261 true _ A7.out).mono ?_); rintro e w19 ⟨rfl, hb⟩; refine ⟨_, rfl, ?_⟩; have n0_ := Aside0.mk (Kd.R_below HO1256.out hb); have n1_ := Aside0.mk (blk_below (g := gb1253) (o := .cells #[.int .i64 0, .int .i64 0, .int .i64 0] 60 (0, 0)) BK1253.out hb); have n2_ := Aside0.mk (below_step HB.out hb); clear HO1256; clear BK1253; clear HB; have HO1256 := n0_; have BK1253 := n1_; have HB := n2_; clear n0_ n1_ n2_; (try clear hb); (try clear hb2); (try clear hk); (try clear hi); have p1263 : 0 ≤ (2 : Int) := (by omega); have q1263 : 2 < (t1254.length : Int) := of_decide_eq_true (by (with_reducible assumption)); obtain ⟨ad1263, e1263, hx1263_0⟩ := Kd.at_string (Kd.R_reads' HO1256.out).2.2 2 p1263 q1263; obtain rfl : ad1257 = ad1263 := (by injection e1263); (try simp only [show (2 : Int).toNat = 2 from rfl, Nat.reduceMul, Nat.reduceEqDiff, Go.Addr.add, ↓reduceIte] at hx1263_0); have qi1263 : (2 < t1254.length) = True := eq_true (by omega); (try rw [show ((2 : Int)).toNat = 2 from rfl] at hx1263_0); replace p1263 := eq_true p1263; replace q1263 := eq_true q1263) | ((with_reducible refine gate_callee (f := 140) rfl ?_); refine goesL_ (some 36) rfl rfl Try.func140 (by kernel_rfl) rfl #[.string (rdOf ByteArray.empty t1254 2)] rfl (by (try simp only [List.map_toArray, List.map_cons, List.map_nil]); rfl) ?_; (with_reducible refine (impl_ParseInt.calls k (rdOf ByteArray.empty t1254 2) t1264 true _ A9.out).mono ?_); rintro e w20 ⟨rfl, hb⟩; refine ⟨_, rfl, ?_⟩; have n0_ := Aside0.mk (Kd.R_below HO1256.out hb); have n1_ := Aside0.mk (blk_below (g := gb1253) (o := .cells #[.int .i64 0, .int .i64 0, .int .i64 0] 60 (0, 0)) BK1253.out hb); have n2_ := Aside0.mk (below_step HB.out hb); clear HO1256; clear BK1253; clear HB; have HO1256 := n0_; have BK1253 := n1_; have HB := n2_; clear n0_ n1_ n2_; (try clear hb); (try clear hb2); (try clear hk); (try clear hi)) | ((with_reducible refine gate_dst (N := 11) rfl ?_); refine box_event ?hg (N := 11) ?hd (cs := #[.int .i64 0, .int .i64 0, .int .i64 0]) (t := 60) ?hr ?_; (case hd => rfl); (case hg => rfl); (case hr => (go_simp; done)); intro gb1266 hg w21 hbox hb; have n0_ := Aside0.mk (Kd.R_below HO1256.out hb); have n1_ := Aside0.mk (blk_below (g := gb1253) (o := .cells #[.int .i64 0, .int .i64 0, .int .i64 0] 60 (0, 0)) BK1253.out hb); have n2_ := Aside0.mk (below_step HB.out hb); have n3_ := Aside0.mk (hbox); have n4_ := Aside0.mk ((by rw [hg]; exact (below_size HB.out) : w.heap.size ≤ gb1266)); have n5_ := Aside0.mk ((by rw [hg]; exact (below_size HB.out) : w.heap.size ≤ gb1266)); have n6_ := Aside0.mk ((by rw [hg]; exact Nat.ne_of_lt (blk_lt (g := gb1253) (o := .cells #[.int .i64 0, .int .i64 0, .int .i64 0] 60 (0, 0)) BK1253.out) : gb1253 ≠ gb1266)); have n7_ := Aside0.mk ((by rw [hg]; exact Nat.ne_of_gt (blk_lt (g := gb1253) (o := .cells #[.int .i64 0, .int .i64 0, .int .i64 0] 60 (0, 0)) BK1253.out) : gb1266 ≠ gb1253)); clear HO1256; clear BK1253; clear HB; have HO1256 := n0_; have BK1253 := n1_; have HB := n2_; have BK1266 := n3_; have GW1266 := n4_; have GE1266 := n5_; have NB1253_1266 := n6_; have NB1266_1253 := n7_; clear n0_ n1_ n2_ n3_ n4_ n5_ n6_ n7_; clear hb hbox hg; have hnb22 := NB1266_1253.out; have hnc22 := NB1253_1266.out; have hcz23_0 : w21.cell? ⟨gb1266, 0, none⟩ = some (.int .i64 0) := (blk_cell BK1266.out 0).trans rfl; have hcz23_1 : w21.cell? ⟨gb1266, 1, none⟩ = some (.int .i64 0) := (blk_cell BK1266.out 1).trans rfl; have hcz23_2 : w21.cell? ⟨gb1266, 2, none⟩ = some (.int .i64 0) := (blk_cell BK1266.out 2).trans rfl; have hfz23_0 := blk_frozen BK1266.out 0; have hfz23_1 := blk_frozen BK1266.out 1; have hfz23_2 := blk_frozen BK1266.out 2) | (go_at_call 196; (with_reducible refine (impl_IsValidRow.calls t1258 t1261 t1264 true _ A13.out).mono ?_); rintro e w24 ⟨rfl, hb⟩; have n0_ := Aside0.mk (Kd.R_below (by exact (Kd.R_mono (Kd.R_far (p := ⟨gb1266, 2, none⟩) (Kd.R_far (p := ⟨gb1266, 1, none⟩) (Kd.R_far (p := ⟨gb1266, 0, none⟩) (Kd.R_types HO1256.out BK1266.out (by decide)) (fun _ hk => hk.2) (.int .i64 t1258)) (fun _ hk => hk.2) (.int .i64 t1261)) (fun _ hk => hk.2) (.int .i64 t1264)) (fun _ h_ => h_.1))) hb); have n1_ := Aside0.mk (blk_below (g := gb1253) (o := .cells #[.int .i64 0, .int .i64 0, .int .i64 0] 60 (0, 0)) (by refine blk_far ?_ NB1253_1266.out _; refine blk_far ?_ NB1253_1266.out _; refine blk_far ?_ NB1253_1266.out _; exact BK1253.out) hb); have n2_ := Aside0.mk (blk_below (g := gb1266) (o := .cells #[.int .i64 t1258, .int .i64 t1261, .int .i64 t1264] 60 (0, 0)) (by refine blk_put (cs := #[.int .i64 t1258, .int .i64 t1261, .int .i64 0]) ?_ 2 _ rfl; refine blk_put (cs := #[.int .i64 t1258, .int .i64 0, .int .i64 0]) ?_ 1 _ rfl; refine blk_put (cs := #[.int .i64 0, .int .i64 0, .int .i64 0]) ?_ 0 _ rfl; exact BK1266.out) hb); have n3_ := Aside0.mk (below_step (by repeat (with_reducible first | exact HB.out | refine below_set ?_ GE1266.out)) hb); clear HO1256; clear BK1253; clear BK1266; clear HB; have HO1256 := n0_; have BK1253 := n1_; have BK1266 := n2_; have HB := n3_; clear n0_ n1_ n2_ n3_; (try clear hb); (try clear hb2); (try clear hk); (try clear hi); have hcz25_0 : w24.cell? ⟨gb1266, 0, none⟩ = some (.int .i64 t1258) := (blk_cell BK1266.out 0).trans rfl; have hcz25_1 : w24.cell? ⟨gb1266, 1, none⟩ = some (.int .i64 t1261) := (blk_cell BK1266.out 1).trans rfl; have hcz25_2 : w24.cell? ⟨gb1266, 2, none⟩ = some (.int .i64 t1264) := (blk_cell BK1266.out 2).trans rfl; have hfz25_0 := blk_frozen BK1266.out 0; have hfz25_1 := blk_frozen BK1266.out 1; have hfz25_2 := blk_frozen BK1266.out 2; have hcz26_0 : w24.cell? ⟨gb1253, 0, none⟩ = some (.int .i64 0) := (blk_cell BK1253.out 0).trans rfl; have hcz26_1 : w24.cell? ⟨gb1253, 1, none⟩ = some (.int .i64 0) := (blk_cell BK1253.out 1).trans rfl; have hcz26_2 : w24.cell? ⟨gb1253, 2, none⟩ = some (.int .i64 0) := (blk_cell BK1253.out 2).trans rfl; have hfz26_0 := blk_frozen BK1253.out 0; have hfz26_1 := blk_frozen BK1253.out 1; have hfz26_2 := blk_frozen BK1253.out 2))
         refine bodyPost_ret (results_ct rfl _ _ gb1253 60 #[.int .i64 t1258, .int .i64 t1261, .int .i64 t1264] (0, 0) _ rfl (by refine blk_put (cs := #[.int .i64 t1258, .int .i64 t1261, .int .i64 0]) ?_ 2 _ rfl; refine blk_put (cs := #[.int .i64 t1258, .int .i64 0, .int .i64 0]) ?_ 1 _ rfl; refine blk_put (cs := #[.int .i64 0, .int .i64 0, .int .i64 0]) ?_ 0 _ rfl; exact BK1253.out) Try.underlying60 rfl (by kernel_rfl)) rfl ?_
         exact ⟨rfl, by repeat ((with_reducible first | exact HB.out | refine below_set ?_ GE1253.out))⟩
        ·replace c14 := Bool.eq_false_iff.mpr c14
         subst c14
         rw [if_neg (show ¬ (false = true) by decide)] at H
         simp only [Option.some.injEq, Prod.mk.injEq] at H
         obtain ⟨rfl, rfl, rfl, rfl⟩ := H
         go_enter Try.func187, Try.ntmps187
         go_wp2_with (first | ((with_reducible refine gate_dst (N := 2) rfl ?_); refine box_event ?hg (N := 2) ?hd (cs := #[.int .i64 0, .int .i64 0, .int .i64 0]) (t := 60) ?hr ?_; (case hd => rfl); (case hg => rfl); (case hr => (go_simp; done)); intro gb1253 hg w27 hbox hb; have n0_ := Aside0.mk (below_step HB.out hb); have n1_ := Aside0.mk (hbox); have n2_ := Aside0.mk ((by rw [hg]; exact (below_size HB.out) : w.heap.size ≤ gb1253)); have n3_ := Aside0.mk ((by rw [hg]; exact (below_size HB.out) : w.heap.size ≤ gb1253)); clear HB; have HB := n0_; have BK1253 := n1_; have GW1253 := n2_; have GE1253 := n3_; clear n0_ n1_ n2_ n3_; clear hb hbox hg) | ((with_reducible refine gate_callee (f := 139) rfl ?_); refine goesL_ (some 13) rfl rfl Try.func139 (by kernel_rfl) rfl #[.string a0, .int .u8 46] rfl (by (try simp only [List.map_toArray, List.map_cons, List.map_nil]); rfl) ?_; (with_reducible refine (impl_cut.calls k a0 46 t1254 _ A2.out).mono ?_); rintro e w28 ⟨v1255, rfl, ho0, hb⟩; refine ⟨_, rfl, ?_⟩; have n0_ := Aside0.mk (Kd.R_lower ho0 (below_size HB.out)); have n1_ := Aside0.mk (blk_below (g := gb1253) (o := .cells #[.int .i64 0, .int .i64 0, .int .i64 0] 60 (0, 0)) BK1253.out hb); have n2_ := Aside0.mk (below_step HB.out hb); clear BK1253; clear HB; have HO1256 := n0_; have BK1253 := n1_; have HB := n2_; clear n0_ n1_ n2_; (try clear hb); (try clear hb2); (try clear hk); (try clear hi); (try clear ho0); obtain ⟨Ao29, co29, eo29⟩ := Kd.R_slice HO1256.out; subst eo29; have p1257 : 0 ≤ (0 : Int) := (by omega); have q1257 : 0 < (t1254.length : Int) := of_decide_eq_true (by (with_reducible assumption)); obtain ⟨ad1257, e1257, hx1257_0⟩ := Kd.at_string (Kd.R_reads' HO1256.out).2.2 0 p1257 q1257; cases e1257; have qi1257 : (0 < t1254.length) = True := eq_true (by omega); (try rw [show ((0 : Int)).toNat = 0 from rfl] at hx1257_0); (try rw [Addr.add_zero'] at hx1257_0); replace p1257 := eq_true p1257; replace q1257 := eq_true q1257) | ((with_reducible refine gate_callee (f := 140) rfl ?_); refine goesL_ (some 22) rfl rfl Try.func140 (by kernel_rfl) rfl #[.string (rdOf ByteArray.empty t1254 0)] rfl (by (try simp only [List.map_toArray, List.map_cons, List.map_nil]); rfl) ?_; (with_reducible refine (impl_ParseInt.calls k (rdOf ByteArray.empty t1254 0) t1258 true _ A5.out).mono ?_); rintro e w30 ⟨rfl, hb⟩; refine ⟨_, rfl, ?_⟩; have n0_ := Aside0.mk (Kd.R_below HO1256.out hb); have n1_ := Aside0.mk (blk_below (g := gb1253) (o := .cells #[.int .i64 0, .int .i64 0, .int .i64 0] 60 (0, 0)) BK1253.out hb); have n2_ := Aside0.mk (below_step HB.out hb); clear HO1256; clear BK1253; clear HB; have HO1256 := n0_; have BK1253 := n1_; have HB := n2_; clear n0_ n1_ n2_; (try clear hb); (try clear hb2); (try clear hk); (try clear hi); have p1260 : 0 ≤ (1 : Int) := (by omega); have q1260 : 1 < (t1254.length : Int) := of_decide_eq_true (by (with_reducible assumption)); obtain ⟨ad1260, e1260, hx1260_0⟩ := Kd.at_string (Kd.R_reads' HO1256.out).2.2 1 p1260 q1260; obtain rfl : ad1257 = ad1260 := (by injection e1260); (try simp only [show (1 : Int).toNat = 1 from rfl, Nat.reduceMul, Nat.reduceEqDiff, Go.Addr.add, ↓reduceIte] at hx1260_0); have qi1260 : (1 < t1254.length) = True := eq_true (by omega); (try rw [show ((1 : Int)).toNat = 1 from rfl] at hx1260_0); replace p1260 := eq_true p1260; replace q1260 := eq_true q1260) | ((with_reducible refine gate_callee (f := 140) rfl ?_); refine goesL_ (some 29) rfl rfl Try.func140 (by kernel_rfl) rfl #[.string (rdOf ByteArray.empty t1254 1)] rfl (by (try simp only [List.map_toArray, List.map_cons, List.map_nil]); rfl) ?_; (with_reducible refine (impl_ParseInt.calls k (rdOf ByteArray.empty t1254 1) t1261 true _ A7.out).mono ?_); rintro e w31 ⟨rfl, hb⟩; refine ⟨_, rfl, ?_⟩; have n0_ := Aside0.mk (Kd.R_below HO1256.out hb); have n1_ := Aside0.mk (blk_below (g := gb1253) (o := .cells #[.int .i64 0, .int .i64 0, .int .i64 0] 60 (0, 0)) BK1253.out hb); have n2_ := Aside0.mk (below_step HB.out hb); clear HO1256; clear BK1253; clear HB; have HO1256 := n0_; have BK1253 := n1_; have HB := n2_; clear n0_ n1_ n2_; (try clear hb); (try clear hb2); (try clear hk); (try clear hi); have p1263 : 0 ≤ (2 : Int) := (by omega); have q1263 : 2 < (t1254.length : Int) := of_decide_eq_true (by (with_reducible assumption)); obtain ⟨ad1263, e1263, hx1263_0⟩ := Kd.at_string (Kd.R_reads' HO1256.out).2.2 2 p1263 q1263; obtain rfl : ad1257 = ad1263 := (by injection e1263); (try simp only [show (2 : Int).toNat = 2 from rfl, Nat.reduceMul, Nat.reduceEqDiff, Go.Addr.add, ↓reduceIte] at hx1263_0); have qi1263 : (2 < t1254.length) = True := eq_true (by omega); (try rw [show ((2 : Int)).toNat = 2 from rfl] at hx1263_0); replace p1263 := eq_true p1263; replace q1263 := eq_true q1263) | ((with_reducible refine gate_callee (f := 140) rfl ?_); refine goesL_ (some 36) rfl rfl Try.func140 (by kernel_rfl) rfl #[.string (rdOf ByteArray.empty t1254 2)] rfl (by (try simp only [List.map_toArray, List.map_cons, List.map_nil]); rfl) ?_; (with_reducible refine (impl_ParseInt.calls k (rdOf ByteArray.empty t1254 2) t1264 true _ A9.out).mono ?_); rintro e w32 ⟨rfl, hb⟩; refine ⟨_, rfl, ?_⟩; have n0_ := Aside0.mk (Kd.R_below HO1256.out hb); have n1_ := Aside0.mk (blk_below (g := gb1253) (o := .cells #[.int .i64 0, .int .i64 0, .int .i64 0] 60 (0, 0)) BK1253.out hb); have n2_ := Aside0.mk (below_step HB.out hb); clear HO1256; clear BK1253; clear HB; have HO1256 := n0_; have BK1253 := n1_; have HB := n2_; clear n0_ n1_ n2_; (try clear hb); (try clear hb2); (try clear hk); (try clear hi)) | ((with_reducible refine gate_dst (N := 11) rfl ?_); refine box_event ?hg (N := 11) ?hd (cs := #[.int .i64 0, .int .i64 0, .int .i64 0]) (t := 60) ?hr ?_; (case hd => rfl); (case hg => rfl); (case hr => (go_simp; done)); intro gb1266 hg w33 hbox hb; have n0_ := Aside0.mk (Kd.R_below HO1256.out hb); have n1_ := Aside0.mk (blk_below (g := gb1253) (o := .cells #[.int .i64 0, .int .i64 0, .int .i64 0] 60 (0, 0)) BK1253.out hb); have n2_ := Aside0.mk (below_step HB.out hb); have n3_ := Aside0.mk (hbox); have n4_ := Aside0.mk ((by rw [hg]; exact (below_size HB.out) : w.heap.size ≤ gb1266)); have n5_ := Aside0.mk ((by rw [hg]; exact (below_size HB.out) : w.heap.size ≤ gb1266)); have n6_ := Aside0.mk ((by rw [hg]; exact Nat.ne_of_lt (blk_lt (g := gb1253) (o := .cells #[.int .i64 0, .int .i64 0, .int .i64 0] 60 (0, 0)) BK1253.out) : gb1253 ≠ gb1266)); have n7_ := Aside0.mk ((by rw [hg]; exact Nat.ne_of_gt (blk_lt (g := gb1253) (o := .cells #[.int .i64 0, .int .i64 0, .int .i64 0] 60 (0, 0)) BK1253.out) : gb1266 ≠ gb1253)); clear HO1256; clear BK1253; clear HB; have HO1256 := n0_; have BK1253 := n1_; have HB := n2_; have BK1266 := n3_; have GW1266 := n4_; have GE1266 := n5_; have NB1253_1266 := n6_; have NB1266_1253 := n7_; clear n0_ n1_ n2_ n3_ n4_ n5_ n6_ n7_; clear hb hbox hg; have hnb34 := NB1266_1253.out; have hnc34 := NB1253_1266.out; have hcz35_0 : w33.cell? ⟨gb1266, 0, none⟩ = some (.int .i64 0) := (blk_cell BK1266.out 0).trans rfl; have hcz35_1 : w33.cell? ⟨gb1266, 1, none⟩ = some (.int .i64 0) := (blk_cell BK1266.out 1).trans rfl; have hcz35_2 : w33.cell? ⟨gb1266, 2, none⟩ = some (.int .i64 0) := (blk_cell BK1266.out 2).trans rfl; have hfz35_0 := blk_frozen BK1266.out 0; have hfz35_1 := blk_frozen BK1266.out 1; have hfz35_2 := blk_frozen BK1266.out 2) | (go_at_call 196; (with_reducible refine (impl_IsValidRow.calls t1258 t1261 t1264 false _ A13.out).mono ?_); rintro e w36 ⟨rfl, hb⟩; have n0_ := Aside0.mk (Kd.R_below (by exact (Kd.R_mono (Kd.R_far (p := ⟨gb1266, 2, none⟩) (Kd.R_far (p := ⟨gb1266, 1, none⟩) (Kd.R_far (p := ⟨gb1266, 0, none⟩) (Kd.R_types HO1256.out BK1266.out (by decide)) (fun _ hk => hk.2) (.int .i64 t1258)) (fun _ hk => hk.2) (.int .i64 t1261)) (fun _ hk => hk.2) (.int .i64 t1264)) (fun _ h_ => h_.1))) hb); have n1_ := Aside0.mk (blk_below (g := gb1253) (o := .cells #[.int .i64 0, .int .i64 0, .int .i64 0] 60 (0, 0)) (by refine blk_far ?_ NB1253_1266.out _; refine blk_far ?_ NB1253_1266.out _; refine blk_far ?_ NB1253_1266.out _; exact BK1253.out) hb); have n2_ := Aside0.mk (blk_below (g := gb1266) (o := .cells #[.int .i64 t1258, .int .i64 t1261, .int .i64 t1264] 60 (0, 0)) (by refine blk_put (cs := #[.int .i64 t1258, .int .i64 t1261, .int .i64 0]) ?_ 2 _ rfl; refine blk_put (cs := #[.int .i64 t1258, .int .i64 0, .int .i64 0]) ?_ 1 _ rfl; refine blk_put (cs := #[.int .i64 0, .int .i64 0, .int .i64 0]) ?_ 0 _ rfl; exact BK1266.out) hb); have n3_ := Aside0.mk (below_step (by repeat (with_reducible first | exact HB.out | refine below_set ?_ GE1266.out)) hb); clear HO1256; clear BK1253; clear BK1266; clear HB; have HO1256 := n0_; have BK1253 := n1_; have BK1266 := n2_; have HB := n3_; clear n0_ n1_ n2_ n3_; (try clear hb); (try clear hb2); (try clear hk); (try clear hi); have hcz37_0 : w36.cell? ⟨gb1253, 0, none⟩ = some (.int .i64 0) := (blk_cell BK1253.out 0).trans rfl; have hcz37_1 : w36.cell? ⟨gb1253, 1, none⟩ = some (.int .i64 0) := (blk_cell BK1253.out 1).trans rfl; have hcz37_2 : w36.cell? ⟨gb1253, 2, none⟩ = some (.int .i64 0) := (blk_cell BK1253.out 2).trans rfl; have hfz37_0 := blk_frozen BK1253.out 0; have hfz37_1 := blk_frozen BK1253.out 1; have hfz37_2 := blk_frozen BK1253.out 2))
         refine bodyPost_ret (results_ct rfl _ _ gb1253 60 #[.int .i64 0, .int .i64 0, .int .i64 0] (0, 0) _ rfl (by refine blk_put (cs := #[.int .i64 0, .int .i64 0, .int .i64 0]) ?_ 2 _ rfl; refine blk_put (cs := #[.int .i64 0, .int .i64 0, .int .i64 0]) ?_ 1 _ rfl; refine blk_put (cs := #[.int .i64 0, .int .i64 0, .int .i64 0]) ?_ 0 _ rfl; exact BK1253.out) Try.underlying60 rfl (by kernel_rfl)) rfl ?_
         exact ⟨rfl, by repeat ((with_reducible first | exact HB.out | refine below_set ?_ GE1253.out))⟩
       ·replace c12 := Bool.eq_false_iff.mpr c12
        subst c12
        rw [if_neg (show ¬ (false = true) by decide)] at H
        simp only [Option.some.injEq, Prod.mk.injEq] at H
        obtain ⟨rfl, rfl, rfl, rfl⟩ := H
        go_enter Try.func187, Try.ntmps187
        go_wp2_with (first | ((with_reducible refine gate_dst (N := 2) rfl ?_); refine box_event ?hg (N := 2) ?hd (cs := #[.int .i64 0, .int .i64 0, .int .i64 0]) (t := 60) ?hr ?_; (case hd => rfl); (case hg => rfl); (case hr => (go_simp; done)); intro gb1253 hg w38 hbox hb; have n0_ := Aside0.mk (below_step HB.out hb); have n1_ := Aside0.mk (hbox); have n2_ := Aside0.mk ((by rw [hg]; exact (below_size HB.out) : w.heap.size ≤ gb1253)); have n3_ := Aside0.mk ((by rw [hg]; exact (below_size HB.out) : w.heap.size ≤ gb1253)); clear HB; have HB := n0_; have BK1253 := n1_; have GW1253 := n2_; have GE1253 := n3_; clear n0_ n1_ n2_ n3_; clear hb hbox hg) | ((with_reducible refine gate_callee (f := 139) rfl ?_); refine goesL_ (some 13) rfl rfl Try.func139 (by kernel_rfl) rfl #[.string a0, .int .u8 46] rfl (by (try simp only [List.map_toArray, List.map_cons, List.map_nil]); rfl) ?_; (with_reducible refine (impl_cut.calls k a0 46 t1254 _ A2.out).mono ?_); rintro e w39 ⟨v1255, rfl, ho0, hb⟩; refine ⟨_, rfl, ?_⟩; have n0_ := Aside0.mk (Kd.R_lower ho0 (below_size HB.out)); have n1_ := Aside0.mk (blk_below (g := gb1253) (o := .cells #[.int .i64 0, .int .i64 0, .int .i64 0] 60 (0, 0)) BK1253.out hb); have n2_ := Aside0.mk (below_step HB.out hb); clear BK1253; clear HB; have HO1256 := n0_; have BK1253 := n1_; have HB := n2_; clear n0_ n1_ n2_; (try clear hb); (try clear hb2); (try clear hk); (try clear hi); (try clear ho0); obtain ⟨Ao40, co40, eo40⟩ := Kd.R_slice HO1256.out; subst eo40; have p1257 : 0 ≤ (0 : Int) := (by omega); have q1257 : 0 < (t1254.length : Int) := of_decide_eq_true (by (with_reducible assumption)); obtain ⟨ad1257, e1257, hx1257_0⟩ := Kd.at_string (Kd.R_reads' HO1256.out).2.2 0 p1257 q1257; cases e1257; have qi1257 : (0 < t1254.length) = True := eq_true (by omega); (try rw [show ((0 : Int)).toNat = 0 from rfl] at hx1257_0); (try rw [Addr.add_zero'] at hx1257_0); replace p1257 := eq_true p1257; replace q1257 := eq_true q1257) | ((with_reducible refine gate_callee (f := 140) rfl ?_); refine goesL_ (some 22) rfl rfl Try.func140 (by kernel_rfl) rfl #[.string (rdOf ByteArray.empty t1254 0)] rfl (by (try simp only [List.map_toArray, List.map_cons, List.map_nil]); rfl) ?_; (with_reducible refine (impl_ParseInt.calls k (rdOf ByteArray.empty t1254 0) t1258 true _ A5.out).mono ?_); rintro e w41 ⟨rfl, hb⟩; refine ⟨_, rfl, ?_⟩; have n0_ := Aside0.mk (Kd.R_below HO1256.out hb); have n1_ := Aside0.mk (blk_below (g := gb1253) (o := .cells #[.int .i64 0, .int .i64 0, .int .i64 0] 60 (0, 0)) BK1253.out hb); have n2_ := Aside0.mk (below_step HB.out hb); clear HO1256; clear BK1253; clear HB; have HO1256 := n0_; have BK1253 := n1_; have HB := n2_; clear n0_ n1_ n2_; (try clear hb); (try clear hb2); (try clear hk); (try clear hi); have p1260 : 0 ≤ (1 : Int) := (by omega); have q1260 : 1 < (t1254.length : Int) := of_decide_eq_true (by (with_reducible assumption)); obtain ⟨ad1260, e1260, hx1260_0⟩ := Kd.at_string (Kd.R_reads' HO1256.out).2.2 1 p1260 q1260; obtain rfl : ad1257 = ad1260 := (by injection e1260); (try simp only [show (1 : Int).toNat = 1 from rfl, Nat.reduceMul, Nat.reduceEqDiff, Go.Addr.add, ↓reduceIte] at hx1260_0); have qi1260 : (1 < t1254.length) = True := eq_true (by omega); (try rw [show ((1 : Int)).toNat = 1 from rfl] at hx1260_0); replace p1260 := eq_true p1260; replace q1260 := eq_true q1260) | ((with_reducible refine gate_callee (f := 140) rfl ?_); refine goesL_ (some 29) rfl rfl Try.func140 (by kernel_rfl) rfl #[.string (rdOf ByteArray.empty t1254 1)] rfl (by (try simp only [List.map_toArray, List.map_cons, List.map_nil]); rfl) ?_; (with_reducible refine (impl_ParseInt.calls k (rdOf ByteArray.empty t1254 1) t1261 true _ A7.out).mono ?_); rintro e w42 ⟨rfl, hb⟩; refine ⟨_, rfl, ?_⟩; have n0_ := Aside0.mk (Kd.R_below HO1256.out hb); have n1_ := Aside0.mk (blk_below (g := gb1253) (o := .cells #[.int .i64 0, .int .i64 0, .int .i64 0] 60 (0, 0)) BK1253.out hb); have n2_ := Aside0.mk (below_step HB.out hb); clear HO1256; clear BK1253; clear HB; have HO1256 := n0_; have BK1253 := n1_; have HB := n2_; clear n0_ n1_ n2_; (try clear hb); (try clear hb2); (try clear hk); (try clear hi); have p1263 : 0 ≤ (2 : Int) := (by omega); have q1263 : 2 < (t1254.length : Int) := of_decide_eq_true (by (with_reducible assumption)); obtain ⟨ad1263, e1263, hx1263_0⟩ := Kd.at_string (Kd.R_reads' HO1256.out).2.2 2 p1263 q1263; obtain rfl : ad1257 = ad1263 := (by injection e1263); (try simp only [show (2 : Int).toNat = 2 from rfl, Nat.reduceMul, Nat.reduceEqDiff, Go.Addr.add, ↓reduceIte] at hx1263_0); have qi1263 : (2 < t1254.length) = True := eq_true (by omega); (try rw [show ((2 : Int)).toNat = 2 from rfl] at hx1263_0); replace p1263 := eq_true p1263; replace q1263 := eq_true q1263) | ((with_reducible refine gate_callee (f := 140) rfl ?_); refine goesL_ (some 36) rfl rfl Try.func140 (by kernel_rfl) rfl #[.string (rdOf ByteArray.empty t1254 2)] rfl (by (try simp only [List.map_toArray, List.map_cons, List.map_nil]); rfl) ?_; (with_reducible refine (impl_ParseInt.calls k (rdOf ByteArray.empty t1254 2) t1264 false _ A9.out).mono ?_); rintro e w43 ⟨rfl, hb⟩; refine ⟨_, rfl, ?_⟩; have n0_ := Aside0.mk (Kd.R_below HO1256.out hb); have n1_ := Aside0.mk (blk_below (g := gb1253) (o := .cells #[.int .i64 0, .int .i64 0, .int .i64 0] 60 (0, 0)) BK1253.out hb); have n2_ := Aside0.mk (below_step HB.out hb); clear HO1256; clear BK1253; clear HB; have HO1256 := n0_; have BK1253 := n1_; have HB := n2_; clear n0_ n1_ n2_; (try clear hb); (try clear hb2); (try clear hk); (try clear hi)) | ((with_reducible refine gate_dst (N := 11) rfl ?_); refine box_event ?hg (N := 11) ?hd (cs := #[.int .i64 0, .int .i64 0, .int .i64 0]) (t := 60) ?hr ?_; (case hd => rfl); (case hg => rfl); (case hr => (go_simp; done)); intro gb1266 hg w44 hbox hb; have n0_ := Aside0.mk (Kd.R_below HO1256.out hb); have n1_ := Aside0.mk (blk_below (g := gb1253) (o := .cells #[.int .i64 0, .int .i64 0, .int .i64 0] 60 (0, 0)) BK1253.out hb); have n2_ := Aside0.mk (below_step HB.out hb); have n3_ := Aside0.mk (hbox); have n4_ := Aside0.mk ((by rw [hg]; exact (below_size HB.out) : w.heap.size ≤ gb1266)); have n5_ := Aside0.mk ((by rw [hg]; exact (below_size HB.out) : w.heap.size ≤ gb1266)); have n6_ := Aside0.mk ((by rw [hg]; exact Nat.ne_of_lt (blk_lt (g := gb1253) (o := .cells #[.int .i64 0, .int .i64 0, .int .i64 0] 60 (0, 0)) BK1253.out) : gb1253 ≠ gb1266)); have n7_ := Aside0.mk ((by rw [hg]; exact Nat.ne_of_gt (blk_lt (g := gb1253) (o := .cells #[.int .i64 0, .int .i64 0, .int .i64 0] 60 (0, 0)) BK1253.out) : gb1266 ≠ gb1253)); clear HO1256; clear BK1253; clear HB; have HO1256 := n0_; have BK1253 := n1_; have HB := n2_; have BK1266 := n3_; have GW1266 := n4_; have GE1266 := n5_; have NB1253_1266 := n6_; have NB1266_1253 := n7_; clear n0_ n1_ n2_ n3_ n4_ n5_ n6_ n7_; clear hb hbox hg; have hnb45 := NB1266_1253.out; have hnc45 := NB1253_1266.out; have hcz46_0 : w44.cell? ⟨gb1266, 0, none⟩ = some (.int .i64 0) := (blk_cell BK1266.out 0).trans rfl; have hcz46_1 : w44.cell? ⟨gb1266, 1, none⟩ = some (.int .i64 0) := (blk_cell BK1266.out 1).trans rfl; have hcz46_2 : w44.cell? ⟨gb1266, 2, none⟩ = some (.int .i64 0) := (blk_cell BK1266.out 2).trans rfl; have hfz46_0 := blk_frozen BK1266.out 0; have hfz46_1 := blk_frozen BK1266.out 1; have hfz46_2 := blk_frozen BK1266.out 2; have hcz47_0 : w44.cell? ⟨gb1253, 0, none⟩ = some (.int .i64 0) := (blk_cell BK1253.out 0).trans rfl; have hcz47_1 : w44.cell? ⟨gb1253, 1, none⟩ = some (.int .i64 0) := (blk_cell BK1253.out 1).trans rfl; have hcz47_2 : w44.cell? ⟨gb1253, 2, none⟩ = some (.int .i64 0) := (blk_cell BK1253.out 2).trans rfl; have hfz47_0 := blk_frozen BK1253.out 0; have hfz47_1 := blk_frozen BK1253.out 1; have hfz47_2 := blk_frozen BK1253.out 2))
        refine bodyPost_ret (results_ct rfl _ _ gb1253 60 #[.int .i64 0, .int .i64 0, .int .i64 0] (0, 0) _ rfl (by refine blk_put (cs := #[.int .i64 0, .int .i64 0, .int .i64 0]) ?_ 2 _ rfl; refine blk_put (cs := #[.int .i64 0, .int .i64 0, .int .i64 0]) ?_ 1 _ rfl; refine blk_put (cs := #[.int .i64 0, .int .i64 0, .int .i64 0]) ?_ 0 _ rfl; refine blk_far ?_ NB1253_1266.out _; refine blk_far ?_ NB1253_1266.out _; refine blk_far ?_ NB1253_1266.out _; exact BK1253.out) Try.underlying60 rfl (by kernel_rfl)) rfl ?_
        exact ⟨rfl, by repeat ((with_reducible first | exact HB.out | refine below_set ?_ GE1253.out | refine below_set ?_ GE1266.out))⟩
      ·replace c11 := Bool.eq_false_iff.mpr c11
       subst c11
       rw [if_neg (show ¬ (false = true) by decide)] at H
       simp only [Option.some.injEq, Prod.mk.injEq] at H
       obtain ⟨rfl, rfl, rfl, rfl⟩ := H
       go_enter Try.func187, Try.ntmps187
       go_wp2_with (first | ((with_reducible refine gate_dst (N := 2) rfl ?_); refine box_event ?hg (N := 2) ?hd (cs := #[.int .i64 0, .int .i64 0, .int .i64 0]) (t := 60) ?hr ?_; (case hd => rfl); (case hg => rfl); (case hr => (go_simp; done)); intro gb1253 hg w48 hbox hb; have n0_ := Aside0.mk (below_step HB.out hb); have n1_ := Aside0.mk (hbox); have n2_ := Aside0.mk ((by rw [hg]; exact (below_size HB.out) : w.heap.size ≤ gb1253)); have n3_ := Aside0.mk ((by rw [hg]; exact (below_size HB.out) : w.heap.size ≤ gb1253)); clear HB; have HB := n0_; have BK1253 := n1_; have GW1253 := n2_; have GE1253 := n3_; clear n0_ n1_ n2_ n3_; clear hb hbox hg) | ((with_reducible refine gate_callee (f := 139) rfl ?_); refine goesL_ (some 13) rfl rfl Try.func139 (by kernel_rfl) rfl #[.string a0, .int .u8 46] rfl (by (try simp only [List.map_toArray, List.map_cons, List.map_nil]); rfl) ?_; (with_reducible refine (impl_cut.calls k a0 46 t1254 _ A2.out).mono ?_); rintro e w49 ⟨v1255, rfl, ho0, hb⟩; refine ⟨_, rfl, ?_⟩; have n0_ := Aside0.mk (Kd.R_lower ho0 (below_size HB.out)); have n1_ := Aside0.mk (blk_below (g := gb1253) (o := .cells #[.int .i64 0, .int .i64 0, .int .i64 0] 60 (0, 0)) BK1253.out hb); have n2_ := Aside0.mk (below_step HB.out hb); clear BK1253; clear HB; have HO1256 := n0_; have BK1253 := n1_; have HB := n2_; clear n0_ n1_ n2_; (try clear hb); (try clear hb2); (try clear hk); (try clear hi); (try clear ho0); obtain ⟨Ao50, co50, eo50⟩ := Kd.R_slice HO1256.out; subst eo50; have p1257 : 0 ≤ (0 : Int) := (by omega); have q1257 : 0 < (t1254.length : Int) := of_decide_eq_true (by (with_reducible assumption)); obtain ⟨ad1257, e1257, hx1257_0⟩ := Kd.at_string (Kd.R_reads' HO1256.out).2.2 0 p1257 q1257; cases e1257; have qi1257 : (0 < t1254.length) = True := eq_true (by omega); (try rw [show ((0 : Int)).toNat = 0 from rfl] at hx1257_0); (try rw [Addr.add_zero'] at hx1257_0); replace p1257 := eq_true p1257; replace q1257 := eq_true q1257) | ((with_reducible refine gate_callee (f := 140) rfl ?_); refine goesL_ (some 22) rfl rfl Try.func140 (by kernel_rfl) rfl #[.string (rdOf ByteArray.empty t1254 0)] rfl (by (try simp only [List.map_toArray, List.map_cons, List.map_nil]); rfl) ?_; (with_reducible refine (impl_ParseInt.calls k (rdOf ByteArray.empty t1254 0) t1258 true _ A5.out).mono ?_); rintro e w51 ⟨rfl, hb⟩; refine ⟨_, rfl, ?_⟩; have n0_ := Aside0.mk (Kd.R_below HO1256.out hb); have n1_ := Aside0.mk (blk_below (g := gb1253) (o := .cells #[.int .i64 0, .int .i64 0, .int .i64 0] 60 (0, 0)) BK1253.out hb); have n2_ := Aside0.mk (below_step HB.out hb); clear HO1256; clear BK1253; clear HB; have HO1256 := n0_; have BK1253 := n1_; have HB := n2_; clear n0_ n1_ n2_; (try clear hb); (try clear hb2); (try clear hk); (try clear hi); have p1260 : 0 ≤ (1 : Int) := (by omega); have q1260 : 1 < (t1254.length : Int) := of_decide_eq_true (by (with_reducible assumption)); obtain ⟨ad1260, e1260, hx1260_0⟩ := Kd.at_string (Kd.R_reads' HO1256.out).2.2 1 p1260 q1260; obtain rfl : ad1257 = ad1260 := (by injection e1260); (try simp only [show (1 : Int).toNat = 1 from rfl, Nat.reduceMul, Nat.reduceEqDiff, Go.Addr.add, ↓reduceIte] at hx1260_0); have qi1260 : (1 < t1254.length) = True := eq_true (by omega); (try rw [show ((1 : Int)).toNat = 1 from rfl] at hx1260_0); replace p1260 := eq_true p1260; replace q1260 := eq_true q1260) | ((with_reducible refine gate_callee (f := 140) rfl ?_); refine goesL_ (some 29) rfl rfl Try.func140 (by kernel_rfl) rfl #[.string (rdOf ByteArray.empty t1254 1)] rfl (by (try simp only [List.map_toArray, List.map_cons, List.map_nil]); rfl) ?_; (with_reducible refine (impl_ParseInt.calls k (rdOf ByteArray.empty t1254 1) t1261 false _ A7.out).mono ?_); rintro e w52 ⟨rfl, hb⟩; refine ⟨_, rfl, ?_⟩; have n0_ := Aside0.mk (Kd.R_below HO1256.out hb); have n1_ := Aside0.mk (blk_below (g := gb1253) (o := .cells #[.int .i64 0, .int .i64 0, .int .i64 0] 60 (0, 0)) BK1253.out hb); have n2_ := Aside0.mk (below_step HB.out hb); clear HO1256; clear BK1253; clear HB; have HO1256 := n0_; have BK1253 := n1_; have HB := n2_; clear n0_ n1_ n2_; (try clear hb); (try clear hb2); (try clear hk); (try clear hi); have p1263 : 0 ≤ (2 : Int) := (by omega); have q1263 : 2 < (t1254.length : Int) := of_decide_eq_true (by (with_reducible assumption)); obtain ⟨ad1263, e1263, hx1263_0⟩ := Kd.at_string (Kd.R_reads' HO1256.out).2.2 2 p1263 q1263; obtain rfl : ad1257 = ad1263 := (by injection e1263); (try simp only [show (2 : Int).toNat = 2 from rfl, Nat.reduceMul, Nat.reduceEqDiff, Go.Addr.add, ↓reduceIte] at hx1263_0); have qi1263 : (2 < t1254.length) = True := eq_true (by omega); (try rw [show ((2 : Int)).toNat = 2 from rfl] at hx1263_0); replace p1263 := eq_true p1263; replace q1263 := eq_true q1263) | ((with_reducible refine gate_callee (f := 140) rfl ?_); refine goesL_ (some 36) rfl rfl Try.func140 (by kernel_rfl) rfl #[.string (rdOf ByteArray.empty t1254 2)] rfl (by (try simp only [List.map_toArray, List.map_cons, List.map_nil]); rfl) ?_; (with_reducible refine (impl_ParseInt.calls k (rdOf ByteArray.empty t1254 2) t1264 t1265 _ A9.out).mono ?_); rintro e w53 ⟨rfl, hb⟩; refine ⟨_, rfl, ?_⟩; have n0_ := Aside0.mk (Kd.R_below HO1256.out hb); have n1_ := Aside0.mk (blk_below (g := gb1253) (o := .cells #[.int .i64 0, .int .i64 0, .int .i64 0] 60 (0, 0)) BK1253.out hb); have n2_ := Aside0.mk (below_step HB.out hb); clear HO1256; clear BK1253; clear HB; have HO1256 := n0_; have BK1253 := n1_; have HB := n2_; clear n0_ n1_ n2_; (try clear hb); (try clear hb2); (try clear hk); (try clear hi)) | ((with_reducible refine gate_dst (N := 11) rfl ?_); refine box_event ?hg (N := 11) ?hd (cs := #[.int .i64 0, .int .i64 0, .int .i64 0]) (t := 60) ?hr ?_; (case hd => rfl); (case hg => rfl); (case hr => (go_simp; done)); intro gb1266 hg w54 hbox hb; have n0_ := Aside0.mk (Kd.R_below HO1256.out hb); have n1_ := Aside0.mk (blk_below (g := gb1253) (o := .cells #[.int .i64 0, .int .i64 0, .int .i64 0] 60 (0, 0)) BK1253.out hb); have n2_ := Aside0.mk (below_step HB.out hb); have n3_ := Aside0.mk (hbox); have n4_ := Aside0.mk ((by rw [hg]; exact (below_size HB.out) : w.heap.size ≤ gb1266)); have n5_ := Aside0.mk ((by rw [hg]; exact (below_size HB.out) : w.heap.size ≤ gb1266)); have n6_ := Aside0.mk ((by rw [hg]; exact Nat.ne_of_lt (blk_lt (g := gb1253) (o := .cells #[.int .i64 0, .int .i64 0, .int .i64 0] 60 (0, 0)) BK1253.out) : gb1253 ≠ gb1266)); have n7_ := Aside0.mk ((by rw [hg]; exact Nat.ne_of_gt (blk_lt (g := gb1253) (o := .cells #[.int .i64 0, .int .i64 0, .int .i64 0] 60 (0, 0)) BK1253.out) : gb1266 ≠ gb1253)); clear HO1256; clear BK1253; clear HB; have HO1256 := n0_; have BK1253 := n1_; have HB := n2_; have BK1266 := n3_; have GW1266 := n4_; have GE1266 := n5_; have NB1253_1266 := n6_; have NB1266_1253 := n7_; clear n0_ n1_ n2_ n3_ n4_ n5_ n6_ n7_; clear hb hbox hg; have hnb55 := NB1266_1253.out; have hnc55 := NB1253_1266.out; have hcz56_0 : w54.cell? ⟨gb1266, 0, none⟩ = some (.int .i64 0) := (blk_cell BK1266.out 0).trans rfl; have hcz56_1 : w54.cell? ⟨gb1266, 1, none⟩ = some (.int .i64 0) := (blk_cell BK1266.out 1).trans rfl; have hcz56_2 : w54.cell? ⟨gb1266, 2, none⟩ = some (.int .i64 0) := (blk_cell BK1266.out 2).trans rfl; have hfz56_0 := blk_frozen BK1266.out 0; have hfz56_1 := blk_frozen BK1266.out 1; have hfz56_2 := blk_frozen BK1266.out 2; have hcz57_0 : w54.cell? ⟨gb1253, 0, none⟩ = some (.int .i64 0) := (blk_cell BK1253.out 0).trans rfl; have hcz57_1 : w54.cell? ⟨gb1253, 1, none⟩ = some (.int .i64 0) := (blk_cell BK1253.out 1).trans rfl; have hcz57_2 : w54.cell? ⟨gb1253, 2, none⟩ = some (.int .i64 0) := (blk_cell BK1253.out 2).trans rfl; have hfz57_0 := blk_frozen BK1253.out 0; have hfz57_1 := blk_frozen BK1253.out 1; have hfz57_2 := blk_frozen BK1253.out 2))
       refine bodyPost_ret (results_ct rfl _ _ gb1253 60 #[.int .i64 0, .int .i64 0, .int .i64 0] (0, 0) _ rfl (by refine blk_put (cs := #[.int .i64 0, .int .i64 0, .int .i64 0]) ?_ 2 _ rfl; refine blk_put (cs := #[.int .i64 0, .int .i64 0, .int .i64 0]) ?_ 1 _ rfl; refine blk_put (cs := #[.int .i64 0, .int .i64 0, .int .i64 0]) ?_ 0 _ rfl; refine blk_far ?_ NB1253_1266.out _; refine blk_far ?_ NB1253_1266.out _; refine blk_far ?_ NB1253_1266.out _; exact BK1253.out) Try.underlying60 rfl (by kernel_rfl)) rfl ?_
       exact ⟨rfl, by repeat ((with_reducible first | exact HB.out | refine below_set ?_ GE1253.out | refine below_set ?_ GE1266.out))⟩
     ·replace c10 := Bool.eq_false_iff.mpr c10
      subst c10
      rw [if_neg (show ¬ (false = true) by decide)] at H
      simp only [Option.some.injEq, Prod.mk.injEq] at H
      obtain ⟨rfl, rfl, rfl, rfl⟩ := H
      go_enter Try.func187, Try.ntmps187
      go_wp2_with (first | ((with_reducible refine gate_dst (N := 2) rfl ?_); refine box_event ?hg (N := 2) ?hd (cs := #[.int .i64 0, .int .i64 0, .int .i64 0]) (t := 60) ?hr ?_; (case hd => rfl); (case hg => rfl); (case hr => (go_simp; done)); intro gb1253 hg w58 hbox hb; have n0_ := Aside0.mk (below_step HB.out hb); have n1_ := Aside0.mk (hbox); have n2_ := Aside0.mk ((by rw [hg]; exact (below_size HB.out) : w.heap.size ≤ gb1253)); have n3_ := Aside0.mk ((by rw [hg]; exact (below_size HB.out) : w.heap.size ≤ gb1253)); clear HB; have HB := n0_; have BK1253 := n1_; have GW1253 := n2_; have GE1253 := n3_; clear n0_ n1_ n2_ n3_; clear hb hbox hg) | ((with_reducible refine gate_callee (f := 139) rfl ?_); refine goesL_ (some 13) rfl rfl Try.func139 (by kernel_rfl) rfl #[.string a0, .int .u8 46] rfl (by (try simp only [List.map_toArray, List.map_cons, List.map_nil]); rfl) ?_; (with_reducible refine (impl_cut.calls k a0 46 t1254 _ A2.out).mono ?_); rintro e w59 ⟨v1255, rfl, ho0, hb⟩; refine ⟨_, rfl, ?_⟩; have n0_ := Aside0.mk (Kd.R_lower ho0 (below_size HB.out)); have n1_ := Aside0.mk (blk_below (g := gb1253) (o := .cells #[.int .i64 0, .int .i64 0, .int .i64 0] 60 (0, 0)) BK1253.out hb); have n2_ := Aside0.mk (below_step HB.out hb); clear BK1253; clear HB; have HO1256 := n0_; have BK1253 := n1_; have HB := n2_; clear n0_ n1_ n2_; (try clear hb); (try clear hb2); (try clear hk); (try clear hi); (try clear ho0); obtain ⟨Ao60, co60, eo60⟩ := Kd.R_slice HO1256.out; subst eo60; have p1257 : 0 ≤ (0 : Int) := (by omega); have q1257 : 0 < (t1254.length : Int) := of_decide_eq_true (by (with_reducible assumption)); obtain ⟨ad1257, e1257, hx1257_0⟩ := Kd.at_string (Kd.R_reads' HO1256.out).2.2 0 p1257 q1257; cases e1257; have qi1257 : (0 < t1254.length) = True := eq_true (by omega); (try rw [show ((0 : Int)).toNat = 0 from rfl] at hx1257_0); (try rw [Addr.add_zero'] at hx1257_0); replace p1257 := eq_true p1257; replace q1257 := eq_true q1257) | ((with_reducible refine gate_callee (f := 140) rfl ?_); refine goesL_ (some 22) rfl rfl Try.func140 (by kernel_rfl) rfl #[.string (rdOf ByteArray.empty t1254 0)] rfl (by (try simp only [List.map_toArray, List.map_cons, List.map_nil]); rfl) ?_; (with_reducible refine (impl_ParseInt.calls k (rdOf ByteArray.empty t1254 0) t1258 false _ A5.out).mono ?_); rintro e w61 ⟨rfl, hb⟩; refine ⟨_, rfl, ?_⟩; have n0_ := Aside0.mk (Kd.R_below HO1256.out hb); have n1_ := Aside0.mk (blk_below (g := gb1253) (o := .cells #[.int .i64 0, .int .i64 0, .int .i64 0] 60 (0, 0)) BK1253.out hb); have n2_ := Aside0.mk (below_step HB.out hb); clear HO1256; clear BK1253; clear HB; have HO1256 := n0_; have BK1253 := n1_; have HB := n2_; clear n0_ n1_ n2_; (try clear hb); (try clear hb2); (try clear hk); (try clear hi); have p1260 : 0 ≤ (1 : Int) := (by omega); have q1260 : 1 < (t1254.length : Int) := of_decide_eq_true (by (with_reducible assumption)); obtain ⟨ad1260, e1260, hx1260_0⟩ := Kd.at_string (Kd.R_reads' HO1256.out).2.2 1 p1260 q1260; obtain rfl : ad1257 = ad1260 := (by injection e1260); (try simp only [show (1 : Int).toNat = 1 from rfl, Nat.reduceMul, Nat.reduceEqDiff, Go.Addr.add, ↓reduceIte] at hx1260_0); have qi1260 : (1 < t1254.length) = True := eq_true (by omega); (try rw [show ((1 : Int)).toNat = 1 from rfl] at hx1260_0); replace p1260 := eq_true p1260; replace q1260 := eq_true q1260) | ((with_reducible refine gate_callee (f := 140) rfl ?_); refine goesL_ (some 29) rfl rfl Try.func140 (by kernel_rfl) rfl #[.string (rdOf ByteArray.empty t1254 1)] rfl (by (try simp only [List.map_toArray, List.map_cons, List.map_nil]); rfl) ?_; (with_reducible refine (impl_ParseInt.calls k (rdOf ByteArray.empty t1254 1) t1261 t1262 _ A7.out).mono ?_); rintro e w62 ⟨rfl, hb⟩; refine ⟨_, rfl, ?_⟩; have n0_ := Aside0.mk (Kd.R_below HO1256.out hb); have n1_ := Aside0.mk (blk_below (g := gb1253) (o := .cells #[.int .i64 0, .int .i64 0, .int .i64 0] 60 (0, 0)) BK1253.out hb); have n2_ := Aside0.mk (below_step HB.out hb); clear HO1256; clear BK1253; clear HB; have HO1256 := n0_; have BK1253 := n1_; have HB := n2_; clear n0_ n1_ n2_; (try clear hb); (try clear hb2); (try clear hk); (try clear hi); have p1263 : 0 ≤ (2 : Int) := (by omega); have q1263 : 2 < (t1254.length : Int) := of_decide_eq_true (by (with_reducible assumption)); obtain ⟨ad1263, e1263, hx1263_0⟩ := Kd.at_string (Kd.R_reads' HO1256.out).2.2 2 p1263 q1263; obtain rfl : ad1257 = ad1263 := (by injection e1263); (try simp only [show (2 : Int).toNat = 2 from rfl, Nat.reduceMul, Nat.reduceEqDiff, Go.Addr.add, ↓reduceIte] at hx1263_0); have qi1263 : (2 < t1254.length) = True := eq_true (by omega); (try rw [show ((2 : Int)).toNat = 2 from rfl] at hx1263_0); replace p1263 := eq_true p1263; replace q1263 := eq_true q1263) | ((with_reducible refine gate_callee (f := 140) rfl ?_); refine goesL_ (some 36) rfl rfl Try.func140 (by kernel_rfl) rfl #[.string (rdOf ByteArray.empty t1254 2)] rfl (by (try simp only [List.map_toArray, List.map_cons, List.map_nil]); rfl) ?_; (with_reducible refine (impl_ParseInt.calls k (rdOf ByteArray.empty t1254 2) t1264 t1265 _ A9.out).mono ?_); rintro e w63 ⟨rfl, hb⟩; refine ⟨_, rfl, ?_⟩; have n0_ := Aside0.mk (Kd.R_below HO1256.out hb); have n1_ := Aside0.mk (blk_below (g := gb1253) (o := .cells #[.int .i64 0, .int .i64 0, .int .i64 0] 60 (0, 0)) BK1253.out hb); have n2_ := Aside0.mk (below_step HB.out hb); clear HO1256; clear BK1253; clear HB; have HO1256 := n0_; have BK1253 := n1_; have HB := n2_; clear n0_ n1_ n2_; (try clear hb); (try clear hb2); (try clear hk); (try clear hi)) | ((with_reducible refine gate_dst (N := 11) rfl ?_); refine box_event ?hg (N := 11) ?hd (cs := #[.int .i64 0, .int .i64 0, .int .i64 0]) (t := 60) ?hr ?_; (case hd => rfl); (case hg => rfl); (case hr => (go_simp; done)); intro gb1266 hg w64 hbox hb; have n0_ := Aside0.mk (Kd.R_below HO1256.out hb); have n1_ := Aside0.mk (blk_below (g := gb1253) (o := .cells #[.int .i64 0, .int .i64 0, .int .i64 0] 60 (0, 0)) BK1253.out hb); have n2_ := Aside0.mk (below_step HB.out hb); have n3_ := Aside0.mk (hbox); have n4_ := Aside0.mk ((by rw [hg]; exact (below_size HB.out) : w.heap.size ≤ gb1266)); have n5_ := Aside0.mk ((by rw [hg]; exact (below_size HB.out) : w.heap.size ≤ gb1266)); have n6_ := Aside0.mk ((by rw [hg]; exact Nat.ne_of_lt (blk_lt (g := gb1253) (o := .cells #[.int .i64 0, .int .i64 0, .int .i64 0] 60 (0, 0)) BK1253.out) : gb1253 ≠ gb1266)); have n7_ := Aside0.mk ((by rw [hg]; exact Nat.ne_of_gt (blk_lt (g := gb1253) (o := .cells #[.int .i64 0, .int .i64 0, .int .i64 0] 60 (0, 0)) BK1253.out) : gb1266 ≠ gb1253)); clear HO1256; clear BK1253; clear HB; have HO1256 := n0_; have BK1253 := n1_; have HB := n2_; have BK1266 := n3_; have GW1266 := n4_; have GE1266 := n5_; have NB1253_1266 := n6_; have NB1266_1253 := n7_; clear n0_ n1_ n2_ n3_ n4_ n5_ n6_ n7_; clear hb hbox hg; have hnb65 := NB1266_1253.out; have hnc65 := NB1253_1266.out; have hcz66_0 : w64.cell? ⟨gb1266, 0, none⟩ = some (.int .i64 0) := (blk_cell BK1266.out 0).trans rfl; have hcz66_1 : w64.cell? ⟨gb1266, 1, none⟩ = some (.int .i64 0) := (blk_cell BK1266.out 1).trans rfl; have hcz66_2 : w64.cell? ⟨gb1266, 2, none⟩ = some (.int .i64 0) := (blk_cell BK1266.out 2).trans rfl; have hfz66_0 := blk_frozen BK1266.out 0; have hfz66_1 := blk_frozen BK1266.out 1; have hfz66_2 := blk_frozen BK1266.out 2; have hcz67_0 : w64.cell? ⟨gb1253, 0, none⟩ = some (.int .i64 0) := (blk_cell BK1253.out 0).trans rfl; have hcz67_1 : w64.cell? ⟨gb1253, 1, none⟩ = some (.int .i64 0) := (blk_cell BK1253.out 1).trans rfl; have hcz67_2 : w64.cell? ⟨gb1253, 2, none⟩ = some (.int .i64 0) := (blk_cell BK1253.out 2).trans rfl; have hfz67_0 := blk_frozen BK1253.out 0; have hfz67_1 := blk_frozen BK1253.out 1; have hfz67_2 := blk_frozen BK1253.out 2))
      refine bodyPost_ret (results_ct rfl _ _ gb1253 60 #[.int .i64 0, .int .i64 0, .int .i64 0] (0, 0) _ rfl (by refine blk_put (cs := #[.int .i64 0, .int .i64 0, .int .i64 0]) ?_ 2 _ rfl; refine blk_put (cs := #[.int .i64 0, .int .i64 0, .int .i64 0]) ?_ 1 _ rfl; refine blk_put (cs := #[.int .i64 0, .int .i64 0, .int .i64 0]) ?_ 0 _ rfl; refine blk_far ?_ NB1253_1266.out _; refine blk_far ?_ NB1253_1266.out _; refine blk_far ?_ NB1253_1266.out _; exact BK1253.out) Try.underlying60 rfl (by kernel_rfl)) rfl ?_
      exact ⟨rfl, by repeat ((with_reducible first | exact HB.out | refine below_set ?_ GE1253.out | refine below_set ?_ GE1266.out))⟩
    ·rw [if_neg c8] at H
     exact absurd H (by simp)
   ·rw [if_neg c6] at H
    exact absurd H (by simp)
  ·rw [if_neg c4] at H
   exact absurd H (by simp)
 ·rw [if_neg c3] at H
  have c3b0 : ((t1254.length : Int) == 3) = false := beq_eq_false_iff_ne.mpr c3
  have c3b1 : ((t1254.length : Int) != 3) = true := bne_iff_ne.mpr c3
  simp only [Option.some.injEq, Prod.mk.injEq] at H
  obtain ⟨rfl, rfl, rfl, rfl⟩ := H
  go_enter Try.func187, Try.ntmps187
  go_wp2_with (first | ((with_reducible refine gate_dst (N := 2) rfl ?_); refine box_event ?hg (N := 2) ?hd (cs := #[.int .i64 0, .int .i64 0, .int .i64 0]) (t := 60) ?hr ?_; (case hd => rfl); (case hg => rfl); (case hr => (go_simp; done)); intro gb1253 hg w68 hbox hb; have n0_ := Aside0.mk (below_step HB.out hb); have n1_ := Aside0.mk (hbox); have n2_ := Aside0.mk ((by rw [hg]; exact (below_size HB.out) : w.heap.size ≤ gb1253)); have n3_ := Aside0.mk ((by rw [hg]; exact (below_size HB.out) : w.heap.size ≤ gb1253)); clear HB; have HB := n0_; have BK1253 := n1_; have GW1253 := n2_; have GE1253 := n3_; clear n0_ n1_ n2_ n3_; clear hb hbox hg) | ((with_reducible refine gate_callee (f := 139) rfl ?_); refine goesL_ (some 13) rfl rfl Try.func139 (by kernel_rfl) rfl #[.string a0, .int .u8 46] rfl (by (try simp only [List.map_toArray, List.map_cons, List.map_nil]); rfl) ?_; (with_reducible refine (impl_cut.calls k a0 46 t1254 _ A2.out).mono ?_); rintro e w69 ⟨v1255, rfl, ho0, hb⟩; refine ⟨_, rfl, ?_⟩; have n0_ := Aside0.mk (Kd.R_lower ho0 (below_size HB.out)); have n1_ := Aside0.mk (blk_below (g := gb1253) (o := .cells #[.int .i64 0, .int .i64 0, .int .i64 0] 60 (0, 0)) BK1253.out hb); have n2_ := Aside0.mk (below_step HB.out hb); clear BK1253; clear HB; have HO1256 := n0_; have BK1253 := n1_; have HB := n2_; clear n0_ n1_ n2_; (try clear hb); (try clear hb2); (try clear hk); (try clear hi); (try clear ho0); obtain ⟨Ao70, co70, eo70⟩ := Kd.R_slice HO1256.out; subst eo70; have hcz71_0 : w69.cell? ⟨gb1253, 0, none⟩ = some (.int .i64 0) := (blk_cell BK1253.out 0).trans rfl; have hcz71_1 : w69.cell? ⟨gb1253, 1, none⟩ = some (.int .i64 0) := (blk_cell BK1253.out 1).trans rfl; have hcz71_2 : w69.cell? ⟨gb1253, 2, none⟩ = some (.int .i64 0) := (blk_cell BK1253.out 2).trans rfl; have hfz71_0 := blk_frozen BK1253.out 0; have hfz71_1 := blk_frozen BK1253.out 1; have hfz71_2 := blk_frozen BK1253.out 2))
  refine bodyPost_ret (results_ct rfl _ _ gb1253 60 #[.int .i64 0, .int .i64 0, .int .i64 0] (0, 0) _ rfl (by refine blk_put (cs := #[.int .i64 0, .int .i64 0, .int .i64 0]) ?_ 2 _ rfl; refine blk_put (cs := #[.int .i64 0, .int .i64 0, .int .i64 0]) ?_ 1 _ rfl; refine blk_put (cs := #[.int .i64 0, .int .i64 0, .int .i64 0]) ?_ 0 _ rfl; exact BK1253.out) Try.underlying60 rfl (by kernel_rfl)) rfl ?_
  exact ⟨rfl, by repeat ((with_reducible first | exact HB.out | refine below_set ?_ GE1253.out))⟩

end Go.Proofs.Ytobndcjmjhehjaa.P
namespace Go.Proofs.Ytobndcjmjhehjaa.P
open Go.RowKit Go.Proofs.YtobndcjmjhehjaaW.PrintWords Go.Proofs.YtobndcjmjhehjaaW.PrintLast Go.Proofs.YtobndcjmjhehjaaW.PrintMore
attribute [local go_sem] max2_int min2_int max_two min_two max_three min_three max_four min_four   -- for this text's walks alone
set_option linter.unusedVariables false
set_option linter.unusedSimpArgs false

/-! ### impl_ParseRows: function 141 -/
def impl_ParseRows.l0 : Nat → List (S60) → List ByteArray → Int → Int → Option ((List (S60)) × Bool)
 | 0, _, _, _, _ => none
 | k + 1, x4, x13, x14, x15 => if x15 < x14 then (if 0 ≤ x15 then (if x15 < (x13.length : Int) then ((impl_ParseRow.f k (rdOf ByteArray.empty x13 x15)).bind fun bt1275 => (if bt1275.2.2.2 = true then (if x4.length < 5864062014805 then (impl_ParseRows.l0 k (x4 ++ [(⟨bt1275.1, bt1275.2.1, bt1275.2.2.1⟩ : S60)]) x13 x14 (wrap64 (x15 + 1))) else (none)) else (some (([] : List (S60)), false)))) else (none)) else (none)) else ((impl_AreValidRows.f k x4).bind fun t1283 => (if t1283 = true then (some (x4, true)) else (some (([] : List (S60)), false))))
def impl_ParseRows.f (k : Nat) (a0 : ByteArray) : Option ((List (S60)) × Bool) := if a0.toList = ([] : List UInt8) then (some (([] : List (S60)), true)) else ((impl_cut.f k a0 32).bind fun t1271 => (impl_ParseRows.l0 k (([] : List (S60))) t1271 (t1271.length : Int) 0))
theorem impl_ParseRows.mono_l : ∀ k, (∀ y0 y1 y2 y3, LeO (impl_ParseRows.l0 k y0 y1 y2 y3) (impl_ParseRows.l0 (k + 1) y0 y1 y2 y3))
 | 0 => fun _ _ _ _ r h => by simp [impl_ParseRows.l0] at h
 | k + 1 => by
  have ih0 := impl_ParseRows.mono_l k
  ·intro y0 y1 y2 y3
   unfold impl_ParseRows.l0
   repeat' first
   | (with_reducible exact ih0 _ _ _ _)
   | (with_reducible exact impl_AreValidRows.mono _ _)
   | (with_reducible exact impl_ParseRow.mono _ _)
   | (with_reducible exact LeO.refl _)
   | (with_reducible refine LeO.ite ?_ ?_)
   | (with_reducible refine LeO.bind ?_ (fun _ => ?_))
   | refine LeO.bind ?_ (fun _ => ?_)
theorem impl_ParseRows.mono : ∀ a0 k, LeO (impl_ParseRows.f k a0) (impl_ParseRows.f (k + 1) a0) := by
 intro a0 k
 have ih0 := impl_ParseRows.mono_l k
 unfold impl_ParseRows.f
 repeat' first
   | (with_reducible exact ih0 _ _ _ _)
   | (with_reducible exact impl_cut.mono _ _ _)
   | (with_reducible exact LeO.refl _)
   | (with_reducible refine LeO.ite ?_ ?_)
   | (with_reducible refine LeO.bind ?_ (fun _ => ?_))
   | refine LeO.bind ?_ (fun _ => ?_)
set_option maxHeartbeats 8000000 in
set_option maxRecDepth 100000 in
theorem impl_ParseRows.calls (k : Nat) (a0 : ByteArray) (r1 : List (S60)) (r2 : Bool) (w : World) (h : impl_ParseRows.f k a0 = some (r1, r2)) :
  Calls Try.prog 141 #[.string a0] w fun e w' => ∃ v0_ : Value, e = .returned (.tuple #[v0_, .bool r2]) ∧ Kd.R k60 60 w' w.heap.size (fun _ => True) v0_ r1 ∧ Below w.heap.size w w' := by
 have hu60 := Try.underlying60
 have HB := Aside0.mk (Below.refl w.heap.size w)
 have H : (if a0.toList = ([] : List UInt8) then (some (([] : List (S60)), true)) else ((impl_cut.f k a0 32).bind fun t1271 => (impl_ParseRows.l0 k (([] : List (S60))) t1271 (t1271.length : Int) 0))) = some (r1, r2) := h
 clear h
 by_cases c2 : a0.toList = ([] : List UInt8)
 ·rw [if_pos c2] at H
  have c2b0 : (a0.toList == ([] : List UInt8)) = true := beq_iff_eq.mpr c2
  have c2b1 : (a0.toList != ([] : List UInt8)) = false := bne_eq_false_iff_eq.mpr c2
  clear c2
  simp only [Option.some.injEq, Prod.mk.injEq] at H
  obtain ⟨rfl, rfl⟩ := H
  go_enter Try.func141, Try.ntmps141
  go_wp2
  go_ret2
  exact ⟨_, rfl, by exact Kd.R_nil _ _ _ _ _, HB.out⟩
 ·rw [if_neg c2] at H
  have c2b0 : (a0.toList == ([] : List UInt8)) = false := beq_eq_false_iff_ne.mpr c2
  have c2b1 : (a0.toList != ([] : List UInt8)) = true := bne_iff_ne.mpr c2
  obtain ⟨y1268, hy1268⟩ : ∃ y_ : List (S60), y_ = (([] : List (S60))) := ⟨_, rfl⟩
  replace H : ((impl_cut.f k a0 32).bind fun t1271 => (impl_ParseRows.l0 k y1268 t1271 (t1271.length : Int) 0)) = some (r1, r2) := by (rw [hy1268]; with_reducible exact H)
  have Ny1268 := Aside0.mk hy1268
  clear hy1268
  replace H := Option.bind_eq_some_iff.mp H
  obtain ⟨t1271, A30, H⟩ := H
  have A3 := Aside0.mk A30
  clear A30
  have H' := Aside0.mk H
  clear H
  go_enter Try.func141, Try.ntmps141
  go_wp2_with (first | ((with_reducible refine gate_dst (N := 11) rfl ?_); refine Kd.R_lit k60 _ 60 ?hg (N := 11) ?hd (xs := ([] : List (S60))) (inner := []) (ok := fun _ => True) (okp := fun _ => True) ?hr ?hp (fun _ hk => hk) trivial (Below.refl _ _) (Nat.le_refl _) (by simp) ?_; (case hd => rfl); (case hg => rfl); (case hr => (go_simp; done)); (case hp => exact (Reps.none _ _)); intro v1269 w4 ho5 hb hg_ hnew_; clear hg_ hnew_; (rw [← Ny1268.out] at ho5); have n0_ := Aside0.mk (Kd.R_lower ho5 (below_size HB.out)); have n1_ := Aside0.mk (below_step HB.out hb); clear HB; have HO1270 := n0_; have HB := n1_; clear n0_ n1_; clear hb ho5) | ((with_reducible refine gate_callee (f := 139) rfl ?_); refine goesL_ (some 13) rfl rfl Try.func139 (by kernel_rfl) rfl #[.string a0, .int .u8 32] rfl (by (try simp only [List.map_toArray, List.map_cons, List.map_nil]); rfl) ?_; (with_reducible refine (impl_cut.calls k a0 32 t1271 _ A3.out).mono ?_); rintro e w6 ⟨v1272, rfl, ho0, hb⟩; refine ⟨_, rfl, ?_⟩; have n0_ := Aside0.mk (Kd.R_below HO1270.out hb); have n1_ := Aside0.mk (Kd.R_lower ho0 (below_size HB.out)); have n2_ := Aside0.mk (below_step HB.out hb); clear HO1270; clear HB; have HO1270 := n0_; have HO1273 := n1_; have HB := n2_; clear n0_ n1_ n2_; (try clear hb); (try clear hb2); (try clear hk); (try clear hi); (try clear ho0); obtain ⟨Ao7, co7, eo7⟩ := Kd.R_slice HO1273.out; subst eo7))
  go_loopg [4, 15] k (fun kq v4 v15 w' => ∃ (x4_1 : List (S60)) (x15_1 : Int), v15 = .int .i64 x15_1 ∧ Aside0 (impl_ParseRows.l0 kq x4_1 t1271 (t1271.length : Int) x15_1 = some (r1, r2)) ∧ Aside0 (kq ≤ k) ∧ Aside0 (Kd.R k60 60 w' w.heap.size (fun _ => True) v4 x4_1) ∧ Aside0 (Kd.R Kd.string 9 w' w.heap.size (fun _ => True) (.slice Ao7 t1271.length co7) t1271) ∧ Aside0 (Below w.heap.size w w'))
  case atStart => exact ⟨(y1268), (0), rfl, H', ⟨Nat.le_refl _⟩, ⟨HO1270.out⟩, ⟨HO1273.out⟩, ⟨HB.out⟩⟩
  case round =>
   clear H'
   try clear c2
   try clear c2b0
   try clear c2b1
   obtain ⟨x4_1, x15_1, rfl, HA, HK1, HO_4, HO_13, HB⟩ := hrel
   cases gk with
   | zero => exact absurd HA.out (by simp [impl_ParseRows.l0])
   | succ k1 =>
    have H := HA.out
    clear HA
    simp only [impl_ParseRows.l0] at H
    by_cases c8 : x15_1 < (t1271.length : Int)
    ·rw [if_pos c8] at H
     have c8b0 : decide (x15_1 < (t1271.length : Int)) = true := decide_eq_true c8
     clear c8
     by_cases c9 : 0 ≤ x15_1
     ·rw [if_pos c9] at H
      have c9b0 : decide (0 ≤ x15_1) = true := decide_eq_true c9
      clear c9
      by_cases c10 : x15_1 < (t1271.length : Int)
      ·rw [if_pos c10] at H
       have c10b0 : decide (x15_1 < (t1271.length : Int)) = true := decide_eq_true c10
       clear c10
       replace H := Option.bind_eq_some_iff.mp H
       obtain ⟨⟨t1275, t1276, t1277, t1278⟩, A110, H⟩ := H
       have A11 := Aside0.mk A110
       clear A110
       by_cases c12 : t1278 = true
       ·subst c12
        rw [if_pos rfl] at H
        by_cases c13 : x4_1.length < 5864062014805
        ·rw [if_pos c13] at H
         have LMc13 := Aside0.mk c13
         clear c13
         obtain ⟨y1280, hy1280⟩ : ∃ y_ : List (S60), y_ = (x4_1 ++ [(⟨t1275, t1276, t1277⟩ : S60)]) := ⟨_, rfl⟩
         replace H : (impl_ParseRows.l0 k1 y1280 t1271 (t1271.length : Int) (wrap64 (x15_1 + 1))) = some (r1, r2) := by (rw [hy1280]; with_reducible exact H)
         have Ny1280 := Aside0.mk hy1280
         clear hy1280
         have H' := Aside0.mk H
         clear H
         have p1274 : 0 ≤ (x15_1 : Int) := of_decide_eq_true (by (with_reducible assumption))
         have q1274 : x15_1 < (t1271.length : Int) := of_decide_eq_true (by (with_reducible assumption))
         obtain ⟨ad1274, e1274, hx1274_0⟩ := Kd.at_string (Kd.R_reads' HO_13.out).2.2 x15_1 p1274 q1274
         cases e1274
         replace p1274 := eq_true p1274
         replace q1274 := eq_true q1274
         go_wp2_with (first | ((with_reducible refine gate_callee (f := 187) rfl ?_); refine goesL_ (some 21) rfl rfl Try.func187 (by kernel_rfl) rfl #[.string (rdOf ByteArray.empty t1271 x15_1)] rfl (by (try simp only [List.map_toArray, List.map_cons, List.map_nil]); rfl) ?_; (with_reducible refine (impl_ParseRow.calls k1 (rdOf ByteArray.empty t1271 x15_1) t1275 t1276 t1277 true _ A11.out).mono ?_); rintro e w14 ⟨rfl, hb⟩; refine ⟨_, rfl, ?_⟩; have n0_ := Aside0.mk (Kd.R_below HO_4.out hb); have n1_ := Aside0.mk (Kd.R_below HO_13.out hb); have n2_ := Aside0.mk (below_step HB.out hb); clear HO_4; clear HO_13; clear HB; have HO_4 := n0_; have HO_13 := n1_; have HB := n2_; clear n0_ n1_ n2_; (try clear hb); (try clear hb2); (try clear hk); (try clear hi)) | ((with_reducible refine gate_dst (N := 7) rfl ?_); refine box_event ?hg (N := 7) ?hd (cs := #[.int .i64 0, .int .i64 0, .int .i64 0]) (t := 60) ?hr ?_; (case hd => rfl); (case hg => rfl); (case hr => (go_simp; done)); intro gb1279 hg w15 hbox hb; have n0_ := Aside0.mk (Kd.R_below (Kd.R_elderB HO_4.out gb1279 (Nat.le_of_eq hg.symm)) hb); have n1_ := Aside0.mk (Kd.R_below HO_13.out hb); have n2_ := Aside0.mk (below_step HB.out hb); have n3_ := Aside0.mk (hbox); have n4_ := Aside0.mk ((by rw [hg]; exact (below_size HB.out) : w.heap.size ≤ gb1279)); have n5_ := Aside0.mk ((by rw [hg]; exact (below_size HB.out) : w.heap.size ≤ gb1279)); clear HO_4; clear HO_13; clear HB; have HO_4 := n0_; have HO_13 := n1_; have HB := n2_; have BK1279 := n3_; have GW1279 := n4_; have GE1279 := n5_; clear n0_ n1_ n2_ n3_ n4_ n5_; clear hb hbox hg; have hcz16_0 : w15.cell? ⟨gb1279, 0, none⟩ = some (.int .i64 0) := (blk_cell BK1279.out 0).trans rfl; have hcz16_1 : w15.cell? ⟨gb1279, 1, none⟩ = some (.int .i64 0) := (blk_cell BK1279.out 1).trans rfl; have hcz16_2 : w15.cell? ⟨gb1279, 2, none⟩ = some (.int .i64 0) := (blk_cell BK1279.out 2).trans rfl; have hfz16_0 := blk_frozen BK1279.out 0; have hfz16_1 := blk_frozen BK1279.out 1; have hfz16_2 := blk_frozen BK1279.out 2) | ((with_reducible refine gate_builtin (b := .append) (xs := #[.tmp 26, .tmp 28]) rfl ?_); at_builtin; refine Kd.R_append k60 (w0 := w) w.heap.size rfl (.tmp 26) (.tmp 28) 24 60 (.agg #[(.int .i64 0), (.int .i64 0), (.int .i64 0)]) 24 rfl Try.underlying24 info60 rfl (by decide) (by omega) u4 x4_1 (⟨t1275, t1276, t1277⟩ : S60) [.int .i64 t1275, .int .i64 t1276, .int .i64 t1277] (fun k_ => k_ ≠ gb1279) (fun _ => False) rfl (by (go_simp; done)) ?aP (fun _ hk => hk.elim) ?aF ?aO ?aB ?aS ?aL ?_; (case aP => exact k60_mkM _ _ _ (⟨t1275, t1276, t1277⟩ : S60)); (case aB => exact (by repeat (with_reducible first | exact HB.out | refine below_set ?_ GE1279.out))); (case aF => exact (fun k_ hk => Kd.freshB (g := gb1279) (o := .cells #[.int .i64 t1275, .int .i64 t1276, .int .i64 t1277] 60 (0, 0)) (by refine blk_put (cs := #[.int .i64 t1275, .int .i64 t1276, .int .i64 0]) ?_ 2 _ rfl; refine blk_put (cs := #[.int .i64 t1275, .int .i64 0, .int .i64 0]) ?_ 1 _ rfl; refine blk_put (cs := #[.int .i64 0, .int .i64 0, .int .i64 0]) ?_ 0 _ rfl; exact BK1279.out) k_ hk)); (case aO => exact (by exact Kd.R_mono (Kd.R_far (p := ⟨gb1279, 2, none⟩) (Kd.R_far (p := ⟨gb1279, 1, none⟩) (Kd.R_far (p := ⟨gb1279, 0, none⟩) (Kd.R_mono HO_4.out (fun k_ hk => (⟨hk, hk.2⟩ : _ ∧ k_ ≠ gb1279))) (fun _ hk => hk.2) (.int .i64 t1275)) (fun _ hk => hk.2) (.int .i64 t1276)) (fun _ hk => hk.2) (.int .i64 t1277)) (fun _ hk => hk.1.2))); (case aS => exact (below_size (by repeat (with_reducible first | exact HB.out | refine below_set ?_ GE1279.out)))); (case aL => have := LMc13.out; omega); intro v1281 w17 ho hb hg hat; rw [← Ny1280.out] at ho; have n0_ := Aside0.mk (Kd.R_over' (by exact (Kd.R_mono (Kd.R_far (p := ⟨gb1279, 2, none⟩) (Kd.R_far (p := ⟨gb1279, 1, none⟩) (Kd.R_far (p := ⟨gb1279, 0, none⟩) (Kd.R_types HO_13.out BK1279.out (by decide)) (fun _ hk => hk.2) (.int .i64 t1275)) (fun _ hk => hk.2) (.int .i64 t1276)) (fun _ hk => hk.2) (.int .i64 t1277)) (fun _ h_ => h_.1))) (Kd.R_typed (by exact (Kd.R_mono (Kd.R_far (p := ⟨gb1279, 2, none⟩) (Kd.R_far (p := ⟨gb1279, 1, none⟩) (Kd.R_far (p := ⟨gb1279, 0, none⟩) (Kd.R_mono HO_4.out (fun k_ hk => (⟨hk, hk.2⟩ : _ ∧ k_ ≠ gb1279))) (fun _ hk => hk.2) (.int .i64 t1275)) (fun _ hk => hk.2) (.int .i64 t1276)) (fun _ hk => hk.2) (.int .i64 t1277)) (fun _ h_ => h_.1)))) (by decide) hg); have n1_ := Aside0.mk (blk_grown (g := gb1279) (o := .cells #[.int .i64 t1275, .int .i64 t1276, .int .i64 t1277] 60 (0, 0)) (by refine blk_put (cs := #[.int .i64 t1275, .int .i64 t1276, .int .i64 0]) ?_ 2 _ rfl; refine blk_put (cs := #[.int .i64 t1275, .int .i64 0, .int .i64 0]) ?_ 1 _ rfl; refine blk_put (cs := #[.int .i64 0, .int .i64 0, .int .i64 0]) ?_ 0 _ rfl; exact BK1279.out) hg (Kd.R_away HO_4.out (fun _ hk => hk.2))); have n2_ := Aside0.mk (hb); have n3_ := Aside0.mk (ho); clear HO_13; clear BK1279; clear HB; clear HO_4; have HO_13 := n0_; have BK1279 := n1_; have HB := n2_; have HO1282 := n3_; clear n0_ n1_ n2_ n3_; clear ho hb hg hat))
         go_roundg k1
         case measure => have := HK1.out; omega
         case rel => exact ⟨(y1280), (wrap64 (x15_1 + 1)), rfl, H', ⟨by have := HK1.out; omega⟩, ⟨by exact Kd.R_mono HO1282.out (fun _ hk => trivial)⟩, ⟨HO_13.out⟩, ⟨HB.out⟩⟩
        ·rw [if_neg c13] at H
         exact absurd H (by simp)
       ·replace c12 := Bool.eq_false_iff.mpr c12
        subst c12
        rw [if_neg (show ¬ (false = true) by decide)] at H
        simp only [Option.some.injEq, Prod.mk.injEq] at H
        obtain ⟨rfl, rfl⟩ := H
        have p1274 : 0 ≤ (x15_1 : Int) := of_decide_eq_true (by (with_reducible assumption))
        have q1274 : x15_1 < (t1271.length : Int) := of_decide_eq_true (by (with_reducible assumption))
        obtain ⟨ad1274, e1274, hx1274_0⟩ := Kd.at_string (Kd.R_reads' HO_13.out).2.2 x15_1 p1274 q1274
        cases e1274
        replace p1274 := eq_true p1274
        replace q1274 := eq_true q1274
        go_wp2_with (first | ((with_reducible refine gate_callee (f := 187) rfl ?_); refine goesL_ (some 21) rfl rfl Try.func187 (by kernel_rfl) rfl #[.string (rdOf ByteArray.empty t1271 x15_1)] rfl (by (try simp only [List.map_toArray, List.map_cons, List.map_nil]); rfl) ?_; (with_reducible refine (impl_ParseRow.calls k1 (rdOf ByteArray.empty t1271 x15_1) t1275 t1276 t1277 false _ A11.out).mono ?_); rintro e w18 ⟨rfl, hb⟩; refine ⟨_, rfl, ?_⟩; have n0_ := Aside0.mk (Kd.R_below HO_4.out hb); have n1_ := Aside0.mk (Kd.R_below HO_13.out hb); have n2_ := Aside0.mk (below_step HB.out hb); clear HO_4; clear HO_13; clear HB; have HO_4 := n0_; have HO_13 := n1_; have HB := n2_; clear n0_ n1_ n2_; (try clear hb); (try clear hb2); (try clear hk); (try clear hi)) | ((with_reducible refine gate_dst (N := 7) rfl ?_); refine box_event ?hg (N := 7) ?hd (cs := #[.int .i64 0, .int .i64 0, .int .i64 0]) (t := 60) ?hr ?_; (case hd => rfl); (case hg => rfl); (case hr => (go_simp; done)); intro gb1279 hg w19 hbox hb; have n0_ := Aside0.mk (Kd.R_below (Kd.R_elderB HO_4.out gb1279 (Nat.le_of_eq hg.symm)) hb); have n1_ := Aside0.mk (Kd.R_below HO_13.out hb); have n2_ := Aside0.mk (below_step HB.out hb); have n3_ := Aside0.mk (hbox); have n4_ := Aside0.mk ((by rw [hg]; exact (below_size HB.out) : w.heap.size ≤ gb1279)); have n5_ := Aside0.mk ((by rw [hg]; exact (below_size HB.out) : w.heap.size ≤ gb1279)); clear HO_4; clear HO_13; clear HB; have HO_4 := n0_; have HO_13 := n1_; have HB := n2_; have BK1279 := n3_; have GW1279 := n4_; have GE1279 := n5_; clear n0_ n1_ n2_ n3_ n4_ n5_; clear hb hbox hg; have hcz20_0 : w19.cell? ⟨gb1279, 0, none⟩ = some (.int .i64 0) := (blk_cell BK1279.out 0).trans rfl; have hcz20_1 : w19.cell? ⟨gb1279, 1, none⟩ = some (.int .i64 0) := (blk_cell BK1279.out 1).trans rfl; have hcz20_2 : w19.cell? ⟨gb1279, 2, none⟩ = some (.int .i64 0) := (blk_cell BK1279.out 2).trans rfl; have hfz20_0 := blk_frozen BK1279.out 0; have hfz20_1 := blk_frozen BK1279.out 1; have hfz20_2 := blk_frozen BK1279.out 2))
        go_ret2
        exact ⟨_, rfl, by exact Kd.R_nil _ _ _ _ _, by repeat ((with_reducible first | exact HB.out | refine below_set ?_ GE1279.out))⟩
      ·rw [if_neg c10] at H
       exact absurd H (by simp)
     ·rw [if_neg c9] at H
      exact absurd H (by simp)
    ·rw [if_neg c8] at H
     have c8b0 : decide (x15_1 < (t1271.length : Int)) = false := decide_eq_false c8
     clear c8
     replace H := Option.bind_eq_some_iff.mp H
     obtain ⟨t1283, A210, H⟩ := H
     have A21 := Aside0.mk A210
     clear A210
     by_cases c22 : t1283 = true
     ·subst c22
      rw [if_pos rfl] at H
      simp only [Option.some.injEq, Prod.mk.injEq] at H
      obtain ⟨rfl, rfl⟩ := H
      obtain ⟨Ao23, co23, eo23⟩ := Kd.R_slice HO_4.out
      subst eo23
      go_wp2_with (((with_reducible refine gate_callee (f := 133) rfl ?_); refine goesL_ (some 32) rfl rfl Try.func133 (by kernel_rfl) rfl #[.slice Ao23 x4_1.length co23] rfl (by (try simp only [List.map_toArray, List.map_cons, List.map_nil]); rfl) ?_; (with_reducible refine (impl_AreValidRows.calls k1 _ _ x4_1 true _ ?side1 ?side2 A21.out).mono ?_); (case side1 => repeat (exact (Kd.R_reads' HO_4.out).2.2)); (case side2 => exact (Kd.R_reads' HO_4.out).2.1); rintro e w24 ⟨rfl, hb⟩; refine ⟨_, rfl, ?_⟩; have n0_ := Aside0.mk (Kd.R_below HO_4.out hb); have n1_ := Aside0.mk (Kd.R_below HO_13.out hb); have n2_ := Aside0.mk (below_step HB.out hb); clear HO_4; clear HO_13; clear HB; have HO_4 := n0_; have HO_13 := n1_; have HB := n2_; clear n0_ n1_ n2_; (try clear hb); (try clear hb2); (try clear hk); (try clear hi)))
      go_ret2
      exact ⟨_, rfl, HO_4.out, HB.out⟩
     ·replace c22 := Bool.eq_false_iff.mpr c22
      subst c22
      rw [if_neg (show ¬ (false = true) by decide)] at H
      simp only [Option.some.injEq, Prod.mk.injEq] at H
      obtain ⟨rfl, rfl⟩ := H
      obtain ⟨Ao25, co25, eo25⟩ := Kd.R_slice HO_4.out
      subst eo25
      go_wp2_with (((with_reducible refine gate_callee (f := 133) rfl ?_); refine goesL_ (some 32) rfl rfl Try.func133 (by kernel_rfl) rfl #[.slice Ao25 x4_1.length co25] rfl (by (try simp only [List.map_toArray, List.map_cons, List.map_nil]); rfl) ?_; (with_reducible refine (impl_AreValidRows.calls k1 _ _ x4_1 false _ ?side1 ?side2 A21.out).mono ?_); (case side1 => repeat (exact (Kd.R_reads' HO_4.out).2.2)); (case side2 => exact (Kd.R_reads' HO_4.out).2.1); rintro e w26 ⟨rfl, hb⟩; refine ⟨_, rfl, ?_⟩; have n0_ := Aside0.mk (Kd.R_below HO_4.out hb); have n1_ := Aside0.mk (Kd.R_below HO_13.out hb); have n2_ := Aside0.mk (below_step HB.out hb); clear HO_4; clear HO_13; clear HB; have HO_4 := n0_; have HO_13 := n1_; have HB := n2_; clear n0_ n1_ n2_; (try clear hb); (try clear hb2); (try clear hk); (try clear hi)))
      go_ret2
      exact ⟨_, rfl, by exact Kd.R_nil _ _ _ _ _, HB.out⟩

end Go.Proofs.Ytobndcjmjhehjaa.P
namespace Go.Proofs.Ytobndcjmjhehjaa.P
open Go.RowKit Go.Proofs.YtobndcjmjhehjaaW.PrintWords Go.Proofs.YtobndcjmjhehjaaW.PrintLast Go.Proofs.YtobndcjmjhehjaaW.PrintMore
attribute [local go_sem] max2_int min2_int max_two min_two max_three min_three max_four min_four   -- for this text's walks alone
set_option linter.unusedVariables false
set_option linter.unusedSimpArgs false

/-! ### impl_ParseTask: function 41 -/
def impl_ParseTask.l0 : Nat → ByteArray → List ByteArray → Bool → Bool → Bool → Bool → Int → Int → Int → List (S60) → List (S60) → List Bool → Int → Option (Int × (List (S60)) × (List (S60)) × List Bool × Int × Bool)
 | 0, _, _, _, _, _, _, _, _, _, _, _, _, _ => none
 | k + 1, x0, x4, x6, x8, x10, x12, x57, x58, x1305000, x1305001, x1305002, x1305003, x1305004 => if x58 < x57 then (if 3 < (x4.length : Int) then (if 0 ≤ x58 then (if x58 < ((rdOf ByteArray.empty x4 3).size : Int) then (if x1305003.length < 140737488355328 then (impl_ParseTask.l0 k x0 x4 x6 x8 x10 x12 x57 (wrap64 (x58 + 1)) x1305000 x1305001 x1305002 (x1305003 ++ [((bt (rdOf ByteArray.empty x4 3) x58) == 49)]) x1305004) else (none)) else (none)) else (none)) else (none)) else (if x6 = true then (if x8 = true then (if x10 = true then (if x12 = true then ((impl_IsValidTask.f k x1305000 x1305001 x1305002 x1305003 x1305004).bind fun t1310 => (if t1310 = true then ((impl_FormatTask.f k x1305000 x1305001 x1305002 x1305003 x1305004).bind fun t1311 => (if t1311.toList = x0.toList then (some (x1305000, x1305001, x1305002, x1305003, x1305004, true)) else (some (0, ([] : List (S60)), ([] : List (S60)), ([] : List Bool), 0, false)))) else (some (0, ([] : List (S60)), ([] : List (S60)), ([] : List Bool), 0, false)))) else (some (0, ([] : List (S60)), ([] : List (S60)), ([] : List Bool), 0, false))) else (some (0, ([] : List (S60)), ([] : List (S60)), ([] : List Bool), 0, false))) else (some (0, ([] : List (S60)), ([] : List (S60)), ([] : List Bool), 0, false))) else (some (0, ([] : List (S60)), ([] : List (S60)), ([] : List Bool), 0, false)))
def impl_ParseTask.f (k : Nat) (a0 : ByteArray) : Option (Int × (List (S60)) × (List (S60)) × List Bool × Int × Bool) := (impl_cut.f k a0 59).bind fun t1285 => (if (t1285.length : Int) = 5 then (if 0 < (t1285.length : Int) then ((impl_ParseInt.f k (rdOf ByteArray.empty t1285 0)).bind fun bt1289 => (if 1 < (t1285.length : Int) then ((impl_ParseRows.f k (rdOf ByteArray.empty t1285 1)).bind fun bt1292 => (if 2 < (t1285.length : Int) then ((impl_ParseRows.f k (rdOf ByteArray.empty t1285 2)).bind fun bt1297 => (if 4 < (t1285.length : Int) then ((impl_ParseInt.f k (rdOf ByteArray.empty t1285 4)).bind fun bt1302 => (if 3 < (t1285.length : Int) then (impl_ParseTask.l0 k a0 t1285 bt1289.2 bt1292.2 bt1297.2 bt1302.2 ((rdOf ByteArray.empty t1285 3).size : Int) 0 bt1289.1 bt1292.1 bt1297.1 ([] : List Bool) bt1302.1) else (none))) else (none))) else (none))) else (none))) else (none)) else (some (0, ([] : List (S60)), ([] : List (S60)), ([] : List Bool), 0, false)))
theorem impl_ParseTask.mono_l : ∀ k, (∀ y0 y1 y2 y3 y4 y5 y6 y7 y8 y9 y10 y11 y12, LeO (impl_ParseTask.l0 k y0 y1 y2 y3 y4 y5 y6 y7 y8 y9 y10 y11 y12) (impl_ParseTask.l0 (k + 1) y0 y1 y2 y3 y4 y5 y6 y7 y8 y9 y10 y11 y12))
 | 0 => fun _ _ _ _ _ _ _ _ _ _ _ _ _ r h => by simp [impl_ParseTask.l0] at h
 | k + 1 => by
  have ih0 := impl_ParseTask.mono_l k
  ·intro y0 y1 y2 y3 y4 y5 y6 y7 y8 y9 y10 y11 y12
   unfold impl_ParseTask.l0
   repeat' first
   | (with_reducible exact ih0 _ _ _ _ _ _ _ _ _ _ _ _ _)
   | (with_reducible exact impl_FormatTask.mono _ _ _ _ _ _)
   | (with_reducible exact impl_IsValidTask.mono _ _ _ _ _ _)
   | (with_reducible exact LeO.refl _)
   | (with_reducible refine LeO.ite ?_ ?_)
   | (with_reducible refine LeO.bind ?_ (fun _ => ?_))
theorem impl_ParseTask.mono : ∀ a0 k, LeO (impl_ParseTask.f k a0) (impl_ParseTask.f (k + 1) a0) := by
 intro a0 k
 have ih0 := impl_ParseTask.mono_l k
 unfold impl_ParseTask.f
 repeat' first
   | (with_reducible exact ih0 _ _ _ _ _ _ _ _ _ _ _ _ _)
   | (with_reducible exact impl_ParseInt.mono _ _)
   | (with_reducible exact impl_ParseRows.mono _ _)
   | (with_reducible exact impl_cut.mono _ _ _)
   | (with_reducible exact LeO.refl _)
   | (with_reducible refine LeO.ite ?_ ?_)
   | (with_reducible refine LeO.bind ?_ (fun _ => ?_))
def impl_ParseTask.T12 : Bool × List (List Nat × List Nat) := (true, [([], []), ([0], [0]), ([], []), ([2], [2]), ([3], [3]), ([], []), ([4, 5], [4, 5]), ([6], [6]), ([7], [7]), ([1, 8], [1, 8]), ([0, 1, 2, 3, 4, 5, 6, 7, 8, 9], []), ([10, 9, 9, 0, 1, 2, 3, 4, 5, 6, 7, 8, 9], [9, 10])])
def impl_ParseTask.B12 : List Nat := [0, 1, 0, 4, 12, 0, 60, 124, 252, 511, 1023, 2047]
theorem impl_ParseTask.tab12 : rtab .any (opsOf Try.f41 12) = impl_ParseTask.T12 := by kernel_rfl
theorem impl_ParseTask.bits12 : waitsOk impl_ParseTask.T12.2 impl_ParseTask.B12 = true := by kernel_rfl
set_option maxHeartbeats 8000000 in
set_option maxRecDepth 100000 in
theorem impl_ParseTask.calls (k : Nat) (a0 : ByteArray) (r1 : Int) (r2 : List (S60)) (r3 : List (S60)) (r4 : List Bool) (r5 : Int) (r6 : Bool) (w : World) (h : impl_ParseTask.f k a0 = some (r1, r2, r3, r4, r5, r6)) :
  Calls Try.prog 41 #[.string a0] w fun e w' => ∃ v1_ v2_ v3_ : Value, e = .returned (.tuple #[.agg #[.int .i64 r1, v1_, v2_, v3_, .int .i64 r5], .bool r6]) ∧ Kd.R k60 60 w' w.heap.size (fun k_ => some k_ ≠ (v2_ : Value).ownBlock) v1_ r2 ∧ Kd.R k60 60 w' w.heap.size (fun k_ => some k_ ≠ (v1_ : Value).ownBlock) v2_ r3 ∧ Kd.R Kd.bool 4 w' w.heap.size (fun _ => True) v3_ r4 ∧ Below w.heap.size w w' := by
 have hu40 := Try.underlying40
 have HB := Aside0.mk (Below.refl w.heap.size w)
 have H : ((impl_cut.f k a0 59).bind fun t1285 => (if (t1285.length : Int) = 5 then (if 0 < (t1285.length : Int) then ((impl_ParseInt.f k (rdOf ByteArray.empty t1285 0)).bind fun bt1289 => (if 1 < (t1285.length : Int) then ((impl_ParseRows.f k (rdOf ByteArray.empty t1285 1)).bind fun bt1292 => (if 2 < (t1285.length : Int) then ((impl_ParseRows.f k (rdOf ByteArray.empty t1285 2)).bind fun bt1297 => (if 4 < (t1285.length : Int) then ((impl_ParseInt.f k (rdOf ByteArray.empty t1285 4)).bind fun bt1302 => (if 3 < (t1285.length : Int) then (impl_ParseTask.l0 k a0 t1285 bt1289.2 bt1292.2 bt1297.2 bt1302.2 ((rdOf ByteArray.empty t1285 3).size : Int) 0 bt1289.1 bt1292.1 bt1297.1 ([] : List Bool) bt1302.1) else (none))) else (none))) else (none))) else (none))) else (none)) else (some (0, ([] : List (S60)), ([] : List (S60)), ([] : List Bool), 0, false)))) = some (r1, r2, r3, r4, r5, r6) := h
 clear h
 replace H := Option.bind_eq_some_iff.mp H
 obtain ⟨t1285, A20, H⟩ := H
 have A2 := Aside0.mk A20
 clear A20
 by_cases c3 : (t1285.length : Int) = 5
 ·rw [if_pos c3] at H
  have c3b0 : ((t1285.length : Int) == 5) = true := beq_iff_eq.mpr c3
  have c3b1 : ((t1285.length : Int) != 5) = false := bne_eq_false_iff_eq.mpr c3
  clear c3
  by_cases c4 : 0 < (t1285.length : Int)
  ·rw [if_pos c4] at H
   have c4b0 : decide (0 < (t1285.length : Int)) = true := decide_eq_true c4
   have c4b1 : decide (0 < t1285.length) = true := decide_eq_true (by omega)
   clear c4
   replace H := Option.bind_eq_some_iff.mp H
   obtain ⟨⟨t1289, t1290⟩, A50, H⟩ := H
   have A5 := Aside0.mk A50
   clear A50
   by_cases c6 : 1 < (t1285.length : Int)
   ·rw [if_pos c6] at H
    have c6b0 : decide (1 < (t1285.length : Int)) = true := decide_eq_true c6
    have c6b1 : decide (1 < t1285.length) = true := decide_eq_true (by omega)
    clear c6
    replace H := Option.bind_eq_some_iff.mp H
    obtain ⟨⟨t1292, t1293⟩, A70, H⟩ := H
    have A7 := Aside0.mk A70
    clear A70
    by_cases c8 : 2 < (t1285.length : Int)
    ·rw [if_pos c8] at H
     have c8b0 : decide (2 < (t1285.length : Int)) = true := decide_eq_true c8
     have c8b1 : decide (2 < t1285.length) = true := decide_eq_true (by omega)
     clear c8
     replace H := Option.bind_eq_some_iff.mp H
     obtain ⟨⟨t1297, t1298⟩, A90, H⟩ := H
     have A9 := Aside0.mk A90
     clear A90
     by_cases c10 : 4 < (t1285.length : Int)
     ·rw [if_pos c10] at H
      have c10b0 : decide (4 < (t1285.length : Int)) = true := decide_eq_true c10
      have c10b1 : decide (4 < t1285.length) = true := decide_eq_true (by omega)
      clear c10
      replace H := Option.bind_eq_some_iff.mp H
      obtain ⟨⟨t1302, t1303⟩, A110, H⟩ := H
      have A11 := Aside0.mk A110
      clear A110
      by_cases c12 : 3 < (t1285.length : Int)
      ·rw [if_pos c12] at H
       have c12b0 : decide (3 < (t1285.length : Int)) = true := decide_eq_true c12
       have c12b1 : decide (3 < t1285.length) = true := decide_eq_true (by omega)
       clear c12
       have H' := Aside0.mk H
       clear H
       go_enter Try.func41, Try.ntmps41
       go_wp2_with (first | ((with_reducible refine gate_dst (N := 2) rfl ?_); refine box_event ?hg (N := 2) ?hd (cs := #[.int .i64 0, .slice none 0 0, .slice none 0 0, .slice none 0 0, .int .i64 0]) (t := 40) ?hr ?_; (case hd => rfl); (case hg => rfl); (case hr => (go_simp; done)); intro gb1284 hg w13 hbox hb; have n0_ := Aside0.mk (below_step HB.out hb); have n1_ := Aside0.mk (hbox); have n2_ := Aside0.mk ((by rw [hg]; exact (below_size HB.out) : w.heap.size ≤ gb1284)); have n3_ := Aside0.mk ((by rw [hg]; exact (below_size HB.out) : w.heap.size ≤ gb1284)); clear HB; have HB := n0_; have BK1284 := n1_; have GW1284 := n2_; have GE1284 := n3_; clear n0_ n1_ n2_ n3_; clear hb hbox hg) | ((with_reducible refine gate_callee (f := 139) rfl ?_); refine goesL_ (some 16) rfl rfl Try.func139 (by kernel_rfl) rfl #[.string a0, .int .u8 59] rfl (by (try simp only [List.map_toArray, List.map_cons, List.map_nil]); rfl) ?_; (with_reducible refine (impl_cut.calls k a0 59 t1285 _ A2.out).mono ?_); rintro e w14 ⟨v1286, rfl, ho0, hb⟩; refine ⟨_, rfl, ?_⟩; have n0_ := Aside0.mk (Kd.R_lower ho0 (below_size HB.out)); have n1_ := Aside0.mk (blk_below (g := gb1284) (o := .cells #[.int .i64 0, .slice none 0 0, .slice none 0 0, .slice none 0 0, .int .i64 0] 40 (0, 0)) BK1284.out hb); have n2_ := Aside0.mk (below_step HB.out hb); clear BK1284; clear HB; have HO1287 := n0_; have BK1284 := n1_; have HB := n2_; clear n0_ n1_ n2_; (try clear hb); (try clear hb2); (try clear hk); (try clear hi); (try clear ho0); obtain ⟨Ao15, co15, eo15⟩ := Kd.R_slice HO1287.out; subst eo15; have p1288 : 0 ≤ (0 : Int) := (by omega); have q1288 : 0 < (t1285.length : Int) := of_decide_eq_true (by (with_reducible assumption)); obtain ⟨ad1288, e1288, hx1288_0⟩ := Kd.at_string (Kd.R_reads' HO1287.out).2.2 0 p1288 q1288; cases e1288; have qi1288 : (0 < t1285.length) = True := eq_true (by omega); (try rw [show ((0 : Int)).toNat = 0 from rfl] at hx1288_0); (try rw [Addr.add_zero'] at hx1288_0); replace p1288 := eq_true p1288; replace q1288 := eq_true q1288) | ((with_reducible refine gate_callee (f := 140) rfl ?_); refine goesL_ (some 25) rfl rfl Try.func140 (by kernel_rfl) rfl #[.string (rdOf ByteArray.empty t1285 0)] rfl (by (try simp only [List.map_toArray, List.map_cons, List.map_nil]); rfl) ?_; (with_reducible refine (impl_ParseInt.calls k (rdOf ByteArray.empty t1285 0) t1289 t1290 _ A5.out).mono ?_); rintro e w16 ⟨rfl, hb⟩; refine ⟨_, rfl, ?_⟩; have n0_ := Aside0.mk (Kd.R_below HO1287.out hb); have n1_ := Aside0.mk (blk_below (g := gb1284) (o := .cells #[.int .i64 0, .slice none 0 0, .slice none 0 0, .slice none 0 0, .int .i64 0] 40 (0, 0)) BK1284.out hb); have n2_ := Aside0.mk (below_step HB.out hb); clear HO1287; clear BK1284; clear HB; have HO1287 := n0_; have BK1284 := n1_; have HB := n2_; clear n0_ n1_ n2_; (try clear hb); (try clear hb2); (try clear hk); (try clear hi); have p1291 : 0 ≤ (1 : Int) := (by omega); have q1291 : 1 < (t1285.length : Int) := of_decide_eq_true (by (with_reducible assumption)); obtain ⟨ad1291, e1291, hx1291_0⟩ := Kd.at_string (Kd.R_reads' HO1287.out).2.2 1 p1291 q1291; obtain rfl : ad1288 = ad1291 := (by injection e1291); (try simp only [show (1 : Int).toNat = 1 from rfl, Nat.reduceMul, Nat.reduceEqDiff, Go.Addr.add, ↓reduceIte] at hx1291_0); have qi1291 : (1 < t1285.length) = True := eq_true (by omega); (try rw [show ((1 : Int)).toNat = 1 from rfl] at hx1291_0); replace p1291 := eq_true p1291; replace q1291 := eq_true q1291) | ((with_reducible refine gate_callee (f := 141) rfl ?_); refine goesL_ (some 32) rfl rfl Try.func141 (by kernel_rfl) rfl #[.string (rdOf ByteArray.empty t1285 1)] rfl (by (try simp only [List.map_toArray, List.map_cons, List.map_nil]); rfl) ?_; (with_reducible refine (impl_ParseRows.calls k (rdOf ByteArray.empty t1285 1) t1292 t1293 _ A7.out).mono ?_); rintro e w17 ⟨v1294, rfl, ho0, hb⟩; refine ⟨_, rfl, ?_⟩; have n0_ := Aside0.mk (Kd.R_below HO1287.out hb); have n1_ := Aside0.mk (Kd.R_lower ho0 (below_size HB.out)); have n2_ := Aside0.mk (blk_below (g := gb1284) (o := .cells #[.int .i64 0, .slice none 0 0, .slice none 0 0, .slice none 0 0, .int .i64 0] 40 (0, 0)) BK1284.out hb); have n3_ := Aside0.mk (below_step HB.out hb); clear HO1287; clear BK1284; clear HB; have HO1287 := n0_; have HO1295 := n1_; have BK1284 := n2_; have HB := n3_; clear n0_ n1_ n2_ n3_; (try clear hb); (try clear hb2); (try clear hk); (try clear hi); (try clear ho0); have p1296 : 0 ≤ (2 : Int) := (by omega); have q1296 : 2 < (t1285.length : Int) := of_decide_eq_true (by (with_reducible assumption)); obtain ⟨ad1296, e1296, hx1296_0⟩ := Kd.at_string (Kd.R_reads' HO1287.out).2.2 2 p1296 q1296; obtain rfl : ad1288 = ad1296 := (by injection e1296); (try simp only [show (2 : Int).toNat = 2 from rfl, Nat.reduceMul, Nat.reduceEqDiff, Go.Addr.add, ↓reduceIte] at hx1296_0); have qi1296 : (2 < t1285.length) = True := eq_true (by omega); (try rw [show ((2 : Int)).toNat = 2 from rfl] at hx1296_0); replace p1296 := eq_true p1296; replace q1296 := eq_true q1296) | ((with_reducible refine gate_callee (f := 141) rfl ?_); refine goesL_ (some 39) rfl rfl Try.func141 (by kernel_rfl) rfl #[.string (rdOf ByteArray.empty t1285 2)] rfl (by (try simp only [List.map_toArray, List.map_cons, List.map_nil]); rfl) ?_; (with_reducible refine (impl_ParseRows.calls k (rdOf ByteArray.empty t1285 2) t1297 t1298 _ A9.out).mono ?_); rintro e w18 ⟨v1299, rfl, ho0, hb⟩; refine ⟨_, rfl, ?_⟩; have n0_ := Aside0.mk (Kd.R_below HO1287.out hb); have n1_ := Aside0.mk (Kd.R_elder' HO1295.out (Kd.R_base ho0) hb); have n2_ := Aside0.mk (Kd.R_lower (Kd.R_new' ho0 (Kd.R_lt HO1295.out)) (below_size HB.out)); have n3_ := Aside0.mk (blk_below (g := gb1284) (o := .cells #[.int .i64 0, .slice none 0 0, .slice none 0 0, .slice none 0 0, .int .i64 0] 40 (0, 0)) BK1284.out hb); have n4_ := Aside0.mk (below_step HB.out hb); clear HO1287; clear HO1295; clear BK1284; clear HB; have HO1287 := n0_; have HO1295 := n1_; have HO1300 := n2_; have BK1284 := n3_; have HB := n4_; clear n0_ n1_ n2_ n3_ n4_; (try clear hb); (try clear hb2); (try clear hk); (try clear hi); (try clear ho0); have p1301 : 0 ≤ (4 : Int) := (by omega); have q1301 : 4 < (t1285.length : Int) := of_decide_eq_true (by (with_reducible assumption)); obtain ⟨ad1301, e1301, hx1301_0⟩ := Kd.at_string (Kd.R_reads' HO1287.out).2.2 4 p1301 q1301; obtain rfl : ad1288 = ad1301 := (by injection e1301); (try simp only [show (4 : Int).toNat = 4 from rfl, Nat.reduceMul, Nat.reduceEqDiff, Go.Addr.add, ↓reduceIte] at hx1301_0); have qi1301 : (4 < t1285.length) = True := eq_true (by omega); (try rw [show ((4 : Int)).toNat = 4 from rfl] at hx1301_0); replace p1301 := eq_true p1301; replace q1301 := eq_true q1301) | ((with_reducible refine gate_callee (f := 140) rfl ?_); refine goesL_ (some 46) rfl rfl Try.func140 (by kernel_rfl) rfl #[.string (rdOf ByteArray.empty t1285 4)] rfl (by (try simp only [List.map_toArray, List.map_cons, List.map_nil]); rfl) ?_; (with_reducible refine (impl_ParseInt.calls k (rdOf ByteArray.empty t1285 4) t1302 t1303 _ A11.out).mono ?_); rintro e w19 ⟨rfl, hb⟩; refine ⟨_, rfl, ?_⟩; have n0_ := Aside0.mk (Kd.R_below HO1287.out hb); have n1_ := Aside0.mk (Kd.R_below HO1295.out hb); have n2_ := Aside0.mk (Kd.R_below HO1300.out hb); have n3_ := Aside0.mk (blk_below (g := gb1284) (o := .cells #[.int .i64 0, .slice none 0 0, .slice none 0 0, .slice none 0 0, .int .i64 0] 40 (0, 0)) BK1284.out hb); have n4_ := Aside0.mk (below_step HB.out hb); clear HO1287; clear HO1295; clear HO1300; clear BK1284; clear HB; have HO1287 := n0_; have HO1295 := n1_; have HO1300 := n2_; have BK1284 := n3_; have HB := n4_; clear n0_ n1_ n2_ n3_ n4_; (try clear hb); (try clear hb2); (try clear hk); (try clear hi); obtain ⟨Ao20, co20, eo20⟩ := Kd.R_slice HO1300.out; subst eo20; obtain ⟨Ao21, co21, eo21⟩ := Kd.R_slice HO1295.out; subst eo21) | ((with_reducible refine gate_dst (N := 13) rfl ?_); refine box_event ?hg (N := 13) ?hd (cs := #[.int .i64 0, .slice none 0 0, .slice none 0 0, .slice none 0 0, .int .i64 0]) (t := 40) ?hr ?_; (case hd => rfl); (case hg => rfl); (case hr => (go_simp; done)); intro gb1304 hg w22 hbox hb; have n0_ := Aside0.mk (Kd.R_below HO1287.out hb); have n1_ := Aside0.mk (Kd.R_below HO1295.out hb); have n2_ := Aside0.mk (Kd.R_below HO1300.out hb); have n3_ := Aside0.mk (blk_below (g := gb1284) (o := .cells #[.int .i64 0, .slice none 0 0, .slice none 0 0, .slice none 0 0, .int .i64 0] 40 (0, 0)) BK1284.out hb); have n4_ := Aside0.mk (below_step HB.out hb); have n5_ := Aside0.mk (hbox); have n6_ := Aside0.mk ((by rw [hg]; exact (below_size HB.out) : w.heap.size ≤ gb1304)); have n7_ := Aside0.mk ((by rw [hg]; exact (below_size HB.out) : w.heap.size ≤ gb1304)); have n8_ := Aside0.mk ((by rw [hg]; exact Nat.ne_of_lt (blk_lt (g := gb1284) (o := .cells #[.int .i64 0, .slice none 0 0, .slice none 0 0, .slice none 0 0, .int .i64 0] 40 (0, 0)) BK1284.out) : gb1284 ≠ gb1304)); have n9_ := Aside0.mk ((by rw [hg]; exact Nat.ne_of_gt (blk_lt (g := gb1284) (o := .cells #[.int .i64 0, .slice none 0 0, .slice none 0 0, .slice none 0 0, .int .i64 0] 40 (0, 0)) BK1284.out) : gb1304 ≠ gb1284)); clear HO1287; clear HO1295; clear HO1300; clear BK1284; clear HB; have HO1287 := n0_; have HO1295 := n1_; have HO1300 := n2_; have BK1284 := n3_; have HB := n4_; have BK1304 := n5_; have GW1304 := n6_; have GE1304 := n7_; have NB1284_1304 := n8_; have NB1304_1284 := n9_; clear n0_ n1_ n2_ n3_ n4_ n5_ n6_ n7_ n8_ n9_; clear hb hbox hg; have hnb23 := NB1304_1284.out; have hnc23 := NB1284_1304.out; have hcz24_0 : w22.cell? ⟨gb1304, 0, none⟩ = some (.int .i64 0) := (blk_cell BK1304.out 0).trans rfl; have hcz24_1 : w22.cell? ⟨gb1304, 1, none⟩ = some (.slice none 0 0) := (blk_cell BK1304.out 1).trans rfl; have hcz24_2 : w22.cell? ⟨gb1304, 2, none⟩ = some (.slice none 0 0) := (blk_cell BK1304.out 2).trans rfl; have hcz24_3 : w22.cell? ⟨gb1304, 3, none⟩ = some (.slice none 0 0) := (blk_cell BK1304.out 3).trans rfl; have hcz24_4 : w22.cell? ⟨gb1304, 4, none⟩ = some (.int .i64 0) := (blk_cell BK1304.out 4).trans rfl; have hfz24_0 := blk_frozen BK1304.out 0; have hfz24_1 := blk_frozen BK1304.out 1; have hfz24_2 := blk_frozen BK1304.out 2; have hfz24_3 := blk_frozen BK1304.out 3; have hfz24_4 := blk_frozen BK1304.out 4; have p1305 : 0 ≤ (3 : Int) := (by omega); have q1305 : 3 < (t1285.length : Int) := of_decide_eq_true (by (with_reducible assumption)); obtain ⟨ad1305, e1305, hx1305_0⟩ := Kd.at_string (Kd.R_reads' HO1287.out).2.2 3 p1305 q1305; obtain rfl : ad1288 = ad1305 := (by injection e1305); (try simp only [show (3 : Int).toNat = 3 from rfl, Nat.reduceMul, Nat.reduceEqDiff, Go.Addr.add, ↓reduceIte] at hx1305_0); have qi1305 : (3 < t1285.length) = True := eq_true (by omega); (try rw [show ((3 : Int)).toNat = 3 from rfl] at hx1305_0); have hn1305_0 : ad1288.block ≠ gb1304 := Kd.own_blk (Kd.R_ne HO1287.out BK1304.out (by decide)); have hn1305_1 : ad1288.block ≠ gb1304 := Kd.own_blk (Kd.R_ne HO1287.out BK1304.out (by decide)); have hn1305_2 : ad1288.block ≠ gb1304 := Kd.own_blk (Kd.R_ne HO1287.out BK1304.out (by decide)); have hn1305_3 : ad1288.block ≠ gb1304 := Kd.own_blk (Kd.R_ne HO1287.out BK1304.out (by decide)); have hn1305_4 : ad1288.block ≠ gb1304 := Kd.own_blk (Kd.R_ne HO1287.out BK1304.out (by decide)); replace hx1305_0 := (cell_far (p := ⟨gb1304, 0, none⟩) (by exact hn1305_0) (.int .i64 t1289)).trans hx1305_0; replace hx1305_0 := (cell_far (p := ⟨gb1304, 1, none⟩) (by exact hn1305_1) (.slice Ao21 t1292.length co21)).trans hx1305_0; replace hx1305_0 := (cell_far (p := ⟨gb1304, 2, none⟩) (by exact hn1305_2) (.slice Ao20 t1297.length co20)).trans hx1305_0; replace hx1305_0 := (cell_far (p := ⟨gb1304, 3, none⟩) (by exact hn1305_3) (.slice none 0 0)).trans hx1305_0; replace hx1305_0 := (cell_far (p := ⟨gb1304, 4, none⟩) (by exact hn1305_4) (.int .i64 t1302)).trans hx1305_0; clear hn1305_0; clear hn1305_1; clear hn1305_2; clear hn1305_3; clear hn1305_4; replace p1305 := eq_true p1305; replace q1305 := eq_true q1305))
       go_loopg [58] k (fun kq v58 w' => ∃ (x58_1 : Int) (x1305003_1 : List Bool) (u1305003 : Value), v58 = .int .i64 x58_1 ∧ Aside0 (impl_ParseTask.l0 kq a0 t1285 t1290 t1293 t1298 t1303 ((rdOf ByteArray.empty t1285 3).size : Int) x58_1 t1289 t1292 t1297 x1305003_1 t1302 = some (r1, r2, r3, r4, r5, r6)) ∧ Aside0 (kq ≤ k) ∧ Aside0 (Kd.R Kd.string 9 w' w.heap.size (fun _ => True) (.slice (some ad1288) t1285.length co15) t1285) ∧ Aside0 (Kd.R k60 60 w' w.heap.size (fun k_ => some k_ ≠ ((.slice Ao20 t1297.length co20) : Value).ownBlock) (.slice Ao21 t1292.length co21) t1292) ∧ Aside0 (Kd.R k60 60 w' w.heap.size (fun k_ => some k_ ≠ ((.slice Ao21 t1292.length co21) : Value).ownBlock) (.slice Ao20 t1297.length co20) t1297) ∧ Aside0 (Kd.R Kd.bool 4 w' w.heap.size (fun _ => True) u1305003 x1305003_1) ∧ Aside0 (w'.heap[gb1284]? = some (.cells #[.int .i64 0, (.slice none 0 0), (.slice none 0 0), (.slice none 0 0), .int .i64 0] 40 (0, 0))) ∧ Aside0 (w'.heap[gb1304]? = some (.cells #[.int .i64 t1289, (.slice Ao21 t1292.length co21), (.slice Ao20 t1297.length co20), u1305003, .int .i64 t1302] 40 (0, 0))) ∧ Aside0 (Below w.heap.size w w'))
       case atStart => exact ⟨(0), (([] : List Bool)), (.slice none 0 0), rfl, H', ⟨Nat.le_refl _⟩, ⟨by exact Kd.R_mono (Kd.R_far (p := ⟨gb1304, 4, none⟩) (Kd.R_far (p := ⟨gb1304, 3, none⟩) (Kd.R_far (p := ⟨gb1304, 2, none⟩) (Kd.R_far (p := ⟨gb1304, 1, none⟩) (Kd.R_far (p := ⟨gb1304, 0, none⟩) (Kd.R_types HO1287.out BK1304.out (by decide)) (fun _ hk => hk.2) (.int .i64 t1289)) (fun _ hk => hk.2) (.slice Ao21 t1292.length co21)) (fun _ hk => hk.2) (.slice Ao20 t1297.length co20)) (fun _ hk => hk.2) (.slice none 0 0)) (fun _ hk => hk.2) (.int .i64 t1302)) (fun _ hk => trivial)⟩, ⟨by exact Kd.R_mono (Kd.R_far (p := ⟨gb1304, 4, none⟩) (Kd.R_far (p := ⟨gb1304, 3, none⟩) (Kd.R_far (p := ⟨gb1304, 2, none⟩) (Kd.R_far (p := ⟨gb1304, 1, none⟩) (Kd.R_far (p := ⟨gb1304, 0, none⟩) (Kd.R_types HO1295.out BK1304.out (by decide)) (fun _ hk => hk.2) (.int .i64 t1289)) (fun _ hk => hk.2) (.slice Ao21 t1292.length co21)) (fun _ hk => hk.2) (.slice Ao20 t1297.length co20)) (fun _ hk => hk.2) (.slice none 0 0)) (fun _ hk => hk.2) (.int .i64 t1302)) (fun _ hk => hk.1.2)⟩, ⟨by exact Kd.R_mono (Kd.R_far (p := ⟨gb1304, 4, none⟩) (Kd.R_far (p := ⟨gb1304, 3, none⟩) (Kd.R_far (p := ⟨gb1304, 2, none⟩) (Kd.R_far (p := ⟨gb1304, 1, none⟩) (Kd.R_far (p := ⟨gb1304, 0, none⟩) (Kd.R_types HO1300.out BK1304.out (by decide)) (fun _ hk => hk.2) (.int .i64 t1289)) (fun _ hk => hk.2) (.slice Ao21 t1292.length co21)) (fun _ hk => hk.2) (.slice Ao20 t1297.length co20)) (fun _ hk => hk.2) (.slice none 0 0)) (fun _ hk => hk.2) (.int .i64 t1302)) (fun _ hk => hk.1.2)⟩, ⟨by exact Kd.R_nil _ _ _ _ _⟩, ⟨by refine blk_far ?_ NB1284_1304.out _; refine blk_far ?_ NB1284_1304.out _; refine blk_far ?_ NB1284_1304.out _; refine blk_far ?_ NB1284_1304.out _; refine blk_far ?_ NB1284_1304.out _; exact BK1284.out⟩, ⟨by refine blk_put (cs := #[.int .i64 t1289, .slice Ao21 t1292.length co21, .slice Ao20 t1297.length co20, .slice none 0 0, .int .i64 0]) ?_ 4 _ rfl; refine blk_put (cs := #[.int .i64 t1289, .slice Ao21 t1292.length co21, .slice Ao20 t1297.length co20, .slice none 0 0, .int .i64 0]) ?_ 3 _ rfl; refine blk_put (cs := #[.int .i64 t1289, .slice Ao21 t1292.length co21, .slice none 0 0, .slice none 0 0, .int .i64 0]) ?_ 2 _ rfl; refine blk_put (cs := #[.int .i64 t1289, .slice none 0 0, .slice none 0 0, .slice none 0 0, .int .i64 0]) ?_ 1 _ rfl; refine blk_put (cs := #[.int .i64 0, .slice none 0 0, .slice none 0 0, .slice none 0 0, .int .i64 0]) ?_ 0 _ rfl; exact BK1304.out⟩, ⟨by repeat ((with_reducible first | exact HB.out | refine below_set ?_ GE1304.out))⟩⟩
       case round =>
        clear H'
        try clear c3b0
        try clear c3b1
        try clear c4b0
        try clear c4b1
        try clear c6b0
        try clear c6b1
        try clear c8b0
        try clear c8b1
        try clear c10b0
        try clear c10b1
        try clear c12b0
        try clear c12b1
        try clear hcz24_0
        try clear hcz24_1
        try clear hcz24_2
        try clear hcz24_3
        try clear hcz24_4
        try clear hfz24_0
        try clear hfz24_1
        try clear hfz24_2
        try clear hfz24_3
        try clear hfz24_4
        try clear hx1288_0
        try clear hx1291_0
        try clear hx1296_0
        try clear hx1301_0
        try clear hx1305_0
        try clear p1288
        try clear p1291
        try clear p1296
        try clear p1301
        try clear p1305
        try clear q1288
        try clear q1291
        try clear q1296
        try clear q1301
        try clear q1305
        obtain ⟨x58_1, x1305003_1, u1305003, rfl, HA, HK1, HO_4, HO_1305001, HO_1305002, HO_1305003, BK1284, BK1304, HB⟩ := hrel
        cases gk with
        | zero => exact absurd HA.out (by simp [impl_ParseTask.l0])
        | succ k1 =>
         have H := HA.out
         clear HA
         simp only [impl_ParseTask.l0] at H
         by_cases c25 : x58_1 < ((rdOf ByteArray.empty t1285 3).size : Int)
         ·rw [if_pos c25] at H
          have c25b0 : decide (x58_1 < ((rdOf ByteArray.empty t1285 3).size : Int)) = true := decide_eq_true c25
          clear c25
          by_cases c26 : 3 < (t1285.length : Int)
          ·rw [if_pos c26] at H
           have c26b0 : decide (3 < (t1285.length : Int)) = true := decide_eq_true c26
           have c26b1 : decide (3 < t1285.length) = true := decide_eq_true (by omega)
           clear c26
           by_cases c27 : 0 ≤ x58_1
           ·rw [if_pos c27] at H
            have c27b0 : decide (0 ≤ x58_1) = true := decide_eq_true c27
            clear c27
            by_cases c28 : x58_1 < ((rdOf ByteArray.empty t1285 3).size : Int)
            ·rw [if_pos c28] at H
             have c28b0 : decide (x58_1 < ((rdOf ByteArray.empty t1285 3).size : Int)) = true := decide_eq_true c28
             clear c28
             by_cases c30 : x1305003_1.length < 140737488355328
             ·rw [if_pos c30] at H
              have LMc30 := Aside0.mk c30
              clear c30
              obtain ⟨y1307, hy1307⟩ : ∃ y_ : List Bool, y_ = (x1305003_1 ++ [((bt (rdOf ByteArray.empty t1285 3) x58_1) == 49)]) := ⟨_, rfl⟩
              replace H : (impl_ParseTask.l0 k1 a0 t1285 t1290 t1293 t1298 t1303 ((rdOf ByteArray.empty t1285 3).size : Int) (wrap64 (x58_1 + 1)) t1289 t1292 t1297 y1307 t1302) = some (r1, r2, r3, r4, r5, r6) := by (rw [hy1307]; with_reducible exact H)
              have Ny1307 := Aside0.mk hy1307
              clear hy1307
              have H' := Aside0.mk H
              clear H
              try go_wp2
              have n0_ := Aside0.mk (Kd.R_drew HO_4.out)
              have n1_ := Aside0.mk (Kd.R_drew HO_1305001.out)
              have n2_ := Aside0.mk (Kd.R_drew HO_1305002.out)
              have n3_ := Aside0.mk (Kd.R_drew HO_1305003.out)
              have n4_ := Aside0.mk (blk_drew BK1284.out)
              have n5_ := Aside0.mk (blk_drew BK1304.out)
              have n6_ := Aside0.mk (below_drew1 HB.out)
              clear HO_4
              clear HO_1305001
              clear HO_1305002
              clear HO_1305003
              clear BK1284
              clear BK1304
              clear HB
              have HO_4 := n0_
              have HO_1305001 := n1_
              have HO_1305002 := n2_
              have HO_1305003 := n3_
              have BK1284 := n4_
              have BK1304 := n5_
              have HB := n6_
              clear n0_ n1_ n2_ n3_ n4_ n5_ n6_
              have p1306 : 0 ≤ (3 : Int) := (by omega)
              have q1306 : 3 < (t1285.length : Int) := of_decide_eq_true (by (with_reducible assumption))
              obtain ⟨ad1306, e1306, hx1306_0⟩ := Kd.at_string (Kd.R_reads' HO_4.out).2.2 3 p1306 q1306
              obtain rfl : ad1288 = ad1306 := (by injection e1306)
              (try simp only [show (3 : Int).toNat = 3 from rfl, Nat.reduceMul, Nat.reduceEqDiff, Go.Addr.add, ↓reduceIte] at hx1306_0)
              have qi1306 : (3 < t1285.length) = True := eq_true (by omega)
              (try rw [show ((3 : Int)).toNat = 3 from rfl] at hx1306_0)
              replace p1306 := eq_true p1306
              replace q1306 := eq_true q1306
              have p29 : 0 ≤ (x58_1 : Int) := of_decide_eq_true (by (with_reducible assumption))
              have q29 : x58_1 < ((rdOf ByteArray.empty t1285 3).size : Int) := of_decide_eq_true (by (with_reducible assumption))
              have hx29 := bt_at (rdOf ByteArray.empty t1285 3) x58_1
              replace p29 := eq_true p29
              replace q29 := eq_true q29
              refine start_ (n := 12) (S := fun w' => w'.cell? ⟨gb1304, 0, none⟩ = some (.int .i64 t1289) ∧ w'.cell? ⟨gb1304, 1, none⟩ = some (.slice Ao21 t1292.length co21) ∧ w'.cell? ⟨gb1304, 2, none⟩ = some (.slice Ao20 t1297.length co20) ∧ w'.cell? ⟨gb1304, 3, none⟩ = some (u1305003) ∧ w'.cell? ⟨gb1304, 4, none⟩ = some (.int .i64 t1302) ∧ w'.cell? ⟨ad1288.block, ad1288.off + 3, none⟩ = some (.string (rdOf ByteArray.empty t1285 3))) (ds := [9, 11]) #[false, false, false, false, false, false, false, false, false, false, false, false] (by kernel_rfl) rfl rfl ⟨(blk_cell BK1304.out 0).trans rfl, (blk_cell BK1304.out 1).trans rfl, (blk_cell BK1304.out 2).trans rfl, (blk_cell BK1304.out 3).trans rfl, (blk_cell BK1304.out 4).trans rfl, hx1306_0⟩ (fun hHeld => ?_); refine with_tabW impl_ParseTask.tab12 impl_ParseTask.bits12 (fun HT_ HW_ => ?_)
              generalize wr.drew = w31 at HO_4 HO_1305001 HO_1305002 HO_1305003 BK1284 BK1304 HB hx1306_0 hHeld ⊢
              refine pure_ (i := 0) (N := some 61) (v := ?_) (a' := ?_) #[true, false, false, false, false, false, false, false, false, false, false, false] rfl rfl (any_of HT_.out (by kernel_rfl)) (fun _ _ _ h => h) (Or.inl ⟨rfl, ?_⟩) ?_ ?_
              rotate_left
              ·intro w'
               go_simp
               with_reducible rfl
              rotate_left
              ·simp only [Act.put, List.setIfInBounds_toArray, List.set_cons_zero, List.set_cons_succ, i64_w, i32_w]
               rfl
              refine pure_ (i := 2) (N := some 63) (v := ?_) (a' := ?_) #[true, false, true, false, false, false, false, false, false, false, false, false] rfl rfl (any_of HT_.out (by kernel_rfl)) (fun _ _ _ h => h) (Or.inl ⟨rfl, ?_⟩) ?_ ?_
              rotate_left
              ·intro w'
               go_simp
               with_reducible rfl
              rotate_left
              ·simp only [Act.put, List.setIfInBounds_toArray, List.set_cons_zero, List.set_cons_succ, i64_w, i32_w]
               rfl
              refine pure_ (i := 3) (N := some 64) (v := ?_) (a' := ?_) #[true, false, true, true, false, false, false, false, false, false, false, false] rfl rfl (any_of HT_.out (by kernel_rfl)) (fun _ _ _ h => h) (Or.inl ⟨rfl, ?_⟩) ?_ ?_
              rotate_left
              ·intro w'
               go_simp
               with_reducible rfl
              rotate_left
              ·simp only [Act.put, List.setIfInBounds_toArray, List.set_cons_zero, List.set_cons_succ, i64_w, i32_w]
               rfl
              refine pure_ (i := 5) (N := some 66) (v := ?_) (a' := ?_) #[true, false, true, true, false, true, false, false, false, false, false, false] rfl rfl (any_of HT_.out (by kernel_rfl)) (fun _ _ _ h => h) (Or.inl ⟨rfl, ?_⟩) ?_ ?_
              rotate_left
              ·intro w'
               go_simp
               with_reducible rfl
              rotate_left
              ·simp only [Act.put, List.setIfInBounds_toArray, List.set_cons_zero, List.set_cons_succ, i64_w, i32_w]
               rfl
              refine take_ (i := 1) (N := some 62) (v := ?_) (a' := ?_) #[true, true, true, true, false, true, false, false, false, false, false, false] rfl rfl (take_ofW HT_.out HW_.out (by kernel_rfl)) (fun _ _ _ h => h) (Or.inl ⟨rfl, ?_⟩) hHeld ?_ ?_
              rotate_left
              ·rintro w' ⟨s0, s1, s2, s3, s4, s5⟩
               go_simp
               with_reducible rfl
              rotate_left
              ·simp only [Act.put, List.setIfInBounds_toArray, List.set_cons_zero, List.set_cons_succ, i64_w, i32_w]
               rfl
              refine take_ (i := 4) (N := some 65) (v := ?_) (a' := ?_) #[true, true, true, true, true, true, false, false, false, false, false, false] rfl rfl (take_ofW HT_.out HW_.out (by kernel_rfl)) (fun _ _ _ h => h) (Or.inl ⟨rfl, ?_⟩) hHeld ?_ ?_
              rotate_left
              ·rintro w' ⟨s0, s1, s2, s3, s4, s5⟩
               go_simp
               with_reducible rfl
              rotate_left
              ·simp only [Act.put, List.setIfInBounds_toArray, List.set_cons_zero, List.set_cons_succ, i64_w, i32_w]
               rfl
              refine take_ (i := 6) (N := some 67) (v := ?_) (a' := ?_) #[true, true, true, true, true, true, true, false, false, false, false, false] rfl rfl (take_ofW HT_.out HW_.out (by kernel_rfl)) (fun _ _ _ h => h) (Or.inl ⟨rfl, ?_⟩) hHeld ?_ ?_
              rotate_left
              ·rintro w' ⟨s0, s1, s2, s3, s4, s5⟩
               go_simp
               with_reducible rfl
              rotate_left
              ·simp only [Act.put, List.setIfInBounds_toArray, List.set_cons_zero, List.set_cons_succ, i64_w, i32_w]
               rfl
              refine pure_ (i := 7) (N := some 68) (v := ?_) (a' := ?_) #[true, true, true, true, true, true, true, true, false, false, false, false] rfl rfl (any_of HT_.out (by kernel_rfl)) (fun _ _ _ h => h) (Or.inl ⟨rfl, ?_⟩) ?_ ?_
              rotate_left
              ·intro w'
               go_simp
               with_reducible rfl
              rotate_left
              ·simp only [Act.put, List.setIfInBounds_toArray, List.set_cons_zero, List.set_cons_succ, i64_w, i32_w]
               rfl
              refine one_ (i := 8) (N := some 69) #[true, true, true, true, true, true, true, true, true, false, false, false] rfl rfl (one_of HT_.out (by kernel_rfl)) (by decide) (fun K hK => ?_)
              refine value_ (w1 := ?_) (v := ?_) rfl rfl ?_ ?_
              rotate_left 2
              ·go_simp
               constructor
               ·rfl
               ·rfl
              refine hK.out _ _ ⟨(blk_cell (blk_alloc BK1304.out _) 0).trans rfl, (blk_cell (blk_alloc BK1304.out _) 1).trans rfl, (blk_cell (blk_alloc BK1304.out _) 2).trans rfl, (blk_cell (blk_alloc BK1304.out _) 3).trans rfl, (blk_cell (blk_alloc BK1304.out _) 4).trans rfl, (World.cell?_alloc_lt _ _ _ (World.block_lt_of_cell? _ _ (hHeld.2.2.2.2.2))).trans (hHeld.2.2.2.2.2)⟩ (fun hHeld => ?_)
              clear hK K
              refine norm_ (a' := ?_) ?_ ?_
              rotate_left
              ·show Act.put _ (some 69) _ = _
               simp only [Act.put, List.setIfInBounds_toArray, List.set_cons_zero, List.set_cons_succ, i64_w, i32_w]
               rfl
              refine last_ (i := 9) (N := some 70) #[true, true, true, true, true, true, true, true, true, true, false, false] rfl rfl (one_of HT_.out (by kernel_rfl)) (by decide) (fun K hK => ?_)
              refine Kd.R_append_step Kd.bool (w0 := w) w.heap.size rfl (.tmp 62) (.tmp 69) 38 4 (.bool false) 1 rfl Try.underlying38 info4 rfl (by decide) (by omega) u1305003 x1305003_1 ((bt (rdOf ByteArray.empty t1285 3) x58_1) == 49) [.bool ((bt (rdOf ByteArray.empty t1285 3) x58_1) == 49)] (fun _ => True) (fun _ => False) rfl rfl ?aP (fun _ hk => hk.elim) ?aF ?aO ?aB ?aS ?aL ?_
              (case aP => exact rfl)
              (case aB => exact HB.out)
              (case aF => exact (fun _ _ => trivial))
              (case aO => exact HO_1305003.out)
              (case aS => exact (below_size HB.out))
              (case aL => have := LMc30.out; omega)
              intro v1308 w32 ho hb hg hat
              rw [← Ny1307.out] at ho
              have n0_ := Aside0.mk (Kd.R_over' HO_4.out (Kd.R_typed HO_1305003.out) (by decide) hg)
              have n1_ := Aside0.mk (Kd.R_over' HO_1305001.out (Kd.R_typed HO_1305003.out) (by decide) hg)
              have n2_ := Aside0.mk (Kd.R_over' HO_1305002.out (Kd.R_typed HO_1305003.out) (by decide) hg)
              have n3_ := Aside0.mk (blk_grown (g := gb1284) (o := .cells #[.int .i64 0, .slice none 0 0, .slice none 0 0, .slice none 0 0, .int .i64 0] 40 (0, 0)) BK1284.out hg (Kd.R_ne HO_1305003.out BK1284.out (by decide)))
              have n4_ := Aside0.mk (blk_grown (g := gb1304) (o := .cells #[.int .i64 t1289, .slice Ao21 t1292.length co21, .slice Ao20 t1297.length co20, u1305003, .int .i64 t1302] 40 (0, 0)) BK1304.out hg (Kd.R_ne HO_1305003.out BK1304.out (by decide)))
              have n5_ := Aside0.mk (hb)
              have n6_ := Aside0.mk (ho)
              clear HO_4
              clear HO_1305001
              clear HO_1305002
              clear BK1284
              clear BK1304
              clear HB
              clear HO_1305003
              have HO_4 := n0_
              have HO_1305001 := n1_
              have HO_1305002 := n2_
              have BK1284 := n3_
              have BK1304 := n4_
              have HB := n5_
              have HO1309 := n6_
              clear n0_ n1_ n2_ n3_ n4_ n5_ n6_
              clear ho hb hg hat
              obtain ⟨Ao33, co33, eo33⟩ := Kd.R_slice HO1309.out
              (subst eo33)
              refine hK.out _ _ ?_
              clear hK K
              refine norm_ (a' := ?_) ?_ ?_
              rotate_left
              ·show Act.put _ (some 70) _ = _
               simp only [Act.put, List.setIfInBounds_toArray, List.set_cons_zero, List.set_cons_succ, i64_w, i32_w]
               rfl
              refine pure_ (i := 10) (N := some 71) (v := ?_) (a' := ?_) #[true, true, true, true, true, true, true, true, true, true, true, false] rfl rfl (any_of HT_.out (by kernel_rfl)) (fun _ _ _ h => h) (Or.inl ⟨rfl, ?_⟩) ?_ ?_
              rotate_left
              ·intro w'
               go_simp
               with_reducible rfl
              rotate_left
              ·simp only [Act.put, List.setIfInBounds_toArray, List.set_cons_zero, List.set_cons_succ, i64_w, i32_w]
               rfl
              refine last_ (i := 11) (N := none) #[true, true, true, true, true, true, true, true, true, true, true, true] rfl rfl (one_of HT_.out (by kernel_rfl)) (by decide) (fun K hK => ?_)
              have hs34 : w32.cell? ⟨gb1304, 3, none⟩ = some (u1305003) := (blk_cell BK1304.out 3).trans rfl
              have hfs34 := blk_frozen BK1304.out 3
              have hns34_0 := NB1284_1304.out
              have hms34_0 := NB1304_1284.out
              refine skip_ (w1 := ?_) rfl rfl ?_ ?_
              rotate_left
              ·go_simp
               rfl
              refine hK.out _ _ ?_
              clear hK K
              refine done_ (done_of HT_.out (by kernel_rfl)) ?_
              try go_wp2
              go_roundg k1
              case measure => have := HK1.out; omega
              case rel => exact ⟨(wrap64 (x58_1 + 1)), (y1307), (.slice Ao33 y1307.length co33), rfl, H', ⟨by have := HK1.out; omega⟩, ⟨by exact Kd.R_mono (Kd.R_far (p := ⟨gb1304, 3, none⟩) (Kd.R_types HO_4.out BK1304.out (by decide)) (fun _ hk => hk.2) (.slice Ao33 y1307.length co33)) (fun _ hk => trivial)⟩, ⟨by exact Kd.R_mono (Kd.R_far (p := ⟨gb1304, 3, none⟩) (Kd.R_types HO_1305001.out BK1304.out (by decide)) (fun _ hk => hk.2) (.slice Ao33 y1307.length co33)) (fun _ hk => hk.1)⟩, ⟨by exact Kd.R_mono (Kd.R_far (p := ⟨gb1304, 3, none⟩) (Kd.R_types HO_1305002.out BK1304.out (by decide)) (fun _ hk => hk.2) (.slice Ao33 y1307.length co33)) (fun _ hk => hk.1)⟩, ⟨by exact Kd.R_mono (Kd.R_far (p := ⟨gb1304, 3, none⟩) (Kd.R_types HO1309.out BK1304.out (by decide)) (fun _ hk => hk.2) (.slice Ao33 y1307.length co33)) (fun _ hk => trivial)⟩, ⟨by refine blk_far ?_ NB1284_1304.out _; exact BK1284.out⟩, ⟨by refine blk_put (cs := #[.int .i64 t1289, .slice Ao21 t1292.length co21, .slice Ao20 t1297.length co20, u1305003, .int .i64 t1302]) ?_ 3 _ rfl; exact BK1304.out⟩, ⟨by repeat ((with_reducible first | exact HB.out | refine below_set ?_ GE1304.out))⟩⟩
             ·rw [if_neg c30] at H
              exact absurd H (by simp)
            ·rw [if_neg c28] at H
             exact absurd H (by simp)
           ·rw [if_neg c27] at H
            exact absurd H (by simp)
          ·rw [if_neg c26] at H
           exact absurd H (by simp)
         ·rw [if_neg c25] at H
          have c25b0 : decide (x58_1 < ((rdOf ByteArray.empty t1285 3).size : Int)) = false := decide_eq_false c25
          clear c25
          by_cases c35 : t1290 = true
          ·subst c35
           rw [if_pos rfl] at H
           by_cases c36 : t1293 = true
           ·subst c36
            rw [if_pos rfl] at H
            by_cases c37 : t1298 = true
            ·subst c37
             rw [if_pos rfl] at H
             by_cases c38 : t1303 = true
             ·subst c38
              rw [if_pos rfl] at H
              replace H := Option.bind_eq_some_iff.mp H
              obtain ⟨t1310, A390, H⟩ := H
              have A39 := Aside0.mk A390
              clear A390
              by_cases c40 : t1310 = true
              ·subst c40
               rw [if_pos rfl] at H
               replace H := Option.bind_eq_some_iff.mp H
               obtain ⟨t1311, A410, H⟩ := H
               have A41 := Aside0.mk A410
               clear A410
               by_cases c42 : t1311.toList = a0.toList
               ·rw [if_pos c42] at H
                have c42b0 : (t1311.toList == a0.toList) = true := beq_iff_eq.mpr c42
                have c42b1 : (t1311.toList != a0.toList) = false := bne_eq_false_iff_eq.mpr c42
                clear c42
                simp only [Option.some.injEq, Prod.mk.injEq] at H
                obtain ⟨rfl, rfl, rfl, rfl, rfl, rfl⟩ := H
                have hnb43 := NB1304_1284.out
                have hnc43 := NB1284_1304.out
                have hcz44_0 : wr.cell? ⟨gb1304, 0, none⟩ = some (.int .i64 t1289) := (blk_cell BK1304.out 0).trans rfl
                have hcz44_1 : wr.cell? ⟨gb1304, 1, none⟩ = some (.slice Ao21 t1292.length co21) := (blk_cell BK1304.out 1).trans rfl
                have hcz44_2 : wr.cell? ⟨gb1304, 2, none⟩ = some (.slice Ao20 t1297.length co20) := (blk_cell BK1304.out 2).trans rfl
                have hcz44_3 : wr.cell? ⟨gb1304, 3, none⟩ = some (u1305003) := (blk_cell BK1304.out 3).trans rfl
                have hcz44_4 : wr.cell? ⟨gb1304, 4, none⟩ = some (.int .i64 t1302) := (blk_cell BK1304.out 4).trans rfl
                have hfz44_0 := blk_frozen BK1304.out 0
                have hfz44_1 := blk_frozen BK1304.out 1
                have hfz44_2 := blk_frozen BK1304.out 2
                have hfz44_3 := blk_frozen BK1304.out 3
                have hfz44_4 := blk_frozen BK1304.out 4
                obtain ⟨Ao45, co45, eo45⟩ := Kd.R_slice HO_1305003.out
                subst eo45
                go_wp2_with (first | (go_at_call 39; (with_reducible refine (impl_IsValidTask.calls k1 t1289 _ _ t1292 _ _ t1297 _ _ x1305003_1 t1302 true _ ?side1 ?side2 ?side3 ?side4 ?side5 ?side6 A39.out).mono ?_); (case side1 => repeat (exact (Kd.R_reads' HO_1305001.out).2.2)); (case side2 => exact (Kd.R_reads' HO_1305001.out).2.1); (case side3 => repeat (exact (Kd.R_reads' HO_1305002.out).2.2)); (case side4 => exact (Kd.R_reads' HO_1305002.out).2.1); (case side5 => repeat (exact (Kd.R_reads' HO_1305003.out).2.2)); (case side6 => exact (Kd.R_reads' HO_1305003.out).2.1); rintro e w46 ⟨rfl, hb⟩; have n0_ := Aside0.mk (Kd.R_below HO_4.out hb); have n1_ := Aside0.mk (Kd.R_below HO_1305001.out hb); have n2_ := Aside0.mk (Kd.R_below HO_1305002.out hb); have n3_ := Aside0.mk (Kd.R_below HO_1305003.out hb); have n4_ := Aside0.mk (blk_below (g := gb1284) (o := .cells #[.int .i64 0, .slice none 0 0, .slice none 0 0, .slice none 0 0, .int .i64 0] 40 (0, 0)) BK1284.out hb); have n5_ := Aside0.mk (blk_below (g := gb1304) (o := .cells #[.int .i64 t1289, .slice Ao21 t1292.length co21, .slice Ao20 t1297.length co20, .slice Ao45 x1305003_1.length co45, .int .i64 t1302] 40 (0, 0)) BK1304.out hb); have n6_ := Aside0.mk (below_step HB.out hb); clear HO_4; clear HO_1305001; clear HO_1305002; clear HO_1305003; clear BK1284; clear BK1304; clear HB; have HO_4 := n0_; have HO_1305001 := n1_; have HO_1305002 := n2_; have HO_1305003 := n3_; have BK1284 := n4_; have BK1304 := n5_; have HB := n6_; clear n0_ n1_ n2_ n3_ n4_ n5_ n6_; (try clear hb); (try clear hb2); (try clear hk); (try clear hi); have hcz47_0 : w46.cell? ⟨gb1304, 0, none⟩ = some (.int .i64 t1289) := (blk_cell BK1304.out 0).trans rfl; have hcz47_1 : w46.cell? ⟨gb1304, 1, none⟩ = some (.slice Ao21 t1292.length co21) := (blk_cell BK1304.out 1).trans rfl; have hcz47_2 : w46.cell? ⟨gb1304, 2, none⟩ = some (.slice Ao20 t1297.length co20) := (blk_cell BK1304.out 2).trans rfl; have hcz47_3 : w46.cell? ⟨gb1304, 3, none⟩ = some (.slice Ao45 x1305003_1.length co45) := (blk_cell BK1304.out 3).trans rfl; have hcz47_4 : w46.cell? ⟨gb1304, 4, none⟩ = some (.int .i64 t1302) := (blk_cell BK1304.out 4).trans rfl; have hfz47_0 := blk_frozen BK1304.out 0; have hfz47_1 := blk_frozen BK1304.out 1; have hfz47_2 := blk_frozen BK1304.out 2; have hfz47_3 := blk_frozen BK1304.out 3; have hfz47_4 := blk_frozen BK1304.out 4) | (go_at_call 57; (with_reducible refine (impl_FormatTask.calls k1 t1289 _ _ t1292 _ _ t1297 _ _ x1305003_1 t1302 t1311 _ ?side1 ?side2 ?side3 ?side4 ?side5 ?side6 A41.out).mono ?_); (case side1 => repeat (exact (Kd.R_reads' HO_1305001.out).2.2)); (case side2 => exact (Kd.R_reads' HO_1305001.out).2.1); (case side3 => repeat (exact (Kd.R_reads' HO_1305002.out).2.2)); (case side4 => exact (Kd.R_reads' HO_1305002.out).2.1); (case side5 => repeat (exact (Kd.R_reads' HO_1305003.out).2.2)); (case side6 => exact (Kd.R_reads' HO_1305003.out).2.1); rintro e w48 ⟨rfl, hb⟩; have n0_ := Aside0.mk (Kd.R_below HO_4.out hb); have n1_ := Aside0.mk (Kd.R_below HO_1305001.out hb); have n2_ := Aside0.mk (Kd.R_below HO_1305002.out hb); have n3_ := Aside0.mk (Kd.R_below HO_1305003.out hb); have n4_ := Aside0.mk (blk_below (g := gb1284) (o := .cells #[.int .i64 0, .slice none 0 0, .slice none 0 0, .slice none 0 0, .int .i64 0] 40 (0, 0)) BK1284.out hb); have n5_ := Aside0.mk (blk_below (g := gb1304) (o := .cells #[.int .i64 t1289, .slice Ao21 t1292.length co21, .slice Ao20 t1297.length co20, .slice Ao45 x1305003_1.length co45, .int .i64 t1302] 40 (0, 0)) BK1304.out hb); have n6_ := Aside0.mk (below_step HB.out hb); clear HO_4; clear HO_1305001; clear HO_1305002; clear HO_1305003; clear BK1284; clear BK1304; clear HB; have HO_4 := n0_; have HO_1305001 := n1_; have HO_1305002 := n2_; have HO_1305003 := n3_; have BK1284 := n4_; have BK1304 := n5_; have HB := n6_; clear n0_ n1_ n2_ n3_ n4_ n5_ n6_; (try clear hb); (try clear hb2); (try clear hk); (try clear hi); have hcz49_0 : w48.cell? ⟨gb1304, 0, none⟩ = some (.int .i64 t1289) := (blk_cell BK1304.out 0).trans rfl; have hcz49_1 : w48.cell? ⟨gb1304, 1, none⟩ = some (.slice Ao21 t1292.length co21) := (blk_cell BK1304.out 1).trans rfl; have hcz49_2 : w48.cell? ⟨gb1304, 2, none⟩ = some (.slice Ao20 t1297.length co20) := (blk_cell BK1304.out 2).trans rfl; have hcz49_3 : w48.cell? ⟨gb1304, 3, none⟩ = some (.slice Ao45 x1305003_1.length co45) := (blk_cell BK1304.out 3).trans rfl; have hcz49_4 : w48.cell? ⟨gb1304, 4, none⟩ = some (.int .i64 t1302) := (blk_cell BK1304.out 4).trans rfl; have hfz49_0 := blk_frozen BK1304.out 0; have hfz49_1 := blk_frozen BK1304.out 1; have hfz49_2 := blk_frozen BK1304.out 2; have hfz49_3 := blk_frozen BK1304.out 3; have hfz49_4 := blk_frozen BK1304.out 4; have hcz50_0 : w48.cell? ⟨gb1284, 0, none⟩ = some (.int .i64 0) := (blk_cell BK1284.out 0).trans rfl; have hcz50_1 : w48.cell? ⟨gb1284, 1, none⟩ = some (.slice none 0 0) := (blk_cell BK1284.out 1).trans rfl; have hcz50_2 : w48.cell? ⟨gb1284, 2, none⟩ = some (.slice none 0 0) := (blk_cell BK1284.out 2).trans rfl; have hcz50_3 : w48.cell? ⟨gb1284, 3, none⟩ = some (.slice none 0 0) := (blk_cell BK1284.out 3).trans rfl; have hcz50_4 : w48.cell? ⟨gb1284, 4, none⟩ = some (.int .i64 0) := (blk_cell BK1284.out 4).trans rfl; have hfz50_0 := blk_frozen BK1284.out 0; have hfz50_1 := blk_frozen BK1284.out 1; have hfz50_2 := blk_frozen BK1284.out 2; have hfz50_3 := blk_frozen BK1284.out 3; have hfz50_4 := blk_frozen BK1284.out 4))
                refine bodyPost_ret (results_ct rfl _ _ gb1284 40 #[.int .i64 t1289, .slice Ao21 t1292.length co21, .slice Ao20 t1297.length co20, .slice Ao45 x1305003_1.length co45, .int .i64 t1302] (0, 0) _ rfl (by refine blk_put (cs := #[.int .i64 t1289, .slice Ao21 t1292.length co21, .slice Ao20 t1297.length co20, .slice Ao45 x1305003_1.length co45, .int .i64 0]) ?_ 4 _ rfl; refine blk_put (cs := #[.int .i64 t1289, .slice Ao21 t1292.length co21, .slice Ao20 t1297.length co20, .slice none 0 0, .int .i64 0]) ?_ 3 _ rfl; refine blk_put (cs := #[.int .i64 t1289, .slice Ao21 t1292.length co21, .slice none 0 0, .slice none 0 0, .int .i64 0]) ?_ 2 _ rfl; refine blk_put (cs := #[.int .i64 t1289, .slice none 0 0, .slice none 0 0, .slice none 0 0, .int .i64 0]) ?_ 1 _ rfl; refine blk_put (cs := #[.int .i64 0, .slice none 0 0, .slice none 0 0, .slice none 0 0, .int .i64 0]) ?_ 0 _ rfl; exact BK1284.out) Try.underlying40 rfl (by kernel_rfl)) rfl ?_
                exact ⟨_, _, _, rfl, by exact Kd.R_mono (Kd.R_far (p := ⟨gb1284, 4, none⟩) (Kd.R_far (p := ⟨gb1284, 3, none⟩) (Kd.R_far (p := ⟨gb1284, 2, none⟩) (Kd.R_far (p := ⟨gb1284, 1, none⟩) (Kd.R_far (p := ⟨gb1284, 0, none⟩) (Kd.R_types HO_1305001.out BK1284.out (by decide)) (fun _ hk => hk.2) (.int .i64 t1289)) (fun _ hk => hk.2) (.slice Ao21 t1292.length co21)) (fun _ hk => hk.2) (.slice Ao20 t1297.length co20)) (fun _ hk => hk.2) (.slice Ao45 x1305003_1.length co45)) (fun _ hk => hk.2) (.int .i64 t1302)) (fun _ hk => hk.1), by exact Kd.R_mono (Kd.R_far (p := ⟨gb1284, 4, none⟩) (Kd.R_far (p := ⟨gb1284, 3, none⟩) (Kd.R_far (p := ⟨gb1284, 2, none⟩) (Kd.R_far (p := ⟨gb1284, 1, none⟩) (Kd.R_far (p := ⟨gb1284, 0, none⟩) (Kd.R_types HO_1305002.out BK1284.out (by decide)) (fun _ hk => hk.2) (.int .i64 t1289)) (fun _ hk => hk.2) (.slice Ao21 t1292.length co21)) (fun _ hk => hk.2) (.slice Ao20 t1297.length co20)) (fun _ hk => hk.2) (.slice Ao45 x1305003_1.length co45)) (fun _ hk => hk.2) (.int .i64 t1302)) (fun _ hk => hk.1), by exact Kd.R_mono (Kd.R_far (p := ⟨gb1284, 4, none⟩) (Kd.R_far (p := ⟨gb1284, 3, none⟩) (Kd.R_far (p := ⟨gb1284, 2, none⟩) (Kd.R_far (p := ⟨gb1284, 1, none⟩) (Kd.R_far (p := ⟨gb1284, 0, none⟩) (Kd.R_types HO_1305003.out BK1284.out (by decide)) (fun _ hk => hk.2) (.int .i64 t1289)) (fun _ hk => hk.2) (.slice Ao21 t1292.length co21)) (fun _ hk => hk.2) (.slice Ao20 t1297.length co20)) (fun _ hk => hk.2) (.slice Ao45 x1305003_1.length co45)) (fun _ hk => hk.2) (.int .i64 t1302)) (fun _ hk => trivial), by repeat ((with_reducible first | exact HB.out | refine below_set ?_ GE1284.out))⟩
               ·rw [if_neg c42] at H
                have c42b0 : (t1311.toList == a0.toList) = false := beq_eq_false_iff_ne.mpr c42
                have c42b1 : (t1311.toList != a0.toList) = true := bne_iff_ne.mpr c42
                simp only [Option.some.injEq, Prod.mk.injEq] at H
                obtain ⟨rfl, rfl, rfl, rfl, rfl, rfl⟩ := H
                have hnb51 := NB1304_1284.out
                have hnc51 := NB1284_1304.out
                have hcz52_0 : wr.cell? ⟨gb1304, 0, none⟩ = some (.int .i64 t1289) := (blk_cell BK1304.out 0).trans rfl
                have hcz52_1 : wr.cell? ⟨gb1304, 1, none⟩ = some (.slice Ao21 t1292.length co21) := (blk_cell BK1304.out 1).trans rfl
                have hcz52_2 : wr.cell? ⟨gb1304, 2, none⟩ = some (.slice Ao20 t1297.length co20) := (blk_cell BK1304.out 2).trans rfl
                have hcz52_3 : wr.cell? ⟨gb1304, 3, none⟩ = some (u1305003) := (blk_cell BK1304.out 3).trans rfl
                have hcz52_4 : wr.cell? ⟨gb1304, 4, none⟩ = some (.int .i64 t1302) := (blk_cell BK1304.out 4).trans rfl
                have hfz52_0 := blk_frozen BK1304.out 0
                have hfz52_1 := blk_frozen BK1304.out 1
                have hfz52_2 := blk_frozen BK1304.out 2
                have hfz52_3 := blk_frozen BK1304.out 3
                have hfz52_4 := blk_frozen BK1304.out 4
                obtain ⟨Ao53, co53, eo53⟩ := Kd.R_slice HO_1305003.out
                subst eo53
                go_wp2_with (first | (go_at_call 39; (with_reducible refine (impl_IsValidTask.calls k1 t1289 _ _ t1292 _ _ t1297 _ _ x1305003_1 t1302 true _ ?side1 ?side2 ?side3 ?side4 ?side5 ?side6 A39.out).mono ?_); (case side1 => repeat (exact (Kd.R_reads' HO_1305001.out).2.2)); (case side2 => exact (Kd.R_reads' HO_1305001.out).2.1); (case side3 => repeat (exact (Kd.R_reads' HO_1305002.out).2.2)); (case side4 => exact (Kd.R_reads' HO_1305002.out).2.1); (case side5 => repeat (exact (Kd.R_reads' HO_1305003.out).2.2)); (case side6 => exact (Kd.R_reads' HO_1305003.out).2.1); rintro e w54 ⟨rfl, hb⟩; have n0_ := Aside0.mk (Kd.R_below HO_4.out hb); have n1_ := Aside0.mk (Kd.R_below HO_1305001.out hb); have n2_ := Aside0.mk (Kd.R_below HO_1305002.out hb); have n3_ := Aside0.mk (Kd.R_below HO_1305003.out hb); have n4_ := Aside0.mk (blk_below (g := gb1284) (o := .cells #[.int .i64 0, .slice none 0 0, .slice none 0 0, .slice none 0 0, .int .i64 0] 40 (0, 0)) BK1284.out hb); have n5_ := Aside0.mk (blk_below (g := gb1304) (o := .cells #[.int .i64 t1289, .slice Ao21 t1292.length co21, .slice Ao20 t1297.length co20, .slice Ao53 x1305003_1.length co53, .int .i64 t1302] 40 (0, 0)) BK1304.out hb); have n6_ := Aside0.mk (below_step HB.out hb); clear HO_4; clear HO_1305001; clear HO_1305002; clear HO_1305003; clear BK1284; clear BK1304; clear HB; have HO_4 := n0_; have HO_1305001 := n1_; have HO_1305002 := n2_; have HO_1305003 := n3_; have BK1284 := n4_; have BK1304 := n5_; have HB := n6_; clear n0_ n1_ n2_ n3_ n4_ n5_ n6_; (try clear hb); (try clear hb2); (try clear hk); (try clear hi); have hcz55_0 : w54.cell? ⟨gb1304, 0, none⟩ = some (.int .i64 t1289) := (blk_cell BK1304.out 0).trans rfl; have hcz55_1 : w54.cell? ⟨gb1304, 1, none⟩ = some (.slice Ao21 t1292.length co21) := (blk_cell BK1304.out 1).trans rfl; have hcz55_2 : w54.cell? ⟨gb1304, 2, none⟩ = some (.slice Ao20 t1297.length co20) := (blk_cell BK1304.out 2).trans rfl; have hcz55_3 : w54.cell? ⟨gb1304, 3, none⟩ = some (.slice Ao53 x1305003_1.length co53) := (blk_cell BK1304.out 3).trans rfl; have hcz55_4 : w54.cell? ⟨gb1304, 4, none⟩ = some (.int .i64 t1302) := (blk_cell BK1304.out 4).trans rfl; have hfz55_0 := blk_frozen BK1304.out 0; have hfz55_1 := blk_frozen BK1304.out 1; have hfz55_2 := blk_frozen BK1304.out 2; have hfz55_3 := blk_frozen BK1304.out 3; have hfz55_4 := blk_frozen BK1304.out 4) | (go_at_call 57; (with_reducible refine (impl_FormatTask.calls k1 t1289 _ _ t1292 _ _ t1297 _ _ x1305003_1 t1302 t1311 _ ?side1 ?side2 ?side3 ?side4 ?side5 ?side6 A41.out).mono ?_); (case side1 => repeat (exact (Kd.R_reads' HO_1305001.out).2.2)); (case side2 => exact (Kd.R_reads' HO_1305001.out).2.1); (case side3 => repeat (exact (Kd.R_reads' HO_1305002.out).2.2)); (case side4 => exact (Kd.R_reads' HO_1305002.out).2.1); (case side5 => repeat (exact (Kd.R_reads' HO_1305003.out).2.2)); (case side6 => exact (Kd.R_reads' HO_1305003.out).2.1); rintro e w56 ⟨rfl, hb⟩; have n0_ := Aside0.mk (Kd.R_below HO_4.out hb); have n1_ := Aside0.mk (Kd.R_below HO_1305001.out hb); have n2_ := Aside0.mk (Kd.R_below HO_1305002.out hb); have n3_ := Aside0.mk (Kd.R_below HO_1305003.out hb); have n4_ := Aside0.mk (blk_below (g := gb1284) (o := .cells #[.int .i64 0, .slice none 0 0, .slice none 0 0, .slice none 0 0, .int .i64 0] 40 (0, 0)) BK1284.out hb); have n5_ := Aside0.mk (blk_below (g := gb1304) (o := .cells #[.int .i64 t1289, .slice Ao21 t1292.length co21, .slice Ao20 t1297.length co20, .slice Ao53 x1305003_1.length co53, .int .i64 t1302] 40 (0, 0)) BK1304.out hb); have n6_ := Aside0.mk (below_step HB.out hb); clear HO_4; clear HO_1305001; clear HO_1305002; clear HO_1305003; clear BK1284; clear BK1304; clear HB; have HO_4 := n0_; have HO_1305001 := n1_; have HO_1305002 := n2_; have HO_1305003 := n3_; have BK1284 := n4_; have BK1304 := n5_; have HB := n6_; clear n0_ n1_ n2_ n3_ n4_ n5_ n6_; (try clear hb); (try clear hb2); (try clear hk); (try clear hi); have hcz57_0 : w56.cell? ⟨gb1284, 0, none⟩ = some (.int .i64 0) := (blk_cell BK1284.out 0).trans rfl; have hcz57_1 : w56.cell? ⟨gb1284, 1, none⟩ = some (.slice none 0 0) := (blk_cell BK1284.out 1).trans rfl; have hcz57_2 : w56.cell? ⟨gb1284, 2, none⟩ = some (.slice none 0 0) := (blk_cell BK1284.out 2).trans rfl; have hcz57_3 : w56.cell? ⟨gb1284, 3, none⟩ = some (.slice none 0 0) := (blk_cell BK1284.out 3).trans rfl; have hcz57_4 : w56.cell? ⟨gb1284, 4, none⟩ = some (.int .i64 0) := (blk_cell BK1284.out 4).trans rfl; have hfz57_0 := blk_frozen BK1284.out 0; have hfz57_1 := blk_frozen BK1284.out 1; have hfz57_2 := blk_frozen BK1284.out 2; have hfz57_3 := blk_frozen BK1284.out 3; have hfz57_4 := blk_frozen BK1284.out 4))
                refine bodyPost_ret (results_ct rfl _ _ gb1284 40 #[.int .i64 0, .slice none 0 0, .slice none 0 0, .slice none 0 0, .int .i64 0] (0, 0) _ rfl (by refine blk_put (cs := #[.int .i64 0, .slice none 0 0, .slice none 0 0, .slice none 0 0, .int .i64 0]) ?_ 4 _ rfl; refine blk_put (cs := #[.int .i64 0, .slice none 0 0, .slice none 0 0, .slice none 0 0, .int .i64 0]) ?_ 3 _ rfl; refine blk_put (cs := #[.int .i64 0, .slice none 0 0, .slice none 0 0, .slice none 0 0, .int .i64 0]) ?_ 2 _ rfl; refine blk_put (cs := #[.int .i64 0, .slice none 0 0, .slice none 0 0, .slice none 0 0, .int .i64 0]) ?_ 1 _ rfl; refine blk_put (cs := #[.int .i64 0, .slice none 0 0, .slice none 0 0, .slice none 0 0, .int .i64 0]) ?_ 0 _ rfl; exact BK1284.out) Try.underlying40 rfl (by kernel_rfl)) rfl ?_
                exact ⟨_, _, _, rfl, by exact Kd.R_nil _ _ _ _ _, by exact Kd.R_nil _ _ _ _ _, by exact Kd.R_nil _ _ _ _ _, by repeat ((with_reducible first | exact HB.out | refine below_set ?_ GE1284.out))⟩
              ·replace c40 := Bool.eq_false_iff.mpr c40
               subst c40
               rw [if_neg (show ¬ (false = true) by decide)] at H
               simp only [Option.some.injEq, Prod.mk.injEq] at H
               obtain ⟨rfl, rfl, rfl, rfl, rfl, rfl⟩ := H
               have hnb58 := NB1304_1284.out
               have hnc58 := NB1284_1304.out
               have hcz59_0 : wr.cell? ⟨gb1304, 0, none⟩ = some (.int .i64 t1289) := (blk_cell BK1304.out 0).trans rfl
               have hcz59_1 : wr.cell? ⟨gb1304, 1, none⟩ = some (.slice Ao21 t1292.length co21) := (blk_cell BK1304.out 1).trans rfl
               have hcz59_2 : wr.cell? ⟨gb1304, 2, none⟩ = some (.slice Ao20 t1297.length co20) := (blk_cell BK1304.out 2).trans rfl
               have hcz59_3 : wr.cell? ⟨gb1304, 3, none⟩ = some (u1305003) := (blk_cell BK1304.out 3).trans rfl
               have hcz59_4 : wr.cell? ⟨gb1304, 4, none⟩ = some (.int .i64 t1302) := (blk_cell BK1304.out 4).trans rfl
               have hfz59_0 := blk_frozen BK1304.out 0
               have hfz59_1 := blk_frozen BK1304.out 1
               have hfz59_2 := blk_frozen BK1304.out 2
               have hfz59_3 := blk_frozen BK1304.out 3
               have hfz59_4 := blk_frozen BK1304.out 4
               obtain ⟨Ao60, co60, eo60⟩ := Kd.R_slice HO_1305003.out
               subst eo60
               go_wp2_with ((go_at_call 39; (with_reducible refine (impl_IsValidTask.calls k1 t1289 _ _ t1292 _ _ t1297 _ _ x1305003_1 t1302 false _ ?side1 ?side2 ?side3 ?side4 ?side5 ?side6 A39.out).mono ?_); (case side1 => repeat (exact (Kd.R_reads' HO_1305001.out).2.2)); (case side2 => exact (Kd.R_reads' HO_1305001.out).2.1); (case side3 => repeat (exact (Kd.R_reads' HO_1305002.out).2.2)); (case side4 => exact (Kd.R_reads' HO_1305002.out).2.1); (case side5 => repeat (exact (Kd.R_reads' HO_1305003.out).2.2)); (case side6 => exact (Kd.R_reads' HO_1305003.out).2.1); rintro e w61 ⟨rfl, hb⟩; have n0_ := Aside0.mk (Kd.R_below HO_4.out hb); have n1_ := Aside0.mk (Kd.R_below HO_1305001.out hb); have n2_ := Aside0.mk (Kd.R_below HO_1305002.out hb); have n3_ := Aside0.mk (Kd.R_below HO_1305003.out hb); have n4_ := Aside0.mk (blk_below (g := gb1284) (o := .cells #[.int .i64 0, .slice none 0 0, .slice none 0 0, .slice none 0 0, .int .i64 0] 40 (0, 0)) BK1284.out hb); have n5_ := Aside0.mk (blk_below (g := gb1304) (o := .cells #[.int .i64 t1289, .slice Ao21 t1292.length co21, .slice Ao20 t1297.length co20, .slice Ao60 x1305003_1.length co60, .int .i64 t1302] 40 (0, 0)) BK1304.out hb); have n6_ := Aside0.mk (below_step HB.out hb); clear HO_4; clear HO_1305001; clear HO_1305002; clear HO_1305003; clear BK1284; clear BK1304; clear HB; have HO_4 := n0_; have HO_1305001 := n1_; have HO_1305002 := n2_; have HO_1305003 := n3_; have BK1284 := n4_; have BK1304 := n5_; have HB := n6_; clear n0_ n1_ n2_ n3_ n4_ n5_ n6_; (try clear hb); (try clear hb2); (try clear hk); (try clear hi); have hcz62_0 : w61.cell? ⟨gb1284, 0, none⟩ = some (.int .i64 0) := (blk_cell BK1284.out 0).trans rfl; have hcz62_1 : w61.cell? ⟨gb1284, 1, none⟩ = some (.slice none 0 0) := (blk_cell BK1284.out 1).trans rfl; have hcz62_2 : w61.cell? ⟨gb1284, 2, none⟩ = some (.slice none 0 0) := (blk_cell BK1284.out 2).trans rfl; have hcz62_3 : w61.cell? ⟨gb1284, 3, none⟩ = some (.slice none 0 0) := (blk_cell BK1284.out 3).trans rfl; have hcz62_4 : w61.cell? ⟨gb1284, 4, none⟩ = some (.int .i64 0) := (blk_cell BK1284.out 4).trans rfl; have hfz62_0 := blk_frozen BK1284.out 0; have hfz62_1 := blk_frozen BK1284.out 1; have hfz62_2 := blk_frozen BK1284.out 2; have hfz62_3 := blk_frozen BK1284.out 3; have hfz62_4 := blk_frozen BK1284.out 4))
               refine bodyPost_ret (results_ct rfl _ _ gb1284 40 #[.int .i64 0, .slice none 0 0, .slice none 0 0, .slice none 0 0, .int .i64 0] (0, 0) _ rfl (by refine blk_put (cs := #[.int .i64 0, .slice none 0 0, .slice none 0 0, .slice none 0 0, .int .i64 0]) ?_ 4 _ rfl; refine blk_put (cs := #[.int .i64 0, .slice none 0 0, .slice none 0 0, .slice none 0 0, .int .i64 0]) ?_ 3 _ rfl; refine blk_put (cs := #[.int .i64 0, .slice none 0 0, .slice none 0 0, .slice none 0 0, .int .i64 0]) ?_ 2 _ rfl; refine blk_put (cs := #[.int .i64 0, .slice none 0 0, .slice none 0 0, .slice none 0 0, .int .i64 0]) ?_ 1 _ rfl; refine blk_put (cs := #[.int .i64 0, .slice none 0 0, .slice none 0 0, .slice none 0 0, .int .i64 0]) ?_ 0 _ rfl; exact BK1284.out) Try.underlying40 rfl (by kernel_rfl)) rfl ?_
               exact ⟨_, _, _, rfl, by exact Kd.R_nil _ _ _ _ _, by exact Kd.R_nil _ _ _ _ _, by exact Kd.R_nil _ _ _ _ _, by repeat ((with_reducible first | exact HB.out | refine below_set ?_ GE1284.out))⟩
             ·replace c38 := Bool.eq_false_iff.mpr c38
              subst c38
              rw [if_neg (show ¬ (false = true) by decide)] at H
              simp only [Option.some.injEq, Prod.mk.injEq] at H
              obtain ⟨rfl, rfl, rfl, rfl, rfl, rfl⟩ := H
              have hnb63 := NB1284_1304.out
              have hnc63 := NB1304_1284.out
              have hcz64_0 : wr.cell? ⟨gb1284, 0, none⟩ = some (.int .i64 0) := (blk_cell BK1284.out 0).trans rfl
              have hcz64_1 : wr.cell? ⟨gb1284, 1, none⟩ = some (.slice none 0 0) := (blk_cell BK1284.out 1).trans rfl
              have hcz64_2 : wr.cell? ⟨gb1284, 2, none⟩ = some (.slice none 0 0) := (blk_cell BK1284.out 2).trans rfl
              have hcz64_3 : wr.cell? ⟨gb1284, 3, none⟩ = some (.slice none 0 0) := (blk_cell BK1284.out 3).trans rfl
              have hcz64_4 : wr.cell? ⟨gb1284, 4, none⟩ = some (.int .i64 0) := (blk_cell BK1284.out 4).trans rfl
              have hfz64_0 := blk_frozen BK1284.out 0
              have hfz64_1 := blk_frozen BK1284.out 1
              have hfz64_2 := blk_frozen BK1284.out 2
              have hfz64_3 := blk_frozen BK1284.out 3
              have hfz64_4 := blk_frozen BK1284.out 4
              go_wp2
              refine bodyPost_ret (results_ct rfl _ _ gb1284 40 #[.int .i64 0, .slice none 0 0, .slice none 0 0, .slice none 0 0, .int .i64 0] (0, 0) _ rfl (by refine blk_put (cs := #[.int .i64 0, .slice none 0 0, .slice none 0 0, .slice none 0 0, .int .i64 0]) ?_ 4 _ rfl; refine blk_put (cs := #[.int .i64 0, .slice none 0 0, .slice none 0 0, .slice none 0 0, .int .i64 0]) ?_ 3 _ rfl; refine blk_put (cs := #[.int .i64 0, .slice none 0 0, .slice none 0 0, .slice none 0 0, .int .i64 0]) ?_ 2 _ rfl; refine blk_put (cs := #[.int .i64 0, .slice none 0 0, .slice none 0 0, .slice none 0 0, .int .i64 0]) ?_ 1 _ rfl; refine blk_put (cs := #[.int .i64 0, .slice none 0 0, .slice none 0 0, .slice none 0 0, .int .i64 0]) ?_ 0 _ rfl; exact BK1284.out) Try.underlying40 rfl (by kernel_rfl)) rfl ?_
              exact ⟨_, _, _, rfl, by exact Kd.R_nil _ _ _ _ _, by exact Kd.R_nil _ _ _ _ _, by exact Kd.R_nil _ _ _ _ _, by repeat ((with_reducible first | exact HB.out | refine below_set ?_ GE1284.out))⟩
            ·replace c37 := Bool.eq_false_iff.mpr c37
             subst c37
             rw [if_neg (show ¬ (false = true) by decide)] at H
             simp only [Option.some.injEq, Prod.mk.injEq] at H
             obtain ⟨rfl, rfl, rfl, rfl, rfl, rfl⟩ := H
             have hnb65 := NB1284_1304.out
             have hnc65 := NB1304_1284.out
             have hcz66_0 : wr.cell? ⟨gb1284, 0, none⟩ = some (.int .i64 0) := (blk_cell BK1284.out 0).trans rfl
             have hcz66_1 : wr.cell? ⟨gb1284, 1, none⟩ = some (.slice none 0 0) := (blk_cell BK1284.out 1).trans rfl
             have hcz66_2 : wr.cell? ⟨gb1284, 2, none⟩ = some (.slice none 0 0) := (blk_cell BK1284.out 2).trans rfl
             have hcz66_3 : wr.cell? ⟨gb1284, 3, none⟩ = some (.slice none 0 0) := (blk_cell BK1284.out 3).trans rfl
             have hcz66_4 : wr.cell? ⟨gb1284, 4, none⟩ = some (.int .i64 0) := (blk_cell BK1284.out 4).trans rfl
             have hfz66_0 := blk_frozen BK1284.out 0
             have hfz66_1 := blk_frozen BK1284.out 1
             have hfz66_2 := blk_frozen BK1284.out 2
             have hfz66_3 := blk_frozen BK1284.out 3
             have hfz66_4 := blk_frozen BK1284.out 4
             go_wp2
             refine bodyPost_ret (results_ct rfl _ _ gb1284 40 #[.int .i64 0, .slice none 0 0, .slice none 0 0, .slice none 0 0, .int .i64 0] (0, 0) _ rfl (by refine blk_put (cs := #[.int .i64 0, .slice none 0 0, .slice none 0 0, .slice none 0 0, .int .i64 0]) ?_ 4 _ rfl; refine blk_put (cs := #[.int .i64 0, .slice none 0 0, .slice none 0 0, .slice none 0 0, .int .i64 0]) ?_ 3 _ rfl; refine blk_put (cs := #[.int .i64 0, .slice none 0 0, .slice none 0 0, .slice none 0 0, .int .i64 0]) ?_ 2 _ rfl; refine blk_put (cs := #[.int .i64 0, .slice none 0 0, .slice none 0 0, .slice none 0 0, .int .i64 0]) ?_ 1 _ rfl; refine blk_put (cs := #[.int .i64 0, .slice none 0 0, .slice none 0 0, .slice none 0 0, .int .i64 0]) ?_ 0 _ rfl; exact BK1284.out) Try.underlying40 rfl (by kernel_rfl)) rfl ?_
             exact ⟨_, _, _, rfl, by exact Kd.R_nil _ _ _ _ _, by exact Kd.R_nil _ _ _ _ _, by exact Kd.R_nil _ _ _ _ _, by repeat ((with_reducible first | exact HB.out | refine below_set ?_ GE1284.out))⟩
           ·replace c36 := Bool.eq_false_iff.mpr c36
            subst c36
            rw [if_neg (show ¬ (false = true) by decide)] at H
            simp only [Option.some.injEq, Prod.mk.injEq] at H
            obtain ⟨rfl, rfl, rfl, rfl, rfl, rfl⟩ := H
            have hnb67 := NB1284_1304.out
            have hnc67 := NB1304_1284.out
            have hcz68_0 : wr.cell? ⟨gb1284, 0, none⟩ = some (.int .i64 0) := (blk_cell BK1284.out 0).trans rfl
            have hcz68_1 : wr.cell? ⟨gb1284, 1, none⟩ = some (.slice none 0 0) := (blk_cell BK1284.out 1).trans rfl
            have hcz68_2 : wr.cell? ⟨gb1284, 2, none⟩ = some (.slice none 0 0) := (blk_cell BK1284.out 2).trans rfl
            have hcz68_3 : wr.cell? ⟨gb1284, 3, none⟩ = some (.slice none 0 0) := (blk_cell BK1284.out 3).trans rfl
            have hcz68_4 : wr.cell? ⟨gb1284, 4, none⟩ = some (.int .i64 0) := (blk_cell BK1284.out 4).trans rfl
            have hfz68_0 := blk_frozen BK1284.out 0
            have hfz68_1 := blk_frozen BK1284.out 1
            have hfz68_2 := blk_frozen BK1284.out 2
            have hfz68_3 := blk_frozen BK1284.out 3
            have hfz68_4 := blk_frozen BK1284.out 4
            go_wp2
            refine bodyPost_ret (results_ct rfl _ _ gb1284 40 #[.int .i64 0, .slice none 0 0, .slice none 0 0, .slice none 0 0, .int .i64 0] (0, 0) _ rfl (by refine blk_put (cs := #[.int .i64 0, .slice none 0 0, .slice none 0 0, .slice none 0 0, .int .i64 0]) ?_ 4 _ rfl; refine blk_put (cs := #[.int .i64 0, .slice none 0 0, .slice none 0 0, .slice none 0 0, .int .i64 0]) ?_ 3 _ rfl; refine blk_put (cs := #[.int .i64 0, .slice none 0 0, .slice none 0 0, .slice none 0 0, .int .i64 0]) ?_ 2 _ rfl; refine blk_put (cs := #[.int .i64 0, .slice none 0 0, .slice none 0 0, .slice none 0 0, .int .i64 0]) ?_ 1 _ rfl; refine blk_put (cs := #[.int .i64 0, .slice none 0 0, .slice none 0 0, .slice none 0 0, .int .i64 0]) ?_ 0 _ rfl; exact BK1284.out) Try.underlying40 rfl (by kernel_rfl)) rfl ?_
            exact ⟨_, _, _, rfl, by exact Kd.R_nil _ _ _ _ _, by exact Kd.R_nil _ _ _ _ _, by exact Kd.R_nil _ _ _ _ _, by repeat ((with_reducible first | exact HB.out | refine below_set ?_ GE1284.out))⟩
          ·replace c35 := Bool.eq_false_iff.mpr c35
           subst c35
           rw [if_neg (show ¬ (false = true) by decide)] at H
           simp only [Option.some.injEq, Prod.mk.injEq] at H
           obtain ⟨rfl, rfl, rfl, rfl, rfl, rfl⟩ := H
           have hnb69 := NB1284_1304.out
           have hnc69 := NB1304_1284.out
           have hcz70_0 : wr.cell? ⟨gb1284, 0, none⟩ = some (.int .i64 0) := (blk_cell BK1284.out 0).trans rfl
           have hcz70_1 : wr.cell? ⟨gb1284, 1, none⟩ = some (.slice none 0 0) := (blk_cell BK1284.out 1).trans rfl
           have hcz70_2 : wr.cell? ⟨gb1284, 2, none⟩ = some (.slice none 0 0) := (blk_cell BK1284.out 2).trans rfl
           have hcz70_3 : wr.cell? ⟨gb1284, 3, none⟩ = some (.slice none 0 0) := (blk_cell BK1284.out 3).trans rfl
           have hcz70_4 : wr.cell? ⟨gb1284, 4, none⟩ = some (.int .i64 0) := (blk_cell BK1284.out 4).trans rfl
           have hfz70_0 := blk_frozen BK1284.out 0
           have hfz70_1 := blk_frozen BK1284.out 1
           have hfz70_2 := blk_frozen BK1284.out 2
           have hfz70_3 := blk_frozen BK1284.out 3
           have hfz70_4 := blk_frozen BK1284.out 4
           go_wp2
           refine bodyPost_ret (results_ct rfl _ _ gb1284 40 #[.int .i64 0, .slice none 0 0, .slice none 0 0, .slice none 0 0, .int .i64 0] (0, 0) _ rfl (by refine blk_put (cs := #[.int .i64 0, .slice none 0 0, .slice none 0 0, .slice none 0 0, .int .i64 0]) ?_ 4 _ rfl; refine blk_put (cs := #[.int .i64 0, .slice none 0 0, .slice none 0 0, .slice none 0 0, .int .i64 0]) ?_ 3 _ rfl; refine blk_put (cs := #[.int .i64 0, .slice none 0 0, .slice none 0 0, .slice none 0 0, .int .i64 0]) ?_ 2 _ rfl; refine blk_put (cs := #[.int .i64 0, .slice none 0 0, .slice none 0 0, .slice none 0 0, .int .i64 0]) ?_ 1 _ rfl; refine blk_put (cs := #[.int .i64 0, .slice none 0 0, .slice none 0 0, .slice none 0 0, .int .i64 0]) ?_ 0 _ rfl; exact BK1284.out) Try.underlying40 rfl (by kernel_rfl)) rfl ?_
           exact ⟨_, _, _, rfl, by exact Kd.R_nil _ _ _ _ _, by exact Kd.R_nil _ _ _ _ _, by exact Kd.R_nil _ _ _ _ _, by repeat ((with_reducible first | exact HB.out | refine below_set ?_ GE1284.out))⟩
      ·rw [if_neg c12] at H
       exact absurd H (by simp)
     ·rw [if_neg c10] at H
      exact absurd H (by simp)
    ·rw [if_neg c8] at H
     exact absurd H (by simp)
   ·rw [if_neg c6] at H
    exact absurd H (by simp)
  ·rw [if_neg c4] at H
   exact absurd H (by simp)
 ·rw [if_neg c3] at H
  have c3b0 : ((t1285.length : Int) == 5) = false := beq_eq_false_iff_ne.mpr c3
  have c3b1 : ((t1285.length : Int) != 5) = true := bne_iff_ne.mpr c3
  simp only [Option.some.injEq, Prod.mk.injEq] at H
  obtain ⟨rfl, rfl, rfl, rfl, rfl, rfl⟩ := H
  go_enter Try.func41, Try.ntmps41
  go_wp2_with (first | ((with_reducible refine gate_dst (N := 2) rfl ?_); refine box_event ?hg (N := 2) ?hd (cs := #[.int .i64 0, .slice none 0 0, .slice none 0 0, .slice none 0 0, .int .i64 0]) (t := 40) ?hr ?_; (case hd => rfl); (case hg => rfl); (case hr => (go_simp; done)); intro gb1284 hg w71 hbox hb; have n0_ := Aside0.mk (below_step HB.out hb); have n1_ := Aside0.mk (hbox); have n2_ := Aside0.mk ((by rw [hg]; exact (below_size HB.out) : w.heap.size ≤ gb1284)); have n3_ := Aside0.mk ((by rw [hg]; exact (below_size HB.out) : w.heap.size ≤ gb1284)); clear HB; have HB := n0_; have BK1284 := n1_; have GW1284 := n2_; have GE1284 := n3_; clear n0_ n1_ n2_ n3_; clear hb hbox hg) | ((with_reducible refine gate_callee (f := 139) rfl ?_); refine goesL_ (some 16) rfl rfl Try.func139 (by kernel_rfl) rfl #[.string a0, .int .u8 59] rfl (by (try simp only [List.map_toArray, List.map_cons, List.map_nil]); rfl) ?_; (with_reducible refine (impl_cut.calls k a0 59 t1285 _ A2.out).mono ?_); rintro e w72 ⟨v1286, rfl, ho0, hb⟩; refine ⟨_, rfl, ?_⟩; have n0_ := Aside0.mk (Kd.R_lower ho0 (below_size HB.out)); have n1_ := Aside0.mk (blk_below (g := gb1284) (o := .cells #[.int .i64 0, .slice none 0 0, .slice none 0 0, .slice none 0 0, .int .i64 0] 40 (0, 0)) BK1284.out hb); have n2_ := Aside0.mk (below_step HB.out hb); clear BK1284; clear HB; have HO1287 := n0_; have BK1284 := n1_; have HB := n2_; clear n0_ n1_ n2_; (try clear hb); (try clear hb2); (try clear hk); (try clear hi); (try clear ho0); obtain ⟨Ao73, co73, eo73⟩ := Kd.R_slice HO1287.out; subst eo73; have hcz74_0 : w72.cell? ⟨gb1284, 0, none⟩ = some (.int .i64 0) := (blk_cell BK1284.out 0).trans rfl; have hcz74_1 : w72.cell? ⟨gb1284, 1, none⟩ = some (.slice none 0 0) := (blk_cell BK1284.out 1).trans rfl; have hcz74_2 : w72.cell? ⟨gb1284, 2, none⟩ = some (.slice none 0 0) := (blk_cell BK1284.out 2).trans rfl; have hcz74_3 : w72.cell? ⟨gb1284, 3, none⟩ = some (.slice none 0 0) := (blk_cell BK1284.out 3).trans rfl; have hcz74_4 : w72.cell? ⟨gb1284, 4, none⟩ = some (.int .i64 0) := (blk_cell BK1284.out 4).trans rfl; have hfz74_0 := blk_frozen BK1284.out 0; have hfz74_1 := blk_frozen BK1284.out 1; have hfz74_2 := blk_frozen BK1284.out 2; have hfz74_3 := blk_frozen BK1284.out 3; have hfz74_4 := blk_frozen BK1284.out 4))
  refine bodyPost_ret (results_ct rfl _ _ gb1284 40 #[.int .i64 0, .slice none 0 0, .slice none 0 0, .slice none 0 0, .int .i64 0] (0, 0) _ rfl (by refine blk_put (cs := #[.int .i64 0, .slice none 0 0, .slice none 0 0, .slice none 0 0, .int .i64 0]) ?_ 4 _ rfl; refine blk_put (cs := #[.int .i64 0, .slice none 0 0, .slice none 0 0, .slice none 0 0, .int .i64 0]) ?_ 3 _ rfl; refine blk_put (cs := #[.int .i64 0, .slice none 0 0, .slice none 0 0, .slice none 0 0, .int .i64 0]) ?_ 2 _ rfl; refine blk_put (cs := #[.int .i64 0, .slice none 0 0, .slice none 0 0, .slice none 0 0, .int .i64 0]) ?_ 1 _ rfl; refine blk_put (cs := #[.int .i64 0, .slice none 0 0, .slice none 0 0, .slice none 0 0, .int .i64 0]) ?_ 0 _ rfl; exact BK1284.out) Try.underlying40 rfl (by kernel_rfl)) rfl ?_
  exact ⟨_, _, _, rfl, by exact Kd.R_nil _ _ _ _ _, by exact Kd.R_nil _ _ _ _ _, by exact Kd.R_nil _ _ _ _ _, by repeat ((with_reducible first | exact HB.out | refine below_set ?_ GE1284.out))⟩

end Go.Proofs.Ytobndcjmjhehjaa.P
namespace Go.Proofs.Ytobndcjmjhehjaa.P
open Go.RowKit Go.Proofs.YtobndcjmjhehjaaW.PrintWords Go.Proofs.YtobndcjmjhehjaaW.PrintLast Go.Proofs.YtobndcjmjhehjaaW.PrintMore
attribute [local go_sem] max2_int min2_int max_two min_two max_three min_three max_four min_four   -- for this text's walks alone
set_option linter.unusedVariables false
set_option linter.unusedSimpArgs false

/-! ### laws_eqRow: function 173 -/
def laws_eqRow.f (a0_0 : Int) (a0_1 : Int) (a0_2 : Int) (a1_0 : Int) (a1_1 : Int) (a1_2 : Int) : Option (Bool) := if a0_0 = a1_0 then (if a0_1 = a1_1 then (if a0_2 = a1_2 then (some true) else (some false)) else (some false)) else (some false)
set_option maxHeartbeats 8000000 in
set_option maxRecDepth 100000 in
theorem laws_eqRow.calls (a0_0 : Int) (a0_1 : Int) (a0_2 : Int) (a1_0 : Int) (a1_1 : Int) (a1_2 : Int) (r : Bool) (w : World) (h : laws_eqRow.f a0_0 a0_1 a0_2 a1_0 a1_1 a1_2 = some r) :
  Calls Try.prog 173 #[.agg #[.int .i64 a0_0, .int .i64 a0_1, .int .i64 a0_2], .agg #[.int .i64 a1_0, .int .i64 a1_1, .int .i64 a1_2]] w fun e w' => e = .returned (.bool r) ∧ Below w.heap.size w w' := by
 have hu60 := Try.underlying60
 have HB := Aside0.mk (Below.refl w.heap.size w)
 have H : (if a0_0 = a1_0 then (if a0_1 = a1_1 then (if a0_2 = a1_2 then (some true) else (some false)) else (some false)) else (some false)) = some r := h
 clear h
 by_cases c3 : a0_0 = a1_0
 ·rw [if_pos c3] at H
  have c3b0 : (a0_0 == a1_0) = true := beq_iff_eq.mpr c3
  have c3b1 : (a0_0 != a1_0) = false := bne_eq_false_iff_eq.mpr c3
  clear c3
  by_cases c4 : a0_1 = a1_1
  ·rw [if_pos c4] at H
   have c4b0 : (a0_1 == a1_1) = true := beq_iff_eq.mpr c4
   have c4b1 : (a0_1 != a1_1) = false := bne_eq_false_iff_eq.mpr c4
   clear c4
   by_cases c5 : a0_2 = a1_2
   ·rw [if_pos c5] at H
    have c5b0 : (a0_2 == a1_2) = true := beq_iff_eq.mpr c5
    have c5b1 : (a0_2 != a1_2) = false := bne_eq_false_iff_eq.mpr c5
    clear c5
    obtain rfl := Option.some.inj H
    go_enter Try.func173, Try.ntmps173
    go_wp2_with (first | ((with_reducible refine gate_dst (N := 2) rfl ?_); refine box_event ?hg (N := 2) ?hd (cs := #[.int .i64 a0_0, .int .i64 a0_1, .int .i64 a0_2]) (t := 60) ?hr ?_; (case hd => rfl); (case hg => rfl); (case hr => (go_simp; done)); intro gb1312 hg w6 hbox hb; have n0_ := Aside0.mk (below_step HB.out hb); have n1_ := Aside0.mk (hbox); have n2_ := Aside0.mk ((by rw [hg]; exact (below_size HB.out) : w.heap.size ≤ gb1312)); have n3_ := Aside0.mk ((by rw [hg]; exact (below_size HB.out) : w.heap.size ≤ gb1312)); clear HB; have HB := n0_; have BK1312 := n1_; have GW1312 := n2_; have GE1312 := n3_; clear n0_ n1_ n2_ n3_; clear hb hbox hg) | ((with_reducible refine gate_dst (N := 3) rfl ?_); refine box_event ?hg (N := 3) ?hd (cs := #[.int .i64 a1_0, .int .i64 a1_1, .int .i64 a1_2]) (t := 60) ?hr ?_; (case hd => rfl); (case hg => rfl); (case hr => (go_simp; done)); intro gb1313 hg w7 hbox hb; have n0_ := Aside0.mk (blk_below (g := gb1312) (o := .cells #[.int .i64 a0_0, .int .i64 a0_1, .int .i64 a0_2] 60 (0, 0)) BK1312.out hb); have n1_ := Aside0.mk (below_step HB.out hb); have n2_ := Aside0.mk (hbox); have n3_ := Aside0.mk ((by rw [hg]; exact (below_size HB.out) : w.heap.size ≤ gb1313)); have n4_ := Aside0.mk ((by rw [hg]; exact (below_size HB.out) : w.heap.size ≤ gb1313)); have n5_ := Aside0.mk ((by rw [hg]; exact Nat.ne_of_lt (blk_lt (g := gb1312) (o := .cells #[.int .i64 a0_0, .int .i64 a0_1, .int .i64 a0_2] 60 (0, 0)) BK1312.out) : gb1312 ≠ gb1313)); have n6_ := Aside0.mk ((by rw [hg]; exact Nat.ne_of_gt (blk_lt (g := gb1312) (o := .cells #[.int .i64 a0_0, .int .i64 a0_1, .int .i64 a0_2] 60 (0, 0)) BK1312.out) : gb1313 ≠ gb1312)); clear BK1312; clear HB; have BK1312 := n0_; have HB := n1_; have BK1313 := n2_; have GW1313 := n3_; have GE1313 := n4_; have NB1312_1313 := n5_; have NB1313_1312 := n6_; clear n0_ n1_ n2_ n3_ n4_ n5_ n6_; clear hb hbox hg; have hnb8 := NB1312_1313.out; have hnc8 := NB1313_1312.out; have hcz9_0 : w7.cell? ⟨gb1312, 0, none⟩ = some (.int .i64 a0_0) := (blk_cell BK1312.out 0).trans rfl; have hcz9_1 : w7.cell? ⟨gb1312, 1, none⟩ = some (.int .i64 a0_1) := (blk_cell BK1312.out 1).trans rfl; have hcz9_2 : w7.cell? ⟨gb1312, 2, none⟩ = some (.int .i64 a0_2) := (blk_cell BK1312.out 2).trans rfl; have hfz9_0 := blk_frozen BK1312.out 0; have hfz9_1 := blk_frozen BK1312.out 1; have hfz9_2 := blk_frozen BK1312.out 2; have hcz10_0 : w7.cell? ⟨gb1313, 0, none⟩ = some (.int .i64 a1_0) := (blk_cell BK1313.out 0).trans rfl; have hcz10_1 : w7.cell? ⟨gb1313, 1, none⟩ = some (.int .i64 a1_1) := (blk_cell BK1313.out 1).trans rfl; have hcz10_2 : w7.cell? ⟨gb1313, 2, none⟩ = some (.int .i64 a1_2) := (blk_cell BK1313.out 2).trans rfl; have hfz10_0 := blk_frozen BK1313.out 0; have hfz10_1 := blk_frozen BK1313.out 1; have hfz10_2 := blk_frozen BK1313.out 2))
    go_ret
    exact ⟨rfl, HB.out⟩
   ·rw [if_neg c5] at H
    have c5b0 : (a0_2 == a1_2) = false := beq_eq_false_iff_ne.mpr c5
    have c5b1 : (a0_2 != a1_2) = true := bne_iff_ne.mpr c5
    obtain rfl := Option.some.inj H
    go_enter Try.func173, Try.ntmps173
    go_wp2_with (first | ((with_reducible refine gate_dst (N := 2) rfl ?_); refine box_event ?hg (N := 2) ?hd (cs := #[.int .i64 a0_0, .int .i64 a0_1, .int .i64 a0_2]) (t := 60) ?hr ?_; (case hd => rfl); (case hg => rfl); (case hr => (go_simp; done)); intro gb1312 hg w11 hbox hb; have n0_ := Aside0.mk (below_step HB.out hb); have n1_ := Aside0.mk (hbox); have n2_ := Aside0.mk ((by rw [hg]; exact (below_size HB.out) : w.heap.size ≤ gb1312)); have n3_ := Aside0.mk ((by rw [hg]; exact (below_size HB.out) : w.heap.size ≤ gb1312)); clear HB; have HB := n0_; have BK1312 := n1_; have GW1312 := n2_; have GE1312 := n3_; clear n0_ n1_ n2_ n3_; clear hb hbox hg) | ((with_reducible refine gate_dst (N := 3) rfl ?_); refine box_event ?hg (N := 3) ?hd (cs := #[.int .i64 a1_0, .int .i64 a1_1, .int .i64 a1_2]) (t := 60) ?hr ?_; (case hd => rfl); (case hg => rfl); (case hr => (go_simp; done)); intro gb1313 hg w12 hbox hb; have n0_ := Aside0.mk (blk_below (g := gb1312) (o := .cells #[.int .i64 a0_0, .int .i64 a0_1, .int .i64 a0_2] 60 (0, 0)) BK1312.out hb); have n1_ := Aside0.mk (below_step HB.out hb); have n2_ := Aside0.mk (hbox); have n3_ := Aside0.mk ((by rw [hg]; exact (below_size HB.out) : w.heap.size ≤ gb1313)); have n4_ := Aside0.mk ((by rw [hg]; exact (below_size HB.out) : w.heap.size ≤ gb1313)); have n5_ := Aside0.mk ((by rw [hg]; exact Nat.ne_of_lt (blk_lt (g := gb1312) (o := .cells #[.int .i64 a0_0, .int .i64 a0_1, .int .i64 a0_2] 60 (0, 0)) BK1312.out) : gb1312 ≠ gb1313)); have n6_ := Aside0.mk ((by rw [hg]; exact Nat.ne_of_gt (blk_lt (g := gb1312) (o := .cells #[.int .i64 a0_0, .int .i64 a0_1, .int .i64 a0_2] 60 (0, 0)) BK1312.out) : gb1313 ≠ gb1312)); clear BK1312; clear HB; have BK1312 := n0_; have HB := n1_; have BK1313 := n2_; have GW1313 := n3_; have GE1313 := n4_; have NB1312_1313 := n5_; have NB1313_1312 := n6_; clear n0_ n1_ n2_ n3_ n4_ n5_ n6_; clear hb hbox hg; have hnb13 := NB1312_1313.out; have hnc13 := NB1313_1312.out; have hcz14_0 : w12.cell? ⟨gb1312, 0, none⟩ = some (.int .i64 a0_0) := (blk_cell BK1312.out 0).trans rfl; have hcz14_1 : w12.cell? ⟨gb1312, 1, none⟩ = some (.int .i64 a0_1) := (blk_cell BK1312.out 1).trans rfl; have hcz14_2 : w12.cell? ⟨gb1312, 2, none⟩ = some (.int .i64 a0_2) := (blk_cell BK1312.out 2).trans rfl; have hfz14_0 := blk_frozen BK1312.out 0; have hfz14_1 := blk_frozen BK1312.out 1; have hfz14_2 := blk_frozen BK1312.out 2; have hcz15_0 : w12.cell? ⟨gb1313, 0, none⟩ = some (.int .i64 a1_0) := (blk_cell BK1313.out 0).trans rfl; have hcz15_1 : w12.cell? ⟨gb1313, 1, none⟩ = some (.int .i64 a1_1) := (blk_cell BK1313.out 1).trans rfl; have hcz15_2 : w12.cell? ⟨gb1313, 2, none⟩ = some (.int .i64 a1_2) := (blk_cell BK1313.out 2).trans rfl; have hfz15_0 := blk_frozen BK1313.out 0; have hfz15_1 := blk_frozen BK1313.out 1; have hfz15_2 := blk_frozen BK1313.out 2))
    go_ret
    exact ⟨rfl, HB.out⟩
  ·rw [if_neg c4] at H
   have c4b0 : (a0_1 == a1_1) = false := beq_eq_false_iff_ne.mpr c4
   have c4b1 : (a0_1 != a1_1) = true := bne_iff_ne.mpr c4
   obtain rfl := Option.some.inj H
   go_enter Try.func173, Try.ntmps173
   go_wp2_with (first | ((with_reducible refine gate_dst (N := 2) rfl ?_); refine box_event ?hg (N := 2) ?hd (cs := #[.int .i64 a0_0, .int .i64 a0_1, .int .i64 a0_2]) (t := 60) ?hr ?_; (case hd => rfl); (case hg => rfl); (case hr => (go_simp; done)); intro gb1312 hg w16 hbox hb; have n0_ := Aside0.mk (below_step HB.out hb); have n1_ := Aside0.mk (hbox); have n2_ := Aside0.mk ((by rw [hg]; exact (below_size HB.out) : w.heap.size ≤ gb1312)); have n3_ := Aside0.mk ((by rw [hg]; exact (below_size HB.out) : w.heap.size ≤ gb1312)); clear HB; have HB := n0_; have BK1312 := n1_; have GW1312 := n2_; have GE1312 := n3_; clear n0_ n1_ n2_ n3_; clear hb hbox hg) | ((with_reducible refine gate_dst (N := 3) rfl ?_); refine box_event ?hg (N := 3) ?hd (cs := #[.int .i64 a1_0, .int .i64 a1_1, .int .i64 a1_2]) (t := 60) ?hr ?_; (case hd => rfl); (case hg => rfl); (case hr => (go_simp; done)); intro gb1313 hg w17 hbox hb; have n0_ := Aside0.mk (blk_below (g := gb1312) (o := .cells #[.int .i64 a0_0, .int .i64 a0_1, .int .i64 a0_2] 60 (0, 0)) BK1312.out hb); have n1_ := Aside0.mk (below_step HB.out hb); have n2_ := Aside0.mk (hbox); have n3_ := Aside0.mk ((by rw [hg]; exact (below_size HB.out) : w.heap.size ≤ gb1313)); have n4_ := Aside0.mk ((by rw [hg]; exact (below_size HB.out) : w.heap.size ≤ gb1313)); have n5_ := Aside0.mk ((by rw [hg]; exact Nat.ne_of_lt (blk_lt (g := gb1312) (o := .cells #[.int .i64 a0_0, .int .i64 a0_1, .int .i64 a0_2] 60 (0, 0)) BK1312.out) : gb1312 ≠ gb1313)); have n6_ := Aside0.mk ((by rw [hg]; exact Nat.ne_of_gt (blk_lt (g := gb1312) (o := .cells #[.int .i64 a0_0, .int .i64 a0_1, .int .i64 a0_2] 60 (0, 0)) BK1312.out) : gb1313 ≠ gb1312)); clear BK1312; clear HB; have BK1312 := n0_; have HB := n1_; have BK1313 := n2_; have GW1313 := n3_; have GE1313 := n4_; have NB1312_1313 := n5_; have NB1313_1312 := n6_; clear n0_ n1_ n2_ n3_ n4_ n5_ n6_; clear hb hbox hg; have hnb18 := NB1312_1313.out; have hnc18 := NB1313_1312.out; have hcz19_0 : w17.cell? ⟨gb1312, 0, none⟩ = some (.int .i64 a0_0) := (blk_cell BK1312.out 0).trans rfl; have hcz19_1 : w17.cell? ⟨gb1312, 1, none⟩ = some (.int .i64 a0_1) := (blk_cell BK1312.out 1).trans rfl; have hcz19_2 : w17.cell? ⟨gb1312, 2, none⟩ = some (.int .i64 a0_2) := (blk_cell BK1312.out 2).trans rfl; have hfz19_0 := blk_frozen BK1312.out 0; have hfz19_1 := blk_frozen BK1312.out 1; have hfz19_2 := blk_frozen BK1312.out 2; have hcz20_0 : w17.cell? ⟨gb1313, 0, none⟩ = some (.int .i64 a1_0) := (blk_cell BK1313.out 0).trans rfl; have hcz20_1 : w17.cell? ⟨gb1313, 1, none⟩ = some (.int .i64 a1_1) := (blk_cell BK1313.out 1).trans rfl; have hcz20_2 : w17.cell? ⟨gb1313, 2, none⟩ = some (.int .i64 a1_2) := (blk_cell BK1313.out 2).trans rfl; have hfz20_0 := blk_frozen BK1313.out 0; have hfz20_1 := blk_frozen BK1313.out 1; have hfz20_2 := blk_frozen BK1313.out 2))
   go_ret
   exact ⟨rfl, HB.out⟩
 ·rw [if_neg c3] at H
  have c3b0 : (a0_0 == a1_0) = false := beq_eq_false_iff_ne.mpr c3
  have c3b1 : (a0_0 != a1_0) = true := bne_iff_ne.mpr c3
  obtain rfl := Option.some.inj H
  go_enter Try.func173, Try.ntmps173
  go_wp2_with (first | ((with_reducible refine gate_dst (N := 2) rfl ?_); refine box_event ?hg (N := 2) ?hd (cs := #[.int .i64 a0_0, .int .i64 a0_1, .int .i64 a0_2]) (t := 60) ?hr ?_; (case hd => rfl); (case hg => rfl); (case hr => (go_simp; done)); intro gb1312 hg w21 hbox hb; have n0_ := Aside0.mk (below_step HB.out hb); have n1_ := Aside0.mk (hbox); have n2_ := Aside0.mk ((by rw [hg]; exact (below_size HB.out) : w.heap.size ≤ gb1312)); have n3_ := Aside0.mk ((by rw [hg]; exact (below_size HB.out) : w.heap.size ≤ gb1312)); clear HB; have HB := n0_; have BK1312 := n1_; have GW1312 := n2_; have GE1312 := n3_; clear n0_ n1_ n2_ n3_; clear hb hbox hg) | ((with_reducible refine gate_dst (N := 3) rfl ?_); refine box_event ?hg (N := 3) ?hd (cs := #[.int .i64 a1_0, .int .i64 a1_1, .int .i64 a1_2]) (t := 60) ?hr ?_; (case hd => rfl); (case hg => rfl); (case hr => (go_simp; done)); intro gb1313 hg w22 hbox hb; have n0_ := Aside0.mk (blk_below (g := gb1312) (o := .cells #[.int .i64 a0_0, .int .i64 a0_1, .int .i64 a0_2] 60 (0, 0)) BK1312.out hb); have n1_ := Aside0.mk (below_step HB.out hb); have n2_ := Aside0.mk (hbox); have n3_ := Aside0.mk ((by rw [hg]; exact (below_size HB.out) : w.heap.size ≤ gb1313)); have n4_ := Aside0.mk ((by rw [hg]; exact (below_size HB.out) : w.heap.size ≤ gb1313)); have n5_ := Aside0.mk ((by rw [hg]; exact Nat.ne_of_lt (blk_lt (g := gb1312) (o := .cells #[.int .i64 a0_0, .int .i64 a0_1, .int .i64 a0_2] 60 (0, 0)) BK1312.out) : gb1312 ≠ gb1313)); have n6_ := Aside0.mk ((by rw [hg]; exact Nat.ne_of_gt (blk_lt (g := gb1312) (o := .cells #[.int .i64 a0_0, .int .i64 a0_1, .int .i64 a0_2] 60 (0, 0)) BK1312.out) : gb1313 ≠ gb1312)); clear BK1312; clear HB; have BK1312 := n0_; have HB := n1_; have BK1313 := n2_; have GW1313 := n3_; have GE1313 := n4_; have NB1312_1313 := n5_; have NB1313_1312 := n6_; clear n0_ n1_ n2_ n3_ n4_ n5_ n6_; clear hb hbox hg; have hnb23 := NB1312_1313.out; have hnc23 := NB1313_1312.out; have hcz24_0 : w22.cell? ⟨gb1312, 0, none⟩ = some (.int .i64 a0_0) := (blk_cell BK1312.out 0).trans rfl; have hcz24_1 : w22.cell? ⟨gb1312, 1, none⟩ = some (.int .i64 a0_1) := (blk_cell BK1312.out 1).trans rfl; have hcz24_2 : w22.cell? ⟨gb1312, 2, none⟩ = some (.int .i64 a0_2) := (blk_cell BK1312.out 2).trans rfl; have hfz24_0 := blk_frozen BK1312.out 0; have hfz24_1 := blk_frozen BK1312.out 1; have hfz24_2 := blk_frozen BK1312.out 2; have hcz25_0 : w22.cell? ⟨gb1313, 0, none⟩ = some (.int .i64 a1_0) := (blk_cell BK1313.out 0).trans rfl; have hcz25_1 : w22.cell? ⟨gb1313, 1, none⟩ = some (.int .i64 a1_1) := (blk_cell BK1313.out 1).trans rfl; have hcz25_2 : w22.cell? ⟨gb1313, 2, none⟩ = some (.int .i64 a1_2) := (blk_cell BK1313.out 2).trans rfl; have hfz25_0 := blk_frozen BK1313.out 0; have hfz25_1 := blk_frozen BK1313.out 1; have hfz25_2 := blk_frozen BK1313.out 2))
  go_ret
  exact ⟨rfl, HB.out⟩

end Go.Proofs.Ytobndcjmjhehjaa.P
namespace Go.Proofs.Ytobndcjmjhehjaa.P
open Go.RowKit Go.Proofs.YtobndcjmjhehjaaW.PrintWords Go.Proofs.YtobndcjmjhehjaaW.PrintLast Go.Proofs.YtobndcjmjhehjaaW.PrintMore
attribute [local go_sem] max2_int min2_int max_two min_two max_three min_three max_four min_four   -- for this text's walks alone
set_option linter.unusedVariables false
set_option linter.unusedSimpArgs false

/-! ### laws_eqRowS: function 91 -/
def laws_eqRowS.l0 : Nat → List (S60) → List (S60) → Int → Option (Bool)
 | 0, _, _, _ => none
 | k + 1, x0, x1, x5 => if x5 < (x0.length : Int) then (if 0 ≤ x5 then (if x5 < (x1.length : Int) then ((laws_eqRow.f ((rd_T60 x0 x5).f0) ((rd_T60 x0 x5).f1) ((rd_T60 x0 x5).f2) ((rd_T60 x1 x5).f0) ((rd_T60 x1 x5).f1) ((rd_T60 x1 x5).f2)).bind fun t1316 => (if t1316 = true then (laws_eqRowS.l0 k x0 x1 (wrap64 (x5 + 1))) else (some false))) else (none)) else (none)) else (some true)
def laws_eqRowS.f (k : Nat) (l0 : List (S60)) (l1 : List (S60)) : Option (Bool) := if (l0.length : Int) = (l1.length : Int) then (laws_eqRowS.l0 k l0 l1 0) else (some false)
theorem laws_eqRowS.mono_l : ∀ k, (∀ y0 y1 y2, LeO (laws_eqRowS.l0 k y0 y1 y2) (laws_eqRowS.l0 (k + 1) y0 y1 y2))
 | 0 => fun _ _ _ r h => by simp [laws_eqRowS.l0] at h
 | k + 1 => by
  have ih0 := laws_eqRowS.mono_l k
  ·intro y0 y1 y2
   unfold laws_eqRowS.l0
   repeat' first
   | (with_reducible exact ih0 _ _ _)
   | (with_reducible exact LeO.refl _)
   | (with_reducible refine LeO.ite ?_ ?_)
   | (with_reducible refine LeO.bind ?_ (fun _ => ?_))
   | refine LeO.bind ?_ (fun _ => ?_)
theorem laws_eqRowS.mono : ∀ a0 a1 k, LeO (laws_eqRowS.f k a0 a1) (laws_eqRowS.f (k + 1) a0 a1) := by
 intro a0 a1 k
 have ih0 := laws_eqRowS.mono_l k
 unfold laws_eqRowS.f
 repeat' first
   | (with_reducible exact ih0 _ _ _)
   | (with_reducible exact LeO.refl _)
   | (with_reducible refine LeO.ite ?_ ?_)
   | refine LeO.bind ?_ (fun _ => ?_)
def laws_eqRowS.T6 : Bool × List (List Nat × List Nat) := (true, [([], []), ([], []), ([0, 1], [0, 1]), ([2], [2]), ([], []), ([], []), ([4, 5], [4, 5]), ([6], [6]), ([3, 7], [3, 7]), ([8], [8])])
def laws_eqRowS.B6 : List Nat := [0, 0, 3, 7, 0, 0, 48, 112, 255, 511]
theorem laws_eqRowS.tab6 : rtab .any (opsOf Try.f91 6) = laws_eqRowS.T6 := by kernel_rfl
theorem laws_eqRowS.bits6 : waitsOk laws_eqRowS.T6.2 laws_eqRowS.B6 = true := by kernel_rfl
set_option maxHeartbeats 8000000 in
set_option maxRecDepth 100000 in
theorem laws_eqRowS.calls (k : Nat) (A0 : Option Addr) (c0 : Nat) (l0 : List (S60)) (A1 : Option Addr) (c1 : Nat) (l1 : List (S60)) (r : Bool) (w : World) (hr0 : Kd.C k60 w A0 l0.length l0) (hc0 : l0.length ≤ c0) (hr1 : Kd.C k60 w A1 l1.length l1) (hc1 : l1.length ≤ c1) (h : laws_eqRowS.f k l0 l1 = some r) :
  Calls Try.prog 91 #[.slice A0 l0.length c0, .slice A1 l1.length c1] w fun e w' => e = .returned (.bool r) ∧ Below w.heap.size w w' := by
 have hu60 := Try.underlying60
 have HR0 := Aside0.mk hr0
 have HC0 := Aside0.mk hc0
 clear hr0 hc0
 have HR1 := Aside0.mk hr1
 have HC1 := Aside0.mk hc1
 clear hr1 hc1
 have HB := Aside0.mk (Below.refl w.heap.size w)
 have H : (if (l0.length : Int) = (l1.length : Int) then (laws_eqRowS.l0 k l0 l1 0) else (some false)) = some r := h
 clear h
 by_cases c3 : (l0.length : Int) = (l1.length : Int)
 ·rw [if_pos c3] at H
  have c3b0 : ((l0.length : Int) == (l1.length : Int)) = true := beq_iff_eq.mpr c3
  have c3b1 : ((l0.length : Int) != (l1.length : Int)) = false := bne_eq_false_iff_eq.mpr c3
  have c3b2 : (l0.length == l1.length) = true := by (simp at c3 ⊢; omega)
  clear c3
  have H' := Aside0.mk H
  clear H
  go_enter Try.func91, Try.ntmps91
  go_wp2
  go_loopg [5] k (fun kq v5 w' => ∃ (x5_1 : Int), v5 = .int .i64 x5_1 ∧ Aside0 (laws_eqRowS.l0 kq l0 l1 x5_1 = some r) ∧ Aside0 (kq ≤ k) ∧ Aside0 (Below w.heap.size w w'))
  case atStart => exact ⟨(0), rfl, H', ⟨Nat.le_refl _⟩, ⟨HB.out⟩⟩
  case round =>
   clear H'
   try clear c3b0
   try clear c3b1
   try clear c3b2
   obtain ⟨x5_1, rfl, HA, HK1, HB⟩ := hrel
   cases gk with
   | zero => exact absurd HA.out (by simp [laws_eqRowS.l0])
   | succ k1 =>
    have H := HA.out
    clear HA
    simp only [laws_eqRowS.l0] at H
    by_cases c4 : x5_1 < (l0.length : Int)
    ·rw [if_pos c4] at H
     have c4b0 : decide (x5_1 < (l0.length : Int)) = true := decide_eq_true c4
     clear c4
     by_cases c5 : 0 ≤ x5_1
     ·rw [if_pos c5] at H
      have c5b0 : decide (0 ≤ x5_1) = true := decide_eq_true c5
      clear c5
      by_cases c6 : x5_1 < (l1.length : Int)
      ·rw [if_pos c6] at H
       have c6b0 : decide (x5_1 < (l1.length : Int)) = true := decide_eq_true c6
       clear c6
       replace H := Option.bind_eq_some_iff.mp H
       obtain ⟨t1316, A70, H⟩ := H
       have A7 := Aside0.mk A70
       clear A70
       by_cases c8 : t1316 = true
       ·subst c8
        rw [if_pos rfl] at H
        have H' := Aside0.mk H
        clear H
        try go_wp2
        have n0_ := Aside0.mk (below_drew1 HB.out)
        clear HB
        have HB := n0_
        clear n0_
        have p1314 : 0 ≤ (x5_1 : Int) := of_decide_eq_true (by (with_reducible assumption))
        have q1314 : x5_1 < (l0.length : Int) := of_decide_eq_true (by (with_reducible assumption))
        obtain ⟨ad1314, e1314, hx1314_0, hx1314_1, hx1314_2⟩ := at_T60 HR0.out x5_1 p1314 q1314
        have hw1314_2 := hx1314_2
        have hw1314_1 := hx1314_1
        have hw1314_0 := hx1314_0
        cases e1314
        replace hx1314_0 := (HB.out.cell (World.block_lt_of_cell? w _ hx1314_0)).trans hx1314_0
        replace hx1314_1 := (HB.out.cell (World.block_lt_of_cell? w _ hx1314_1)).trans hx1314_1
        replace hx1314_2 := (HB.out.cell (World.block_lt_of_cell? w _ hx1314_2)).trans hx1314_2
        replace p1314 := eq_true p1314
        replace q1314 := eq_true q1314
        have p1315 : 0 ≤ (x5_1 : Int) := of_decide_eq_true (by (with_reducible assumption))
        have q1315 : x5_1 < (l1.length : Int) := of_decide_eq_true (by (with_reducible assumption))
        obtain ⟨ad1315, e1315, hx1315_0, hx1315_1, hx1315_2⟩ := at_T60 HR1.out x5_1 p1315 q1315
        have hw1315_2 := hx1315_2
        have hw1315_1 := hx1315_1
        have hw1315_0 := hx1315_0
        cases e1315
        replace hx1315_0 := (HB.out.cell (World.block_lt_of_cell? w _ hx1315_0)).trans hx1315_0
        replace hx1315_1 := (HB.out.cell (World.block_lt_of_cell? w _ hx1315_1)).trans hx1315_1
        replace hx1315_2 := (HB.out.cell (World.block_lt_of_cell? w _ hx1315_2)).trans hx1315_2
        replace p1315 := eq_true p1315
        replace q1315 := eq_true q1315
        refine start_ (n := 10) (S := fun w' => w'.cell? (ad1314.add ((x5_1).toNat * 3)) = some (.int .i64 ((rd_T60 l0 x5_1).f0)) ∧ w'.cell? ⟨(ad1314.add ((x5_1).toNat * 3)).block, (ad1314.add ((x5_1).toNat * 3)).off + 1, none⟩ = some (.int .i64 ((rd_T60 l0 x5_1).f1)) ∧ w'.cell? ⟨(ad1314.add ((x5_1).toNat * 3)).block, (ad1314.add ((x5_1).toNat * 3)).off + 2, none⟩ = some (.int .i64 ((rd_T60 l0 x5_1).f2)) ∧ w'.cell? (ad1315.add ((x5_1).toNat * 3)) = some (.int .i64 ((rd_T60 l1 x5_1).f0)) ∧ w'.cell? ⟨(ad1315.add ((x5_1).toNat * 3)).block, (ad1315.add ((x5_1).toNat * 3)).off + 1, none⟩ = some (.int .i64 ((rd_T60 l1 x5_1).f1)) ∧ w'.cell? ⟨(ad1315.add ((x5_1).toNat * 3)).block, (ad1315.add ((x5_1).toNat * 3)).off + 2, none⟩ = some (.int .i64 ((rd_T60 l1 x5_1).f2))) (ds := []) #[false, false, false, false, false, false, false, false, false, false] (by kernel_rfl) rfl rfl ⟨((HB.out.cell (World.block_lt_of_cell? w _ hw1314_0)).trans hw1314_0), ((HB.out.cell (World.block_lt_of_cell? w _ hw1314_1)).trans hw1314_1), ((HB.out.cell (World.block_lt_of_cell? w _ hw1314_2)).trans hw1314_2), ((HB.out.cell (World.block_lt_of_cell? w _ hw1315_0)).trans hw1315_0), ((HB.out.cell (World.block_lt_of_cell? w _ hw1315_1)).trans hw1315_1), ((HB.out.cell (World.block_lt_of_cell? w _ hw1315_2)).trans hw1315_2)⟩ (fun hHeld => ?_); refine with_tabW laws_eqRowS.tab6 laws_eqRowS.bits6 (fun HT_ HW_ => ?_)
        generalize wr.drew = w9 at HB hx1314_0 hx1314_1 hx1314_2 hx1315_0 hx1315_1 hx1315_2 hHeld ⊢
        refine pure_ (i := 0) (N := some 17) (v := ?_) (a' := ?_) #[true, false, false, false, false, false, false, false, false, false] rfl rfl (any_of HT_.out (by kernel_rfl)) (fun _ _ _ h => h) (Or.inl ⟨rfl, ?_⟩) ?_ ?_
        rotate_left
        ·intro w'
         go_simp
         with_reducible rfl
        rotate_left
        ·simp only [Act.put, List.setIfInBounds_toArray, List.set_cons_zero, List.set_cons_succ, i64_w, i32_w]
         rfl
        refine pure_ (i := 1) (N := some 18) (v := ?_) (a' := ?_) #[true, true, false, false, false, false, false, false, false, false] rfl rfl (any_of HT_.out (by kernel_rfl)) (fun _ _ _ h => h) (Or.inl ⟨rfl, ?_⟩) ?_ ?_
        rotate_left
        ·intro w'
         go_simp
         with_reducible rfl
        rotate_left
        ·simp only [Act.put, List.setIfInBounds_toArray, List.set_cons_zero, List.set_cons_succ, i64_w, i32_w]
         rfl
        refine pure_ (i := 2) (N := some 19) (v := ?_) (a' := ?_) #[true, true, true, false, false, false, false, false, false, false] rfl rfl (any_of HT_.out (by kernel_rfl)) (fun _ _ _ h => h) (Or.inl ⟨rfl, ?_⟩) ?_ ?_
        rotate_left
        ·intro w'
         go_simp
         with_reducible rfl
        rotate_left
        ·simp only [Act.put, List.setIfInBounds_toArray, List.set_cons_zero, List.set_cons_succ, i64_w, i32_w]
         rfl
        refine pure_ (i := 4) (N := some 21) (v := ?_) (a' := ?_) #[true, true, true, false, true, false, false, false, false, false] rfl rfl (any_of HT_.out (by kernel_rfl)) (fun _ _ _ h => h) (Or.inl ⟨rfl, ?_⟩) ?_ ?_
        rotate_left
        ·intro w'
         go_simp
         with_reducible rfl
        rotate_left
        ·simp only [Act.put, List.setIfInBounds_toArray, List.set_cons_zero, List.set_cons_succ, i64_w, i32_w]
         rfl
        refine pure_ (i := 5) (N := some 22) (v := ?_) (a' := ?_) #[true, true, true, false, true, true, false, false, false, false] rfl rfl (any_of HT_.out (by kernel_rfl)) (fun _ _ _ h => h) (Or.inl ⟨rfl, ?_⟩) ?_ ?_
        rotate_left
        ·intro w'
         go_simp
         with_reducible rfl
        rotate_left
        ·simp only [Act.put, List.setIfInBounds_toArray, List.set_cons_zero, List.set_cons_succ, i64_w, i32_w]
         rfl
        refine pure_ (i := 6) (N := some 23) (v := ?_) (a' := ?_) #[true, true, true, false, true, true, true, false, false, false] rfl rfl (any_of HT_.out (by kernel_rfl)) (fun _ _ _ h => h) (Or.inl ⟨rfl, ?_⟩) ?_ ?_
        rotate_left
        ·intro w'
         go_simp
         with_reducible rfl
        rotate_left
        ·simp only [Act.put, List.setIfInBounds_toArray, List.set_cons_zero, List.set_cons_succ, i64_w, i32_w]
         rfl
        refine take_ (i := 3) (N := some 20) (v := ?_) (a' := ?_) #[true, true, true, true, true, true, true, false, false, false] rfl rfl (take_ofW HT_.out HW_.out (by kernel_rfl)) (fun _ _ _ h => h) (Or.inl ⟨rfl, ?_⟩) hHeld ?_ ?_
        rotate_left
        ·rintro w' ⟨s0, s1, s2, s3, s4, s5⟩
         go_simp
         with_reducible rfl
        rotate_left
        ·simp only [Act.put, List.setIfInBounds_toArray, List.set_cons_zero, List.set_cons_succ, i64_w, i32_w]
         rfl
        refine take_ (i := 7) (N := some 24) (v := ?_) (a' := ?_) #[true, true, true, true, true, true, true, true, false, false] rfl rfl (take_ofW HT_.out HW_.out (by kernel_rfl)) (fun _ _ _ h => h) (Or.inl ⟨rfl, ?_⟩) hHeld ?_ ?_
        rotate_left
        ·rintro w' ⟨s0, s1, s2, s3, s4, s5⟩
         go_simp
         with_reducible rfl
        rotate_left
        ·simp only [Act.put, List.setIfInBounds_toArray, List.set_cons_zero, List.set_cons_succ, i64_w, i32_w]
         rfl
        refine one_ (i := 8) (N := some 25) #[true, true, true, true, true, true, true, true, true, false] rfl rfl (one_of HT_.out (by kernel_rfl)) (by decide) (fun K hK => ?_)
        refine goes_ Try.func173 (by kernel_rfl) rfl #[.agg #[.int .i64 ((rd_T60 l0 x5_1).f0), .int .i64 ((rd_T60 l0 x5_1).f1), .int .i64 ((rd_T60 l0 x5_1).f2)], .agg #[.int .i64 ((rd_T60 l1 x5_1).f0), .int .i64 ((rd_T60 l1 x5_1).f1), .int .i64 ((rd_T60 l1 x5_1).f2)]] rfl rfl rfl (by (try simp only [List.map_toArray, List.map_cons, List.map_nil]); rfl) ?_
        with_reducible refine (laws_eqRow.calls ((rd_T60 l0 x5_1).f0) ((rd_T60 l0 x5_1).f1) ((rd_T60 l0 x5_1).f2) ((rd_T60 l1 x5_1).f0) ((rd_T60 l1 x5_1).f1) ((rd_T60 l1 x5_1).f2) true _ A7.out).mono ?_
        rintro e w10 ⟨rfl, hb⟩
        refine ⟨_, rfl, ?_⟩
        have n0_ := Aside0.mk (below_step HB.out hb)
        clear HB
        have HB := n0_
        clear n0_
        (try clear hb)
        (try clear hb2)
        (try clear hk)
        (try clear hi)
        refine hK.out _ _ ⟨((HB.out.cell (World.block_lt_of_cell? w _ hw1314_0)).trans hw1314_0), ((HB.out.cell (World.block_lt_of_cell? w _ hw1314_1)).trans hw1314_1), ((HB.out.cell (World.block_lt_of_cell? w _ hw1314_2)).trans hw1314_2), ((HB.out.cell (World.block_lt_of_cell? w _ hw1315_0)).trans hw1315_0), ((HB.out.cell (World.block_lt_of_cell? w _ hw1315_1)).trans hw1315_1), ((HB.out.cell (World.block_lt_of_cell? w _ hw1315_2)).trans hw1315_2)⟩ (fun hHeld => ?_)
        clear hK K
        refine norm_ (a' := ?_) ?_ ?_
        rotate_left
        ·show Act.put _ (some 25) _ = _
         simp only [Act.put, List.setIfInBounds_toArray, List.set_cons_zero, List.set_cons_succ, i64_w, i32_w]
         rfl
        refine pure_ (i := 9) (N := some 26) (v := ?_) (a' := ?_) #[true, true, true, true, true, true, true, true, true, true] rfl rfl (any_of HT_.out (by kernel_rfl)) (fun _ _ _ h => h) (Or.inl ⟨rfl, ?_⟩) ?_ ?_
        rotate_left
        ·intro w'
         go_simp
         with_reducible rfl
        rotate_left
        ·simp only [Act.put, List.setIfInBounds_toArray, List.set_cons_zero, List.set_cons_succ, i64_w, i32_w]
         rfl
        refine done_ (done_of HT_.out (by kernel_rfl)) ?_
        try go_wp2
        go_roundg k1
        case measure => have := HK1.out; omega
        case rel => exact ⟨(wrap64 (x5_1 + 1)), rfl, H', ⟨by have := HK1.out; omega⟩, ⟨HB.out⟩⟩
       ·replace c8 := Bool.eq_false_iff.mpr c8
        subst c8
        rw [if_neg (show ¬ (false = true) by decide)] at H
        obtain rfl := Option.some.inj H
        try go_wp2
        have n0_ := Aside0.mk (below_drew1 HB.out)
        clear HB
        have HB := n0_
        clear n0_
        have p1314 : 0 ≤ (x5_1 : Int) := of_decide_eq_true (by (with_reducible assumption))
        have q1314 : x5_1 < (l0.length : Int) := of_decide_eq_true (by (with_reducible assumption))
        obtain ⟨ad1314, e1314, hx1314_0, hx1314_1, hx1314_2⟩ := at_T60 HR0.out x5_1 p1314 q1314
        have hw1314_2 := hx1314_2
        have hw1314_1 := hx1314_1
        have hw1314_0 := hx1314_0
        cases e1314
        replace hx1314_0 := (HB.out.cell (World.block_lt_of_cell? w _ hx1314_0)).trans hx1314_0
        replace hx1314_1 := (HB.out.cell (World.block_lt_of_cell? w _ hx1314_1)).trans hx1314_1
        replace hx1314_2 := (HB.out.cell (World.block_lt_of_cell? w _ hx1314_2)).trans hx1314_2
        replace p1314 := eq_true p1314
        replace q1314 := eq_true q1314
        have p1315 : 0 ≤ (x5_1 : Int) := of_decide_eq_true (by (with_reducible assumption))
        have q1315 : x5_1 < (l1.length : Int) := of_decide_eq_true (by (with_reducible assumption))
        obtain ⟨ad1315, e1315, hx1315_0, hx1315_1, hx1315_2⟩ := at_T60 HR1.out x5_1 p1315 q1315
        have hw1315_2 := hx1315_2
        have hw1315_1 := hx1315_1
        have hw1315_0 := hx1315_0
        cases e1315
        replace hx1315_0 := (HB.out.cell (World.block_lt_of_cell? w _ hx1315_0)).trans hx1315_0
        replace hx1315_1 := (HB.out.cell (World.block_lt_of_cell? w _ hx1315_1)).trans hx1315_1
        replace hx1315_2 := (HB.out.cell (World.block_lt_of_cell? w _ hx1315_2)).trans hx1315_2
        replace p1315 := eq_true p1315
        replace q1315 := eq_true q1315
        refine start_ (n := 10) (S := fun w' => w'.cell? (ad1314.add ((x5_1).toNat * 3)) = some (.int .i64 ((rd_T60 l0 x5_1).f0)) ∧ w'.cell? ⟨(ad1314.add ((x5_1).toNat * 3)).block, (ad1314.add ((x5_1).toNat * 3)).off + 1, none⟩ = some (.int .i64 ((rd_T60 l0 x5_1).f1)) ∧ w'.cell? ⟨(ad1314.add ((x5_1).toNat * 3)).block, (ad1314.add ((x5_1).toNat * 3)).off + 2, none⟩ = some (.int .i64 ((rd_T60 l0 x5_1).f2)) ∧ w'.cell? (ad1315.add ((x5_1).toNat * 3)) = some (.int .i64 ((rd_T60 l1 x5_1).f0)) ∧ w'.cell? ⟨(ad1315.add ((x5_1).toNat * 3)).block, (ad1315.add ((x5_1).toNat * 3)).off + 1, none⟩ = some (.int .i64 ((rd_T60 l1 x5_1).f1)) ∧ w'.cell? ⟨(ad1315.add ((x5_1).toNat * 3)).block, (ad1315.add ((x5_1).toNat * 3)).off + 2, none⟩ = some (.int .i64 ((rd_T60 l1 x5_1).f2))) (ds := []) #[false, false, false, false, false, false, false, false, false, false] (by kernel_rfl) rfl rfl ⟨((HB.out.cell (World.block_lt_of_cell? w _ hw1314_0)).trans hw1314_0), ((HB.out.cell (World.block_lt_of_cell? w _ hw1314_1)).trans hw1314_1), ((HB.out.cell (World.block_lt_of_cell? w _ hw1314_2)).trans hw1314_2), ((HB.out.cell (World.block_lt_of_cell? w _ hw1315_0)).trans hw1315_0), ((HB.out.cell (World.block_lt_of_cell? w _ hw1315_1)).trans hw1315_1), ((HB.out.cell (World.block_lt_of_cell? w _ hw1315_2)).trans hw1315_2)⟩ (fun hHeld => ?_); refine with_tabW laws_eqRowS.tab6 laws_eqRowS.bits6 (fun HT_ HW_ => ?_)
        generalize wr.drew = w11 at HB hx1314_0 hx1314_1 hx1314_2 hx1315_0 hx1315_1 hx1315_2 hHeld ⊢
        refine pure_ (i := 0) (N := some 17) (v := ?_) (a' := ?_) #[true, false, false, false, false, false, false, false, false, false] rfl rfl (any_of HT_.out (by kernel_rfl)) (fun _ _ _ h => h) (Or.inl ⟨rfl, ?_⟩) ?_ ?_
        rotate_left
        ·intro w'
         go_simp
         with_reducible rfl
        rotate_left
        ·simp only [Act.put, List.setIfInBounds_toArray, List.set_cons_zero, List.set_cons_succ, i64_w, i32_w]
         rfl
        refine pure_ (i := 1) (N := some 18) (v := ?_) (a' := ?_) #[true, true, false, false, false, false, false, false, false, false] rfl rfl (any_of HT_.out (by kernel_rfl)) (fun _ _ _ h => h) (Or.inl ⟨rfl, ?_⟩) ?_ ?_
        rotate_left
        ·intro w'
         go_simp
         with_reducible rfl
        rotate_left
        ·simp only [Act.put, List.setIfInBounds_toArray, List.set_cons_zero, List.set_cons_succ, i64_w, i32_w]
         rfl
        refine pure_ (i := 2) (N := some 19) (v := ?_) (a' := ?_) #[true, true, true, false, false, false, false, false, false, false] rfl rfl (any_of HT_.out (by kernel_rfl)) (fun _ _ _ h => h) (Or.inl ⟨rfl, ?_⟩) ?_ ?_
        rotate_left
        ·intro w'
         go_simp
         with_reducible rfl
        rotate_left
        ·simp only [Act.put, List.setIfInBounds_toArray, List.set_cons_zero, List.set_cons_succ, i64_w, i32_w]
         rfl
        refine pure_ (i := 4) (N := some 21) (v := ?_) (a' := ?_) #[true, true, true, false, true, false, false, false, false, false] rfl rfl (any_of HT_.out (by kernel_rfl)) (fun _ _ _ h => h) (Or.inl ⟨rfl, ?_⟩) ?_ ?_
        rotate_left
        ·intro w'
         go_simp
         with_reducible rfl
        rotate_left
        ·simp only [Act.put, List.setIfInBounds_toArray, List.set_cons_zero, List.set_cons_succ, i64_w, i32_w]
         rfl
        refine pure_ (i := 5) (N := some 22) (v := ?_) (a' := ?_) #[true, true, true, false, true, true, false, false, false, false] rfl rfl (any_of HT_.out (by kernel_rfl)) (fun _ _ _ h => h) (Or.inl ⟨rfl, ?_⟩) ?_ ?_
        rotate_left
        ·intro w'
         go_simp
         with_reducible rfl
        rotate_left
        ·simp only [Act.put, List.setIfInBounds_toArray, List.set_cons_zero, List.set_cons_succ, i64_w, i32_w]
         rfl
        refine pure_ (i := 6) (N := some 23) (v := ?_) (a' := ?_) #[true, true, true, false, true, true, true, false, false, false] rfl rfl (any_of HT_.out (by kernel_rfl)) (fun _ _ _ h => h) (Or.inl ⟨rfl, ?_⟩) ?_ ?_
        rotate_left
        ·intro w'
         go_simp
         with_reducible rfl
        rotate_left
        ·simp only [Act.put, List.setIfInBounds_toArray, List.set_cons_zero, List.set_cons_succ, i64_w, i32_w]
         rfl
        refine take_ (i := 3) (N := some 20) (v := ?_) (a' := ?_) #[true, true, true, true, true, true, true, false, false, false] rfl rfl (take_ofW HT_.out HW_.out (by kernel_rfl)) (fun _ _ _ h => h) (Or.inl ⟨rfl, ?_⟩) hHeld ?_ ?_
        rotate_left
        ·rintro w' ⟨s0, s1, s2, s3, s4, s5⟩
         go_simp
         with_reducible rfl
        rotate_left
        ·simp only [Act.put, List.setIfInBounds_toArray, List.set_cons_zero, List.set_cons_succ, i64_w, i32_w]
         rfl
        refine take_ (i := 7) (N := some 24) (v := ?_) (a' := ?_) #[true, true, true, true, true, true, true, true, false, false] rfl rfl (take_ofW HT_.out HW_.out (by kernel_rfl)) (fun _ _ _ h => h) (Or.inl ⟨rfl, ?_⟩) hHeld ?_ ?_
        rotate_left
        ·rintro w' ⟨s0, s1, s2, s3, s4, s5⟩
         go_simp
         with_reducible rfl
        rotate_left
        ·simp only [Act.put, List.setIfInBounds_toArray, List.set_cons_zero, List.set_cons_succ, i64_w, i32_w]
         rfl
        refine one_ (i := 8) (N := some 25) #[true, true, true, true, true, true, true, true, true, false] rfl rfl (one_of HT_.out (by kernel_rfl)) (by decide) (fun K hK => ?_)
        refine goes_ Try.func173 (by kernel_rfl) rfl #[.agg #[.int .i64 ((rd_T60 l0 x5_1).f0), .int .i64 ((rd_T60 l0 x5_1).f1), .int .i64 ((rd_T60 l0 x5_1).f2)], .agg #[.int .i64 ((rd_T60 l1 x5_1).f0), .int .i64 ((rd_T60 l1 x5_1).f1), .int .i64 ((rd_T60 l1 x5_1).f2)]] rfl rfl rfl (by (try simp only [List.map_toArray, List.map_cons, List.map_nil]); rfl) ?_
        with_reducible refine (laws_eqRow.calls ((rd_T60 l0 x5_1).f0) ((rd_T60 l0 x5_1).f1) ((rd_T60 l0 x5_1).f2) ((rd_T60 l1 x5_1).f0) ((rd_T60 l1 x5_1).f1) ((rd_T60 l1 x5_1).f2) false _ A7.out).mono ?_
        rintro e w12 ⟨rfl, hb⟩
        refine ⟨_, rfl, ?_⟩
        have n0_ := Aside0.mk (below_step HB.out hb)
        clear HB
        have HB := n0_
        clear n0_
        (try clear hb)
        (try clear hb2)
        (try clear hk)
        (try clear hi)
        refine hK.out _ _ ⟨((HB.out.cell (World.block_lt_of_cell? w _ hw1314_0)).trans hw1314_0), ((HB.out.cell (World.block_lt_of_cell? w _ hw1314_1)).trans hw1314_1), ((HB.out.cell (World.block_lt_of_cell? w _ hw1314_2)).trans hw1314_2), ((HB.out.cell (World.block_lt_of_cell? w _ hw1315_0)).trans hw1315_0), ((HB.out.cell (World.block_lt_of_cell? w _ hw1315_1)).trans hw1315_1), ((HB.out.cell (World.block_lt_of_cell? w _ hw1315_2)).trans hw1315_2)⟩ (fun hHeld => ?_)
        clear hK K
        refine norm_ (a' := ?_) ?_ ?_
        rotate_left
        ·show Act.put _ (some 25) _ = _
         simp only [Act.put, List.setIfInBounds_toArray, List.set_cons_zero, List.set_cons_succ, i64_w, i32_w]
         rfl
        refine pure_ (i := 9) (N := some 26) (v := ?_) (a' := ?_) #[true, true, true, true, true, true, true, true, true, true] rfl rfl (any_of HT_.out (by kernel_rfl)) (fun _ _ _ h => h) (Or.inl ⟨rfl, ?_⟩) ?_ ?_
        rotate_left
        ·intro w'
         go_simp
         with_reducible rfl
        rotate_left
        ·simp only [Act.put, List.setIfInBounds_toArray, List.set_cons_zero, List.set_cons_succ, i64_w, i32_w]
         rfl
        refine done_ (done_of HT_.out (by kernel_rfl)) ?_
        try go_wp2
        go_ret
        exact ⟨rfl, HB.out⟩
      ·rw [if_neg c6] at H
       exact absurd H (by simp)
     ·rw [if_neg c5] at H
      exact absurd H (by simp)
    ·rw [if_neg c4] at H
     have c4b0 : decide (x5_1 < (l0.length : Int)) = false := decide_eq_false c4
     clear c4
     obtain rfl := Option.some.inj H
     go_wp2
     go_ret
     exact ⟨rfl, HB.out⟩
 ·rw [if_neg c3] at H
  have c3b0 : ((l0.length : Int) == (l1.length : Int)) = false := beq_eq_false_iff_ne.mpr c3
  have c3b1 : ((l0.length : Int) != (l1.length : Int)) = true := bne_iff_ne.mpr c3
  have c3b2 : (l0.length == l1.length) = false := by (simp at c3 ⊢; omega)
  obtain rfl := Option.some.inj H
  go_enter Try.func91, Try.ntmps91
  go_wp2
  go_ret
  exact ⟨rfl, HB.out⟩

end Go.Proofs.Ytobndcjmjhehjaa.P
namespace Go.Proofs.Ytobndcjmjhehjaa.P
open Go.RowKit Go.Proofs.YtobndcjmjhehjaaW.PrintWords Go.Proofs.YtobndcjmjhehjaaW.PrintLast Go.Proofs.YtobndcjmjhehjaaW.PrintMore
attribute [local go_sem] max2_int min2_int max_two min_two max_three min_three max_four min_four   -- for this text's walks alone
set_option linter.unusedVariables false
set_option linter.unusedSimpArgs false

/-! ### laws_eqBoolS: function 142 -/
def laws_eqBoolS.l0 : Nat → List Bool → List Bool → Int → Option (Bool)
 | 0, _, _, _ => none
 | k + 1, x0, x1, x5 => if x5 < (x0.length : Int) then (if 0 ≤ x5 then (if x5 < (x1.length : Int) then (if ((rdOf false x0 x5) != (rdOf false x1 x5)) = true then (some false) else (laws_eqBoolS.l0 k x0 x1 (wrap64 (x5 + 1)))) else (none)) else (none)) else (some true)
def laws_eqBoolS.f (k : Nat) (l0 : List Bool) (l1 : List Bool) : Option (Bool) := if (l0.length : Int) = (l1.length : Int) then (laws_eqBoolS.l0 k l0 l1 0) else (some false)
theorem laws_eqBoolS.mono_l : ∀ k, (∀ y0 y1 y2, LeO (laws_eqBoolS.l0 k y0 y1 y2) (laws_eqBoolS.l0 (k + 1) y0 y1 y2))
 | 0 => fun _ _ _ r h => by simp [laws_eqBoolS.l0] at h
 | k + 1 => by
  have ih0 := laws_eqBoolS.mono_l k
  ·intro y0 y1 y2
   unfold laws_eqBoolS.l0
   repeat' first
   | (with_reducible exact ih0 _ _ _)
   | (with_reducible exact LeO.refl _)
   | (with_reducible refine LeO.ite ?_ ?_)
   | refine LeO.bind ?_ (fun _ => ?_)
theorem laws_eqBoolS.mono : ∀ a0 a1 k, LeO (laws_eqBoolS.f k a0 a1) (laws_eqBoolS.f (k + 1) a0 a1) := by
 intro a0 a1 k
 have ih0 := laws_eqBoolS.mono_l k
 unfold laws_eqBoolS.f
 repeat' first
   | (with_reducible exact ih0 _ _ _)
   | (with_reducible exact LeO.refl _)
   | (with_reducible refine LeO.ite ?_ ?_)
   | refine LeO.bind ?_ (fun _ => ?_)
set_option maxHeartbeats 8000000 in
set_option maxRecDepth 100000 in
theorem laws_eqBoolS.calls (k : Nat) (A0 : Option Addr) (c0 : Nat) (l0 : List Bool) (A1 : Option Addr) (c1 : Nat) (l1 : List Bool) (r : Bool) (w : World) (hr0 : Kd.C Kd.bool w A0 l0.length l0) (hc0 : l0.length ≤ c0) (hr1 : Kd.C Kd.bool w A1 l1.length l1) (hc1 : l1.length ≤ c1) (h : laws_eqBoolS.f k l0 l1 = some r) :
  Calls Try.prog 142 #[.slice A0 l0.length c0, .slice A1 l1.length c1] w fun e w' => e = .returned (.bool r) ∧ Drawn0 w w' := by
 have HR0 := Aside0.mk hr0
 have HC0 := Aside0.mk hc0
 clear hr0 hc0
 have HR1 := Aside0.mk hr1
 have HC1 := Aside0.mk hc1
 clear hr1 hc1
 have H : (if (l0.length : Int) = (l1.length : Int) then (laws_eqBoolS.l0 k l0 l1 0) else (some false)) = some r := h
 clear h
 by_cases c3 : (l0.length : Int) = (l1.length : Int)
 ·rw [if_pos c3] at H
  have c3b0 : ((l0.length : Int) == (l1.length : Int)) = true := beq_iff_eq.mpr c3
  have c3b1 : ((l0.length : Int) != (l1.length : Int)) = false := bne_eq_false_iff_eq.mpr c3
  have c3b2 : (l0.length == l1.length) = true := by (simp at c3 ⊢; omega)
  clear c3
  have H' := Aside0.mk H
  clear H
  go_enter Try.func142, Try.ntmps142
  go_wp2
  repeat (go_quiet (fail))
  go_loopg [5] k (fun kq v5 w' => ∃ (x5_1 : Int), v5 = .int .i64 x5_1 ∧ Aside0 (laws_eqBoolS.l0 kq l0 l1 x5_1 = some r) ∧ Aside0 (kq ≤ k) ∧ Drawn0 w w')
  case atStart => exact ⟨(0), rfl, H', ⟨Nat.le_refl _⟩, by repeat (exact Drawn0.refl _)⟩
  case round =>
   clear H'
   try clear c3b0
   try clear c3b1
   try clear c3b2
   obtain ⟨x5_1, rfl, HA, HK1, ⟨m1, rfl⟩⟩ := hrel
   cases gk with
   | zero => exact absurd HA.out (by simp [laws_eqBoolS.l0])
   | succ k1 =>
    have H := HA.out
    clear HA
    simp only [laws_eqBoolS.l0] at H
    by_cases c4 : x5_1 < (l0.length : Int)
    ·rw [if_pos c4] at H
     have c4b0 : decide (x5_1 < (l0.length : Int)) = true := decide_eq_true c4
     clear c4
     by_cases c5 : 0 ≤ x5_1
     ·rw [if_pos c5] at H
      have c5b0 : decide (0 ≤ x5_1) = true := decide_eq_true c5
      clear c5
      by_cases c6 : x5_1 < (l1.length : Int)
      ·rw [if_pos c6] at H
       have c6b0 : decide (x5_1 < (l1.length : Int)) = true := decide_eq_true c6
       clear c6
       by_cases c7 : ((rdOf false l0 x5_1) != (rdOf false l1 x5_1)) = true
       ·rw [if_pos c7] at H
        have c7b0 : ((rdOf false l0 x5_1) != (rdOf false l1 x5_1)) = true := c7
        (try (have c7b1 : decide ((rdOf false l0 x5_1) = (rdOf false l1 x5_1)) = false := by simpa using c7))
        (try (have c7b2 : ((rdOf false l0 x5_1) == (rdOf false l1 x5_1)) = false := by simpa using c7))
        (try (have c7b3 : ¬ ((rdOf false l0 x5_1) = (rdOf false l1 x5_1)) := by simpa using c7))
        clear c7
        obtain rfl := Option.some.inj H
        have p1317 : 0 ≤ (x5_1 : Int) := of_decide_eq_true (by (with_reducible assumption))
        have q1317 : x5_1 < (l0.length : Int) := of_decide_eq_true (by (with_reducible assumption))
        obtain ⟨ad1317, e1317, hx1317_0⟩ := Kd.at_bool HR0.out x5_1 p1317 q1317
        cases e1317
        replace p1317 := eq_true p1317
        replace q1317 := eq_true q1317
        have p1318 : 0 ≤ (x5_1 : Int) := of_decide_eq_true (by (with_reducible assumption))
        have q1318 : x5_1 < (l1.length : Int) := of_decide_eq_true (by (with_reducible assumption))
        obtain ⟨ad1318, e1318, hx1318_0⟩ := Kd.at_bool HR1.out x5_1 p1318 q1318
        cases e1318
        replace p1318 := eq_true p1318
        replace q1318 := eq_true q1318
        go_wp2
        repeat (go_quiet (fail); try go_wp2)
        go_ret
        exact ⟨rfl, by repeat (first | exact Drawn0.refl _ | apply Drawn0.step)⟩
       ·rw [if_neg c7] at H
        have c7b0 : ((rdOf false l0 x5_1) != (rdOf false l1 x5_1)) = false := by simpa using c7
        (try (have c7b1 : decide ((rdOf false l0 x5_1) = (rdOf false l1 x5_1)) = true := by simpa using c7))
        (try (have c7b2 : ((rdOf false l0 x5_1) == (rdOf false l1 x5_1)) = true := by simpa using c7))
        clear c7
        have H' := Aside0.mk H
        clear H
        have p1317 : 0 ≤ (x5_1 : Int) := of_decide_eq_true (by (with_reducible assumption))
        have q1317 : x5_1 < (l0.length : Int) := of_decide_eq_true (by (with_reducible assumption))
        obtain ⟨ad1317, e1317, hx1317_0⟩ := Kd.at_bool HR0.out x5_1 p1317 q1317
        cases e1317
        replace p1317 := eq_true p1317
        replace q1317 := eq_true q1317
        have p1318 : 0 ≤ (x5_1 : Int) := of_decide_eq_true (by (with_reducible assumption))
        have q1318 : x5_1 < (l1.length : Int) := of_decide_eq_true (by (with_reducible assumption))
        obtain ⟨ad1318, e1318, hx1318_0⟩ := Kd.at_bool HR1.out x5_1 p1318 q1318
        cases e1318
        replace p1318 := eq_true p1318
        replace q1318 := eq_true q1318
        go_wp2
        repeat (go_quiet (fail); try go_wp2)
        go_roundg k1
        case measure => have := HK1.out; omega
        case rel => exact ⟨(wrap64 (x5_1 + 1)), rfl, H', ⟨by have := HK1.out; omega⟩, by repeat (first | exact Drawn0.refl _ | apply Drawn0.step)⟩
      ·rw [if_neg c6] at H
       exact absurd H (by simp)
     ·rw [if_neg c5] at H
      exact absurd H (by simp)
    ·rw [if_neg c4] at H
     have c4b0 : decide (x5_1 < (l0.length : Int)) = false := decide_eq_false c4
     clear c4
     obtain rfl := Option.some.inj H
     go_wp2
     repeat (go_quiet (fail))
     go_ret
     exact ⟨rfl, by repeat (first | exact Drawn0.refl _ | apply Drawn0.step)⟩
 ·rw [if_neg c3] at H
  have c3b0 : ((l0.length : Int) == (l1.length : Int)) = false := beq_eq_false_iff_ne.mpr c3
  have c3b1 : ((l0.length : Int) != (l1.length : Int)) = true := bne_iff_ne.mpr c3
  have c3b2 : (l0.length == l1.length) = false := by (simp at c3 ⊢; omega)
  obtain rfl := Option.some.inj H
  go_enter Try.func142, Try.ntmps142
  go_wp2
  repeat (go_quiet (fail))
  go_ret
  exact ⟨rfl, by repeat (exact Drawn0.refl _)⟩

end Go.Proofs.Ytobndcjmjhehjaa.P
namespace Go.Proofs.Ytobndcjmjhehjaa.P
open Go.RowKit Go.Proofs.YtobndcjmjhehjaaW.PrintWords Go.Proofs.YtobndcjmjhehjaaW.PrintLast Go.Proofs.YtobndcjmjhehjaaW.PrintMore
attribute [local go_sem] max2_int min2_int max_two min_two max_three min_three max_four min_four   -- for this text's walks alone
set_option linter.unusedVariables false
set_option linter.unusedSimpArgs false

/-! ### laws_eqTask: function 42 -/
def laws_eqTask.f (k : Nat) (a0_0 : Int) (l0_1 : List (S60)) (l0_2 : List (S60)) (l0_3 : List Bool) (a0_4 : Int) (a1_0 : Int) (l1_1 : List (S60)) (l1_2 : List (S60)) (l1_3 : List Bool) (a1_4 : Int) : Option (Bool) := if a0_0 = a1_0 then ((laws_eqRowS.f k l0_1 l1_1).bind fun t1321 => (if t1321 = true then ((laws_eqRowS.f k l0_2 l1_2).bind fun t1322 => (if t1322 = true then ((laws_eqBoolS.f k l0_3 l1_3).bind fun t1323 => (if t1323 = true then (if a0_4 = a1_4 then (some true) else (some false)) else (some false))) else (some false))) else (some false))) else (some false)
theorem laws_eqTask.mono : ∀ a0 a1 a2 a3 a4 a5 a6 a7 a8 a9 k, LeO (laws_eqTask.f k a0 a1 a2 a3 a4 a5 a6 a7 a8 a9) (laws_eqTask.f (k + 1) a0 a1 a2 a3 a4 a5 a6 a7 a8 a9) := by
 intro a0 a1 a2 a3 a4 a5 a6 a7 a8 a9 k
 unfold laws_eqTask.f
 repeat' first
   | (with_reducible exact laws_eqBoolS.mono _ _ _)
   | (with_reducible exact laws_eqRowS.mono _ _ _)
   | (with_reducible exact LeO.refl _)
   | (with_reducible refine LeO.ite ?_ ?_)
   | (with_reducible refine LeO.bind ?_ (fun _ => ?_))
   | refine LeO.bind ?_ (fun _ => ?_)
set_option maxHeartbeats 8000000 in
set_option maxRecDepth 100000 in
theorem laws_eqTask.calls (k : Nat) (a0_0 : Int) (A0_1 : Option Addr) (c0_1 : Nat) (l0_1 : List (S60)) (A0_2 : Option Addr) (c0_2 : Nat) (l0_2 : List (S60)) (A0_3 : Option Addr) (c0_3 : Nat) (l0_3 : List Bool) (a0_4 : Int) (a1_0 : Int) (A1_1 : Option Addr) (c1_1 : Nat) (l1_1 : List (S60)) (A1_2 : Option Addr) (c1_2 : Nat) (l1_2 : List (S60)) (A1_3 : Option Addr) (c1_3 : Nat) (l1_3 : List Bool) (a1_4 : Int) (r : Bool) (w : World) (hr0_1 : Kd.C k60 w A0_1 l0_1.length l0_1) (hc0_1 : l0_1.length ≤ c0_1) (hr0_2 : Kd.C k60 w A0_2 l0_2.length l0_2) (hc0_2 : l0_2.length ≤ c0_2) (hr0_3 : Kd.C Kd.bool w A0_3 l0_3.length l0_3) (hc0_3 : l0_3.length ≤ c0_3) (hr1_1 : Kd.C k60 w A1_1 l1_1.length l1_1) (hc1_1 : l1_1.length ≤ c1_1) (hr1_2 : Kd.C k60 w A1_2 l1_2.length l1_2) (hc1_2 : l1_2.length ≤ c1_2) (hr1_3 : Kd.C Kd.bool w A1_3 l1_3.length l1_3) (hc1_3 : l1_3.length ≤ c1_3) (h : laws_eqTask.f k a0_0 l0_1 l0_2 l0_3 a0_4 a1_0 l1_1 l1_2 l1_3 a1_4 = some r) :
  Calls Try.prog 42 #[.agg #[.int .i64 a0_0, .slice A0_1 l0_1.length c0_1, .slice A0_2 l0_2.length c0_2, .slice A0_3 l0_3.length c0_3, .int .i64 a0_4], .agg #[.int .i64 a1_0, .slice A1_1 l1_1.length c1_1, .slice A1_2 l1_2.length c1_2, .slice A1_3 l1_3.length c1_3, .int .i64 a1_4]] w fun e w' => e = .returned (.bool r) ∧ Below w.heap.size w w' := by
 have hu40 := Try.underlying40
 have HR0_1 := Aside0.mk hr0_1
 have HC0_1 := Aside0.mk hc0_1
 clear hr0_1 hc0_1
 have HR0_2 := Aside0.mk hr0_2
 have HC0_2 := Aside0.mk hc0_2
 clear hr0_2 hc0_2
 have HR0_3 := Aside0.mk hr0_3
 have HC0_3 := Aside0.mk hc0_3
 clear hr0_3 hc0_3
 have HR1_1 := Aside0.mk hr1_1
 have HC1_1 := Aside0.mk hc1_1
 clear hr1_1 hc1_1
 have HR1_2 := Aside0.mk hr1_2
 have HC1_2 := Aside0.mk hc1_2
 clear hr1_2 hc1_2
 have HR1_3 := Aside0.mk hr1_3
 have HC1_3 := Aside0.mk hc1_3
 clear hr1_3 hc1_3
 have HB := Aside0.mk (Below.refl w.heap.size w)
 have H : (if a0_0 = a1_0 then ((laws_eqRowS.f k l0_1 l1_1).bind fun t1321 => (if t1321 = true then ((laws_eqRowS.f k l0_2 l1_2).bind fun t1322 => (if t1322 = true then ((laws_eqBoolS.f k l0_3 l1_3).bind fun t1323 => (if t1323 = true then (if a0_4 = a1_4 then (some true) else (some false)) else (some false))) else (some false))) else (some false))) else (some false)) = some r := h
 clear h
 by_cases c3 : a0_0 = a1_0
 ·rw [if_pos c3] at H
  have c3b0 : (a0_0 == a1_0) = true := beq_iff_eq.mpr c3
  have c3b1 : (a0_0 != a1_0) = false := bne_eq_false_iff_eq.mpr c3
  clear c3
  replace H := Option.bind_eq_some_iff.mp H
  obtain ⟨t1321, A40, H⟩ := H
  have A4 := Aside0.mk A40
  clear A40
  by_cases c5 : t1321 = true
  ·subst c5
   rw [if_pos rfl] at H
   replace H := Option.bind_eq_some_iff.mp H
   obtain ⟨t1322, A60, H⟩ := H
   have A6 := Aside0.mk A60
   clear A60
   by_cases c7 : t1322 = true
   ·subst c7
    rw [if_pos rfl] at H
    replace H := Option.bind_eq_some_iff.mp H
    obtain ⟨t1323, A80, H⟩ := H
    have A8 := Aside0.mk A80
    clear A80
    by_cases c9 : t1323 = true
    ·subst c9
     rw [if_pos rfl] at H
     by_cases c10 : a0_4 = a1_4
     ·rw [if_pos c10] at H
      have c10b0 : (a0_4 == a1_4) = true := beq_iff_eq.mpr c10
      have c10b1 : (a0_4 != a1_4) = false := bne_eq_false_iff_eq.mpr c10
      clear c10
      obtain rfl := Option.some.inj H
      go_enter Try.func42, Try.ntmps42
      go_wp2_with (first | ((with_reducible refine gate_dst (N := 2) rfl ?_); refine box_event ?hg (N := 2) ?hd (cs := #[.int .i64 a0_0, .slice A0_1 l0_1.length c0_1, .slice A0_2 l0_2.length c0_2, .slice A0_3 l0_3.length c0_3, .int .i64 a0_4]) (t := 40) ?hr ?_; (case hd => rfl); (case hg => rfl); (case hr => (go_simp; done)); intro gb1319 hg w11 hbox hb; have n0_ := Aside0.mk (below_step HB.out hb); have n1_ := Aside0.mk (hbox); have n2_ := Aside0.mk ((by rw [hg]; exact (below_size HB.out) : w.heap.size ≤ gb1319)); have n3_ := Aside0.mk ((by rw [hg]; exact (below_size HB.out) : w.heap.size ≤ gb1319)); clear HB; have HB := n0_; have BK1319 := n1_; have GW1319 := n2_; have GE1319 := n3_; clear n0_ n1_ n2_ n3_; clear hb hbox hg) | ((with_reducible refine gate_dst (N := 3) rfl ?_); refine box_event ?hg (N := 3) ?hd (cs := #[.int .i64 a1_0, .slice A1_1 l1_1.length c1_1, .slice A1_2 l1_2.length c1_2, .slice A1_3 l1_3.length c1_3, .int .i64 a1_4]) (t := 40) ?hr ?_; (case hd => rfl); (case hg => rfl); (case hr => (go_simp; done)); intro gb1320 hg w12 hbox hb; have n0_ := Aside0.mk (blk_below (g := gb1319) (o := .cells #[.int .i64 a0_0, .slice A0_1 l0_1.length c0_1, .slice A0_2 l0_2.length c0_2, .slice A0_3 l0_3.length c0_3, .int .i64 a0_4] 40 (0, 0)) BK1319.out hb); have n1_ := Aside0.mk (below_step HB.out hb); have n2_ := Aside0.mk (hbox); have n3_ := Aside0.mk ((by rw [hg]; exact (below_size HB.out) : w.heap.size ≤ gb1320)); have n4_ := Aside0.mk ((by rw [hg]; exact (below_size HB.out) : w.heap.size ≤ gb1320)); have n5_ := Aside0.mk ((by rw [hg]; exact Nat.ne_of_lt (blk_lt (g := gb1319) (o := .cells #[.int .i64 a0_0, .slice A0_1 l0_1.length c0_1, .slice A0_2 l0_2.length c0_2, .slice A0_3 l0_3.length c0_3, .int .i64 a0_4] 40 (0, 0)) BK1319.out) : gb1319 ≠ gb1320)); have n6_ := Aside0.mk ((by rw [hg]; exact Nat.ne_of_gt (blk_lt (g := gb1319) (o := .cells #[.int .i64 a0_0, .slice A0_1 l0_1.length c0_1, .slice A0_2 l0_2.length c0_2, .slice A0_3 l0_3.length c0_3, .int .i64 a0_4] 40 (0, 0)) BK1319.out) : gb1320 ≠ gb1319)); clear BK1319; clear HB; have BK1319 := n0_; have HB := n1_; have BK1320 := n2_; have GW1320 := n3_; have GE1320 := n4_; have NB1319_1320 := n5_; have NB1320_1319 := n6_; clear n0_ n1_ n2_ n3_ n4_ n5_ n6_; clear hb hbox hg; have hnb13 := NB1319_1320.out; have hnc13 := NB1320_1319.out; have hcz14_0 : w12.cell? ⟨gb1319, 0, none⟩ = some (.int .i64 a0_0) := (blk_cell BK1319.out 0).trans rfl; have hcz14_1 : w12.cell? ⟨gb1319, 1, none⟩ = some (.slice A0_1 l0_1.length c0_1) := (blk_cell BK1319.out 1).trans rfl; have hcz14_2 : w12.cell? ⟨gb1319, 2, none⟩ = some (.slice A0_2 l0_2.length c0_2) := (blk_cell BK1319.out 2).trans rfl; have hcz14_3 : w12.cell? ⟨gb1319, 3, none⟩ = some (.slice A0_3 l0_3.length c0_3) := (blk_cell BK1319.out 3).trans rfl; have hcz14_4 : w12.cell? ⟨gb1319, 4, none⟩ = some (.int .i64 a0_4) := (blk_cell BK1319.out 4).trans rfl; have hfz14_0 := blk_frozen BK1319.out 0; have hfz14_1 := blk_frozen BK1319.out 1; have hfz14_2 := blk_frozen BK1319.out 2; have hfz14_3 := blk_frozen BK1319.out 3; have hfz14_4 := blk_frozen BK1319.out 4; have hcz15_0 : w12.cell? ⟨gb1320, 0, none⟩ = some (.int .i64 a1_0) := (blk_cell BK1320.out 0).trans rfl; have hcz15_1 : w12.cell? ⟨gb1320, 1, none⟩ = some (.slice A1_1 l1_1.length c1_1) := (blk_cell BK1320.out 1).trans rfl; have hcz15_2 : w12.cell? ⟨gb1320, 2, none⟩ = some (.slice A1_2 l1_2.length c1_2) := (blk_cell BK1320.out 2).trans rfl; have hcz15_3 : w12.cell? ⟨gb1320, 3, none⟩ = some (.slice A1_3 l1_3.length c1_3) := (blk_cell BK1320.out 3).trans rfl; have hcz15_4 : w12.cell? ⟨gb1320, 4, none⟩ = some (.int .i64 a1_4) := (blk_cell BK1320.out 4).trans rfl; have hfz15_0 := blk_frozen BK1320.out 0; have hfz15_1 := blk_frozen BK1320.out 1; have hfz15_2 := blk_frozen BK1320.out 2; have hfz15_3 := blk_frozen BK1320.out 3; have hfz15_4 := blk_frozen BK1320.out 4) | ((with_reducible refine gate_callee (f := 91) rfl ?_); refine goesL_ (some 14) rfl rfl Try.func91 (by kernel_rfl) rfl #[.slice A0_1 l0_1.length c0_1, .slice A1_1 l1_1.length c1_1] rfl (by (try simp only [List.map_toArray, List.map_cons, List.map_nil]); rfl) ?_; (with_reducible refine (laws_eqRowS.calls k _ _ l0_1 _ _ l1_1 true _ ?side1 ?side2 ?side3 ?side4 A4.out).mono ?_); (case side1 => repeat (exact (Kd.C_below HR0_1.out HB.out))); (case side2 => exact HC0_1.out); (case side3 => repeat (exact (Kd.C_below HR1_1.out HB.out))); (case side4 => exact HC1_1.out); rintro e w16 ⟨rfl, hb⟩; refine ⟨_, rfl, ?_⟩; have n0_ := Aside0.mk (blk_below (g := gb1319) (o := .cells #[.int .i64 a0_0, .slice A0_1 l0_1.length c0_1, .slice A0_2 l0_2.length c0_2, .slice A0_3 l0_3.length c0_3, .int .i64 a0_4] 40 (0, 0)) BK1319.out hb); have n1_ := Aside0.mk (blk_below (g := gb1320) (o := .cells #[.int .i64 a1_0, .slice A1_1 l1_1.length c1_1, .slice A1_2 l1_2.length c1_2, .slice A1_3 l1_3.length c1_3, .int .i64 a1_4] 40 (0, 0)) BK1320.out hb); have n2_ := Aside0.mk (below_step HB.out hb); clear BK1319; clear BK1320; clear HB; have BK1319 := n0_; have BK1320 := n1_; have HB := n2_; clear n0_ n1_ n2_; (try clear hb); (try clear hb2); (try clear hk); (try clear hi); have hcz17_0 : w16.cell? ⟨gb1319, 0, none⟩ = some (.int .i64 a0_0) := (blk_cell BK1319.out 0).trans rfl; have hcz17_1 : w16.cell? ⟨gb1319, 1, none⟩ = some (.slice A0_1 l0_1.length c0_1) := (blk_cell BK1319.out 1).trans rfl; have hcz17_2 : w16.cell? ⟨gb1319, 2, none⟩ = some (.slice A0_2 l0_2.length c0_2) := (blk_cell BK1319.out 2).trans rfl; have hcz17_3 : w16.cell? ⟨gb1319, 3, none⟩ = some (.slice A0_3 l0_3.length c0_3) := (blk_cell BK1319.out 3).trans rfl; have hcz17_4 : w16.cell? ⟨gb1319, 4, none⟩ = some (.int .i64 a0_4) := (blk_cell BK1319.out 4).trans rfl; have hfz17_0 := blk_frozen BK1319.out 0; have hfz17_1 := blk_frozen BK1319.out 1; have hfz17_2 := blk_frozen BK1319.out 2; have hfz17_3 := blk_frozen BK1319.out 3; have hfz17_4 := blk_frozen BK1319.out 4; have hcz18_0 : w16.cell? ⟨gb1320, 0, none⟩ = some (.int .i64 a1_0) := (blk_cell BK1320.out 0).trans rfl; have hcz18_1 : w16.cell? ⟨gb1320, 1, none⟩ = some (.slice A1_1 l1_1.length c1_1) := (blk_cell BK1320.out 1).trans rfl; have hcz18_2 : w16.cell? ⟨gb1320, 2, none⟩ = some (.slice A1_2 l1_2.length c1_2) := (blk_cell BK1320.out 2).trans rfl; have hcz18_3 : w16.cell? ⟨gb1320, 3, none⟩ = some (.slice A1_3 l1_3.length c1_3) := (blk_cell BK1320.out 3).trans rfl; have hcz18_4 : w16.cell? ⟨gb1320, 4, none⟩ = some (.int .i64 a1_4) := (blk_cell BK1320.out 4).trans rfl; have hfz18_0 := blk_frozen BK1320.out 0; have hfz18_1 := blk_frozen BK1320.out 1; have hfz18_2 := blk_frozen BK1320.out 2; have hfz18_3 := blk_frozen BK1320.out 3; have hfz18_4 := blk_frozen BK1320.out 4) | ((with_reducible refine gate_callee (f := 91) rfl ?_); refine goesL_ (some 20) rfl rfl Try.func91 (by kernel_rfl) rfl #[.slice A0_2 l0_2.length c0_2, .slice A1_2 l1_2.length c1_2] rfl (by (try simp only [List.map_toArray, List.map_cons, List.map_nil]); rfl) ?_; (with_reducible refine (laws_eqRowS.calls k _ _ l0_2 _ _ l1_2 true _ ?side1 ?side2 ?side3 ?side4 A6.out).mono ?_); (case side1 => repeat (exact (Kd.C_below HR0_2.out HB.out))); (case side2 => exact HC0_2.out); (case side3 => repeat (exact (Kd.C_below HR1_2.out HB.out))); (case side4 => exact HC1_2.out); rintro e w19 ⟨rfl, hb⟩; refine ⟨_, rfl, ?_⟩; have n0_ := Aside0.mk (blk_below (g := gb1319) (o := .cells #[.int .i64 a0_0, .slice A0_1 l0_1.length c0_1, .slice A0_2 l0_2.length c0_2, .slice A0_3 l0_3.length c0_3, .int .i64 a0_4] 40 (0, 0)) BK1319.out hb); have n1_ := Aside0.mk (blk_below (g := gb1320) (o := .cells #[.int .i64 a1_0, .slice A1_1 l1_1.length c1_1, .slice A1_2 l1_2.length c1_2, .slice A1_3 l1_3.length c1_3, .int .i64 a1_4] 40 (0, 0)) BK1320.out hb); have n2_ := Aside0.mk (below_step HB.out hb); clear BK1319; clear BK1320; clear HB; have BK1319 := n0_; have BK1320 := n1_; have HB := n2_; clear n0_ n1_ n2_; (try clear hb); (try clear hb2); (try clear hk); (try clear hi); have hcz20_0 : w19.cell? ⟨gb1319, 0, none⟩ = some (.int .i64 a0_0) := (blk_cell BK1319.out 0).trans rfl; have hcz20_1 : w19.cell? ⟨gb1319, 1, none⟩ = some (.slice A0_1 l0_1.length c0_1) := (blk_cell BK1319.out 1).trans rfl; have hcz20_2 : w19.cell? ⟨gb1319, 2, none⟩ = some (.slice A0_2 l0_2.length c0_2) := (blk_cell BK1319.out 2).trans rfl; have hcz20_3 : w19.cell? ⟨gb1319, 3, none⟩ = some (.slice A0_3 l0_3.length c0_3) := (blk_cell BK1319.out 3).trans rfl; have hcz20_4 : w19.cell? ⟨gb1319, 4, none⟩ = some (.int .i64 a0_4) := (blk_cell BK1319.out 4).trans rfl; have hfz20_0 := blk_frozen BK1319.out 0; have hfz20_1 := blk_frozen BK1319.out 1; have hfz20_2 := blk_frozen BK1319.out 2; have hfz20_3 := blk_frozen BK1319.out 3; have hfz20_4 := blk_frozen BK1319.out 4; have hcz21_0 : w19.cell? ⟨gb1320, 0, none⟩ = some (.int .i64 a1_0) := (blk_cell BK1320.out 0).trans rfl; have hcz21_1 : w19.cell? ⟨gb1320, 1, none⟩ = some (.slice A1_1 l1_1.length c1_1) := (blk_cell BK1320.out 1).trans rfl; have hcz21_2 : w19.cell? ⟨gb1320, 2, none⟩ = some (.slice A1_2 l1_2.length c1_2) := (blk_cell BK1320.out 2).trans rfl; have hcz21_3 : w19.cell? ⟨gb1320, 3, none⟩ = some (.slice A1_3 l1_3.length c1_3) := (blk_cell BK1320.out 3).trans rfl; have hcz21_4 : w19.cell? ⟨gb1320, 4, none⟩ = some (.int .i64 a1_4) := (blk_cell BK1320.out 4).trans rfl; have hfz21_0 := blk_frozen BK1320.out 0; have hfz21_1 := blk_frozen BK1320.out 1; have hfz21_2 := blk_frozen BK1320.out 2; have hfz21_3 := blk_frozen BK1320.out 3; have hfz21_4 := blk_frozen BK1320.out 4) | ((with_reducible refine gate_callee (f := 142) rfl ?_); refine goesL_ (some 26) rfl rfl Try.func142 (by kernel_rfl) rfl #[.slice A0_3 l0_3.length c0_3, .slice A1_3 l1_3.length c1_3] rfl (by (try simp only [List.map_toArray, List.map_cons, List.map_nil]); rfl) ?_; (with_reducible refine (laws_eqBoolS.calls k _ _ l0_3 _ _ l1_3 true _ ?side1 ?side2 ?side3 ?side4 A8.out).mono ?_); (case side1 => repeat (exact (Kd.C_below HR0_3.out HB.out))); (case side2 => exact HC0_3.out); (case side3 => repeat (exact (Kd.C_below HR1_3.out HB.out))); (case side4 => exact HC1_3.out); rintro e w' ⟨rfl, ⟨nd, rfl⟩⟩; refine ⟨_, rfl, ?_⟩))
      go_ret
      exact ⟨rfl, by repeat ((with_reducible first | exact HB.out | apply pw_below_drewN))⟩
     ·rw [if_neg c10] at H
      have c10b0 : (a0_4 == a1_4) = false := beq_eq_false_iff_ne.mpr c10
      have c10b1 : (a0_4 != a1_4) = true := bne_iff_ne.mpr c10
      obtain rfl := Option.some.inj H
      go_enter Try.func42, Try.ntmps42
      go_wp2_with (first | ((with_reducible refine gate_dst (N := 2) rfl ?_); refine box_event ?hg (N := 2) ?hd (cs := #[.int .i64 a0_0, .slice A0_1 l0_1.length c0_1, .slice A0_2 l0_2.length c0_2, .slice A0_3 l0_3.length c0_3, .int .i64 a0_4]) (t := 40) ?hr ?_; (case hd => rfl); (case hg => rfl); (case hr => (go_simp; done)); intro gb1319 hg w22 hbox hb; have n0_ := Aside0.mk (below_step HB.out hb); have n1_ := Aside0.mk (hbox); have n2_ := Aside0.mk ((by rw [hg]; exact (below_size HB.out) : w.heap.size ≤ gb1319)); have n3_ := Aside0.mk ((by rw [hg]; exact (below_size HB.out) : w.heap.size ≤ gb1319)); clear HB; have HB := n0_; have BK1319 := n1_; have GW1319 := n2_; have GE1319 := n3_; clear n0_ n1_ n2_ n3_; clear hb hbox hg) | ((with_reducible refine gate_dst (N := 3) rfl ?_); refine box_event ?hg (N := 3) ?hd (cs := #[.int .i64 a1_0, .slice A1_1 l1_1.length c1_1, .slice A1_2 l1_2.length c1_2, .slice A1_3 l1_3.length c1_3, .int .i64 a1_4]) (t := 40) ?hr ?_; (case hd => rfl); (case hg => rfl); (case hr => (go_simp; done)); intro gb1320 hg w23 hbox hb; have n0_ := Aside0.mk (blk_below (g := gb1319) (o := .cells #[.int .i64 a0_0, .slice A0_1 l0_1.length c0_1, .slice A0_2 l0_2.length c0_2, .slice A0_3 l0_3.length c0_3, .int .i64 a0_4] 40 (0, 0)) BK1319.out hb); have n1_ := Aside0.mk (below_step HB.out hb); have n2_ := Aside0.mk (hbox); have n3_ := Aside0.mk ((by rw [hg]; exact (below_size HB.out) : w.heap.size ≤ gb1320)); have n4_ := Aside0.mk ((by rw [hg]; exact (below_size HB.out) : w.heap.size ≤ gb1320)); have n5_ := Aside0.mk ((by rw [hg]; exact Nat.ne_of_lt (blk_lt (g := gb1319) (o := .cells #[.int .i64 a0_0, .slice A0_1 l0_1.length c0_1, .slice A0_2 l0_2.length c0_2, .slice A0_3 l0_3.length c0_3, .int .i64 a0_4] 40 (0, 0)) BK1319.out) : gb1319 ≠ gb1320)); have n6_ := Aside0.mk ((by rw [hg]; exact Nat.ne_of_gt (blk_lt (g := gb1319) (o := .cells #[.int .i64 a0_0, .slice A0_1 l0_1.length c0_1, .slice A0_2 l0_2.length c0_2, .slice A0_3 l0_3.length c0_3, .int .i64 a0_4] 40 (0, 0)) BK1319.out) : gb1320 ≠ gb1319)); clear BK1319; clear HB; have BK1319 := n0_; have HB := n1_; have BK1320 := n2_; have GW1320 := n3_; have GE1320 := n4_; have NB1319_1320 := n5_; have NB1320_1319 := n6_; clear n0_ n1_ n2_ n3_ n4_ n5_ n6_; clear hb hbox hg; have hnb24 := NB1319_1320.out; have hnc24 := NB1320_1319.out; have hcz25_0 : w23.cell? ⟨gb1319, 0, none⟩ = some (.int .i64 a0_0) := (blk_cell BK1319.out 0).trans rfl; have hcz25_1 : w23.cell? ⟨gb1319, 1, none⟩ = some (.slice A0_1 l0_1.length c0_1) := (blk_cell BK1319.out 1).trans rfl; have hcz25_2 : w23.cell? ⟨gb1319, 2, none⟩ = some (.slice A0_2 l0_2.length c0_2) := (blk_cell BK1319.out 2).trans rfl; have hcz25_3 : w23.cell? ⟨gb1319, 3, none⟩ = some (.slice A0_3 l0_3.length c0_3) := (blk_cell BK1319.out 3).trans rfl; have hcz25_4 : w23.cell? ⟨gb1319, 4, none⟩ = some (.int .i64 a0_4) := (blk_cell BK1319.out 4).trans rfl; have hfz25_0 := blk_frozen BK1319.out 0; have hfz25_1 := blk_frozen BK1319.out 1; have hfz25_2 := blk_frozen BK1319.out 2; have hfz25_3 := blk_frozen BK1319.out 3; have hfz25_4 := blk_frozen BK1319.out 4; have hcz26_0 : w23.cell? ⟨gb1320, 0, none⟩ = some (.int .i64 a1_0) := (blk_cell BK1320.out 0).trans rfl; have hcz26_1 : w23.cell? ⟨gb1320, 1, none⟩ = some (.slice A1_1 l1_1.length c1_1) := (blk_cell BK1320.out 1).trans rfl; have hcz26_2 : w23.cell? ⟨gb1320, 2, none⟩ = some (.slice A1_2 l1_2.length c1_2) := (blk_cell BK1320.out 2).trans rfl; have hcz26_3 : w23.cell? ⟨gb1320, 3, none⟩ = some (.slice A1_3 l1_3.length c1_3) := (blk_cell BK1320.out 3).trans rfl; have hcz26_4 : w23.cell? ⟨gb1320, 4, none⟩ = some (.int .i64 a1_4) := (blk_cell BK1320.out 4).trans rfl; have hfz26_0 := blk_frozen BK1320.out 0; have hfz26_1 := blk_frozen BK1320.out 1; have hfz26_2 := blk_frozen BK1320.out 2; have hfz26_3 := blk_frozen BK1320.out 3; have hfz26_4 := blk_frozen BK1320.out 4) | ((with_reducible refine gate_callee (f := 91) rfl ?_); refine goesL_ (some 14) rfl rfl Try.func91 (by kernel_rfl) rfl #[.slice A0_1 l0_1.length c0_1, .slice A1_1 l1_1.length c1_1] rfl (by (try simp only [List.map_toArray, List.map_cons, List.map_nil]); rfl) ?_; (with_reducible refine (laws_eqRowS.calls k _ _ l0_1 _ _ l1_1 true _ ?side1 ?side2 ?side3 ?side4 A4.out).mono ?_); (case side1 => repeat (exact (Kd.C_below HR0_1.out HB.out))); (case side2 => exact HC0_1.out); (case side3 => repeat (exact (Kd.C_below HR1_1.out HB.out))); (case side4 => exact HC1_1.out); rintro e w27 ⟨rfl, hb⟩; refine ⟨_, rfl, ?_⟩; have n0_ := Aside0.mk (blk_below (g := gb1319) (o := .cells #[.int .i64 a0_0, .slice A0_1 l0_1.length c0_1, .slice A0_2 l0_2.length c0_2, .slice A0_3 l0_3.length c0_3, .int .i64 a0_4] 40 (0, 0)) BK1319.out hb); have n1_ := Aside0.mk (blk_below (g := gb1320) (o := .cells #[.int .i64 a1_0, .slice A1_1 l1_1.length c1_1, .slice A1_2 l1_2.length c1_2, .slice A1_3 l1_3.length c1_3, .int .i64 a1_4] 40 (0, 0)) BK1320.out hb); have n2_ := Aside0.mk (below_step HB.out hb); clear BK1319; clear BK1320; clear HB; have BK1319 := n0_; have BK1320 := n1_; have HB := n2_; clear n0_ n1_ n2_; (try clear hb); (try clear hb2); (try clear hk); (try clear hi); have hcz28_0 : w27.cell? ⟨gb1319, 0, none⟩ = some (.int .i64 a0_0) := (blk_cell BK1319.out 0).trans rfl; have hcz28_1 : w27.cell? ⟨gb1319, 1, none⟩ = some (.slice A0_1 l0_1.length c0_1) := (blk_cell BK1319.out 1).trans rfl; have hcz28_2 : w27.cell? ⟨gb1319, 2, none⟩ = some (.slice A0_2 l0_2.length c0_2) := (blk_cell BK1319.out 2).trans rfl; have hcz28_3 : w27.cell? ⟨gb1319, 3, none⟩ = some (.slice A0_3 l0_3.length c0_3) := (blk_cell BK1319.out 3).trans rfl; have hcz28_4 : w27.cell? ⟨gb1319, 4, none⟩ = some (.int .i64 a0_4) := (blk_cell BK1319.out 4).trans rfl; have hfz28_0 := blk_frozen BK1319.out 0; have hfz28_1 := blk_frozen BK1319.out 1; have hfz28_2 := blk_frozen BK1319.out 2; have hfz28_3 := blk_frozen BK1319.out 3; have hfz28_4 := blk_frozen BK1319.out 4; have hcz29_0 : w27.cell? ⟨gb1320, 0, none⟩ = some (.int .i64 a1_0) := (blk_cell BK1320.out 0).trans rfl; have hcz29_1 : w27.cell? ⟨gb1320, 1, none⟩ = some (.slice A1_1 l1_1.length c1_1) := (blk_cell BK1320.out 1).trans rfl; have hcz29_2 : w27.cell? ⟨gb1320, 2, none⟩ = some (.slice A1_2 l1_2.length c1_2) := (blk_cell BK1320.out 2).trans rfl; have hcz29_3 : w27.cell? ⟨gb1320, 3, none⟩ = some (.slice A1_3 l1_3.length c1_3) := (blk_cell BK1320.out 3).trans rfl; have hcz29_4 : w27.cell? ⟨gb1320, 4, none⟩ = some (.int .i64 a1_4) := (blk_cell BK1320.out 4).trans rfl; have hfz29_0 := blk_frozen BK1320.out 0; have hfz29_1 := blk_frozen BK1320.out 1; have hfz29_2 := blk_frozen BK1320.out 2; have hfz29_3 := blk_frozen BK1320.out 3; have hfz29_4 := blk_frozen BK1320.out 4) | ((with_reducible refine gate_callee (f := 91) rfl ?_); refine goesL_ (some 20) rfl rfl Try.func91 (by kernel_rfl) rfl #[.slice A0_2 l0_2.length c0_2, .slice A1_2 l1_2.length c1_2] rfl (by (try simp only [List.map_toArray, List.map_cons, List.map_nil]); rfl) ?_; (with_reducible refine (laws_eqRowS.calls k _ _ l0_2 _ _ l1_2 true _ ?side1 ?side2 ?side3 ?side4 A6.out).mono ?_); (case side1 => repeat (exact (Kd.C_below HR0_2.out HB.out))); (case side2 => exact HC0_2.out); (case side3 => repeat (exact (Kd.C_below HR1_2.out HB.out))); (case side4 => exact HC1_2.out); rintro e w30 ⟨rfl, hb⟩; refine ⟨_, rfl, ?_⟩; have n0_ := Aside0.mk (blk_below (g := gb1319) (o := .cells #[.int .i64 a0_0, .slice A0_1 l0_1.length c0_1, .slice A0_2 l0_2.length c0_2, .slice A0_3 l0_3.length c0_3, .int .i64 a0_4] 40 (0, 0)) BK1319.out hb); have n1_ := Aside0.mk (blk_below (g := gb1320) (o := .cells #[.int .i64 a1_0, .slice A1_1 l1_1.length c1_1, .slice A1_2 l1_2.length c1_2, .slice A1_3 l1_3.length c1_3, .int .i64 a1_4] 40 (0, 0)) BK1320.out hb); have n2_ := Aside0.mk (below_step HB.out hb); clear BK1319; clear BK1320; clear HB; have BK1319 := n0_; have BK1320 := n1_; have HB := n2_; clear n0_ n1_ n2_; (try clear hb); (try clear hb2); (try clear hk); (try clear hi); have hcz31_0 : w30.cell? ⟨gb1319, 0, none⟩ = some (.int .i64 a0_0) := (blk_cell BK1319.out 0).trans rfl; have hcz31_1 : w30.cell? ⟨gb1319, 1, none⟩ = some (.slice A0_1 l0_1.length c0_1) := (blk_cell BK1319.out 1).trans rfl; have hcz31_2 : w30.cell? ⟨gb1319, 2, none⟩ = some (.slice A0_2 l0_2.length c0_2) := (blk_cell BK1319.out 2).trans rfl; have hcz31_3 : w30.cell? ⟨gb1319, 3, none⟩ = some (.slice A0_3 l0_3.length c0_3) := (blk_cell BK1319.out 3).trans rfl; have hcz31_4 : w30.cell? ⟨gb1319, 4, none⟩ = some (.int .i64 a0_4) := (blk_cell BK1319.out 4).trans rfl; have hfz31_0 := blk_frozen BK1319.out 0; have hfz31_1 := blk_frozen BK1319.out 1; have hfz31_2 := blk_frozen BK1319.out 2; have hfz31_3 := blk_frozen BK1319.out 3; have hfz31_4 := blk_frozen BK1319.out 4; have hcz32_0 : w30.cell? ⟨gb1320, 0, none⟩ = some (.int .i64 a1_0) := (blk_cell BK1320.out 0).trans rfl; have hcz32_1 : w30.cell? ⟨gb1320, 1, none⟩ = some (.slice A1_1 l1_1.length c1_1) := (blk_cell BK1320.out 1).trans rfl; have hcz32_2 : w30.cell? ⟨gb1320, 2, none⟩ = some (.slice A1_2 l1_2.length c1_2) := (blk_cell BK1320.out 2).trans rfl; have hcz32_3 : w30.cell? ⟨gb1320, 3, none⟩ = some (.slice A1_3 l1_3.length c1_3) := (blk_cell BK1320.out 3).trans rfl; have hcz32_4 : w30.cell? ⟨gb1320, 4, none⟩ = some (.int .i64 a1_4) := (blk_cell BK1320.out 4).trans rfl; have hfz32_0 := blk_frozen BK1320.out 0; have hfz32_1 := blk_frozen BK1320.out 1; have hfz32_2 := blk_frozen BK1320.out 2; have hfz32_3 := blk_frozen BK1320.out 3; have hfz32_4 := blk_frozen BK1320.out 4) | ((with_reducible refine gate_callee (f := 142) rfl ?_); refine goesL_ (some 26) rfl rfl Try.func142 (by kernel_rfl) rfl #[.slice A0_3 l0_3.length c0_3, .slice A1_3 l1_3.length c1_3] rfl (by (try simp only [List.map_toArray, List.map_cons, List.map_nil]); rfl) ?_; (with_reducible refine (laws_eqBoolS.calls k _ _ l0_3 _ _ l1_3 true _ ?side1 ?side2 ?side3 ?side4 A8.out).mono ?_); (case side1 => repeat (exact (Kd.C_below HR0_3.out HB.out))); (case side2 => exact HC0_3.out); (case side3 => repeat (exact (Kd.C_below HR1_3.out HB.out))); (case side4 => exact HC1_3.out); rintro e w' ⟨rfl, ⟨nd, rfl⟩⟩; refine ⟨_, rfl, ?_⟩))
      go_ret
      exact ⟨rfl, by repeat ((with_reducible first | exact HB.out | apply pw_below_drewN))⟩
    ·replace c9 := Bool.eq_false_iff.mpr c9
     subst c9
     rw [if_neg (show ¬ (false = true) by decide)] at H
     obtain rfl := Option.some.inj H
     go_enter Try.func42, Try.ntmps42
     go_wp2_with (first | ((with_reducible refine gate_dst (N := 2) rfl ?_); refine box_event ?hg (N := 2) ?hd (cs := #[.int .i64 a0_0, .slice A0_1 l0_1.length c0_1, .slice A0_2 l0_2.length c0_2, .slice A0_3 l0_3.length c0_3, .int .i64 a0_4]) (t := 40) ?hr ?_; (case hd => rfl); (case hg => rfl); (case hr => (go_simp; done)); intro gb1319 hg w33 hbox hb; have n0_ := Aside0.mk (below_step HB.out hb); have n1_ := Aside0.mk (hbox); have n2_ := Aside0.mk ((by rw [hg]; exact (below_size HB.out) : w.heap.size ≤ gb1319)); have n3_ := Aside0.mk ((by rw [hg]; exact (below_size HB.out) : w.heap.size ≤ gb1319)); clear HB; have HB := n0_; have BK1319 := n1_; have GW1319 := n2_; have GE1319 := n3_; clear n0_ n1_ n2_ n3_; clear hb hbox hg) | ((with_reducible refine gate_dst (N := 3) rfl ?_); refine box_event ?hg (N := 3) ?hd (cs := #[.int .i64 a1_0, .slice A1_1 l1_1.length c1_1, .slice A1_2 l1_2.length c1_2, .slice A1_3 l1_3.length c1_3, .int .i64 a1_4]) (t := 40) ?hr ?_; (case hd => rfl); (case hg => rfl); (case hr => (go_simp; done)); intro gb1320 hg w34 hbox hb; have n0_ := Aside0.mk (blk_below (g := gb1319) (o := .cells #[.int .i64 a0_0, .slice A0_1 l0_1.length c0_1, .slice A0_2 l0_2.length c0_2, .slice A0_3 l0_3.length c0_3, .int .i64 a0_4] 40 (0, 0)) BK1319.out hb); have n1_ := Aside0.mk (below_step HB.out hb); have n2_ := Aside0.mk (hbox); have n3_ := Aside0.mk ((by rw [hg]; exact (below_size HB.out) : w.heap.size ≤ gb1320)); have n4_ := Aside0.mk ((by rw [hg]; exact (below_size HB.out) : w.heap.size ≤ gb1320)); have n5_ := Aside0.mk ((by rw [hg]; exact Nat.ne_of_lt (blk_lt (g := gb1319) (o := .cells #[.int .i64 a0_0, .slice A0_1 l0_1.length c0_1, .slice A0_2 l0_2.length c0_2, .slice A0_3 l0_3.length c0_3, .int .i64 a0_4] 40 (0, 0)) BK1319.out) : gb1319 ≠ gb1320)); have n6_ := Aside0.mk ((by rw [hg]; exact Nat.ne_of_gt (blk_lt (g := gb1319) (o := .cells #[.int .i64 a0_0, .slice A0_1 l0_1.length c0_1, .slice A0_2 l0_2.length c0_2, .slice A0_3 l0_3.length c0_3, .int .i64 a0_4] 40 (0, 0)) BK1319.out) : gb1320 ≠ gb1319)); clear BK1319; clear HB; have BK1319 := n0_; have HB := n1_; have BK1320 := n2_; have GW1320 := n3_; have GE1320 := n4_; have NB1319_1320 := n5_; have NB1320_1319 := n6_; clear n0_ n1_ n2_ n3_ n4_ n5_ n6_; clear hb hbox hg; have hnb35 := NB1319_1320.out; have hnc35 := NB1320_1319.out; have hcz36_0 : w34.cell? ⟨gb1319, 0, none⟩ = some (.int .i64 a0_0) := (blk_cell BK1319.out 0).trans rfl; have hcz36_1 : w34.cell? ⟨gb1319, 1, none⟩ = some (.slice A0_1 l0_1.length c0_1) := (blk_cell BK1319.out 1).trans rfl; have hcz36_2 : w34.cell? ⟨gb1319, 2, none⟩ = some (.slice A0_2 l0_2.length c0_2) := (blk_cell BK1319.out 2).trans rfl; have hcz36_3 : w34.cell? ⟨gb1319, 3, none⟩ = some (.slice A0_3 l0_3.length c0_3) := (blk_cell BK1319.out 3).trans rfl; have hcz36_4 : w34.cell? ⟨gb1319, 4, none⟩ = some (.int .i64 a0_4) := (blk_cell BK1319.out 4).trans rfl; have hfz36_0 := blk_frozen BK1319.out 0; have hfz36_1 := blk_frozen BK1319.out 1; have hfz36_2 := blk_frozen BK1319.out 2; have hfz36_3 := blk_frozen BK1319.out 3; have hfz36_4 := blk_frozen BK1319.out 4; have hcz37_0 : w34.cell? ⟨gb1320, 0, none⟩ = some (.int .i64 a1_0) := (blk_cell BK1320.out 0).trans rfl; have hcz37_1 : w34.cell? ⟨gb1320, 1, none⟩ = some (.slice A1_1 l1_1.length c1_1) := (blk_cell BK1320.out 1).trans rfl; have hcz37_2 : w34.cell? ⟨gb1320, 2, none⟩ = some (.slice A1_2 l1_2.length c1_2) := (blk_cell BK1320.out 2).trans rfl; have hcz37_3 : w34.cell? ⟨gb1320, 3, none⟩ = some (.slice A1_3 l1_3.length c1_3) := (blk_cell BK1320.out 3).trans rfl; have hcz37_4 : w34.cell? ⟨gb1320, 4, none⟩ = some (.int .i64 a1_4) := (blk_cell BK1320.out 4).trans rfl; have hfz37_0 := blk_frozen BK1320.out 0; have hfz37_1 := blk_frozen BK1320.out 1; have hfz37_2 := blk_frozen BK1320.out 2; have hfz37_3 := blk_frozen BK1320.out 3; have hfz37_4 := blk_frozen BK1320.out 4) | ((with_reducible refine gate_callee (f := 91) rfl ?_); refine goesL_ (some 14) rfl rfl Try.func91 (by kernel_rfl) rfl #[.slice A0_1 l0_1.length c0_1, .slice A1_1 l1_1.length c1_1] rfl (by (try simp only [List.map_toArray, List.map_cons, List.map_nil]); rfl) ?_; (with_reducible refine (laws_eqRowS.calls k _ _ l0_1 _ _ l1_1 true _ ?side1 ?side2 ?side3 ?side4 A4.out).mono ?_); (case side1 => repeat (exact (Kd.C_below HR0_1.out HB.out))); (case side2 => exact HC0_1.out); (case side3 => repeat (exact (Kd.C_below HR1_1.out HB.out))); (case side4 => exact HC1_1.out); rintro e w38 ⟨rfl, hb⟩; refine ⟨_, rfl, ?_⟩; have n0_ := Aside0.mk (blk_below (g := gb1319) (o := .cells #[.int .i64 a0_0, .slice A0_1 l0_1.length c0_1, .slice A0_2 l0_2.length c0_2, .slice A0_3 l0_3.length c0_3, .int .i64 a0_4] 40 (0, 0)) BK1319.out hb); have n1_ := Aside0.mk (blk_below (g := gb1320) (o := .cells #[.int .i64 a1_0, .slice A1_1 l1_1.length c1_1, .slice A1_2 l1_2.length c1_2, .slice A1_3 l1_3.length c1_3, .int .i64 a1_4] 40 (0, 0)) BK1320.out hb); have n2_ := Aside0.mk (below_step HB.out hb); clear BK1319; clear BK1320; clear HB; have BK1319 := n0_; have BK1320 := n1_; have HB := n2_; clear n0_ n1_ n2_; (try clear hb); (try clear hb2); (try clear hk); (try clear hi); have hcz39_0 : w38.cell? ⟨gb1319, 0, none⟩ = some (.int .i64 a0_0) := (blk_cell BK1319.out 0).trans rfl; have hcz39_1 : w38.cell? ⟨gb1319, 1, none⟩ = some (.slice A0_1 l0_1.length c0_1) := (blk_cell BK1319.out 1).trans rfl; have hcz39_2 : w38.cell? ⟨gb1319, 2, none⟩ = some (.slice A0_2 l0_2.length c0_2) := (blk_cell BK1319.out 2).trans rfl; have hcz39_3 : w38.cell? ⟨gb1319, 3, none⟩ = some (.slice A0_3 l0_3.length c0_3) := (blk_cell BK1319.out 3).trans rfl; have hcz39_4 : w38.cell? ⟨gb1319, 4, none⟩ = some (.int .i64 a0_4) := (blk_cell BK1319.out 4).trans rfl; have hfz39_0 := blk_frozen BK1319.out 0; have hfz39_1 := blk_frozen BK1319.out 1; have hfz39_2 := blk_frozen BK1319.out 2; have hfz39_3 := blk_frozen BK1319.out 3; have hfz39_4 := blk_frozen BK1319.out 4; have hcz40_0 : w38.cell? ⟨gb1320, 0, none⟩ = some (.int .i64 a1_0) := (blk_cell BK1320.out 0).trans rfl; have hcz40_1 : w38.cell? ⟨gb1320, 1, none⟩ = some (.slice A1_1 l1_1.length c1_1) := (blk_cell BK1320.out 1).trans rfl; have hcz40_2 : w38.cell? ⟨gb1320, 2, none⟩ = some (.slice A1_2 l1_2.length c1_2) := (blk_cell BK1320.out 2).trans rfl; have hcz40_3 : w38.cell? ⟨gb1320, 3, none⟩ = some (.slice A1_3 l1_3.length c1_3) := (blk_cell BK1320.out 3).trans rfl; have hcz40_4 : w38.cell? ⟨gb1320, 4, none⟩ = some (.int .i64 a1_4) := (blk_cell BK1320.out 4).trans rfl; have hfz40_0 := blk_frozen BK1320.out 0; have hfz40_1 := blk_frozen BK1320.out 1; have hfz40_2 := blk_frozen BK1320.out 2; have hfz40_3 := blk_frozen BK1320.out 3; have hfz40_4 := blk_frozen BK1320.out 4) | ((with_reducible refine gate_callee (f := 91) rfl ?_); refine goesL_ (some 20) rfl rfl Try.func91 (by kernel_rfl) rfl #[.slice A0_2 l0_2.length c0_2, .slice A1_2 l1_2.length c1_2] rfl (by (try simp only [List.map_toArray, List.map_cons, List.map_nil]); rfl) ?_; (with_reducible refine (laws_eqRowS.calls k _ _ l0_2 _ _ l1_2 true _ ?side1 ?side2 ?side3 ?side4 A6.out).mono ?_); (case side1 => repeat (exact (Kd.C_below HR0_2.out HB.out))); (case side2 => exact HC0_2.out); (case side3 => repeat (exact (Kd.C_below HR1_2.out HB.out))); (case side4 => exact HC1_2.out); rintro e w41 ⟨rfl, hb⟩; refine ⟨_, rfl, ?_⟩; have n0_ := Aside0.mk (blk_below (g := gb1319) (o := .cells #[.int .i64 a0_0, .slice A0_1 l0_1.length c0_1, .slice A0_2 l0_2.length c0_2, .slice A0_3 l0_3.length c0_3, .int .i64 a0_4] 40 (0, 0)) BK1319.out hb); have n1_ := Aside0.mk (blk_below (g := gb1320) (o := .cells #[.int .i64 a1_0, .slice A1_1 l1_1.length c1_1, .slice A1_2 l1_2.length c1_2, .slice A1_3 l1_3.length c1_3, .int .i64 a1_4] 40 (0, 0)) BK1320.out hb); have n2_ := Aside0.mk (below_step HB.out hb); clear BK1319; clear BK1320; clear HB; have BK1319 := n0_; have BK1320 := n1_; have HB := n2_; clear n0_ n1_ n2_; (try clear hb); (try clear hb2); (try clear hk); (try clear hi); have hcz42_0 : w41.cell? ⟨gb1319, 0, none⟩ = some (.int .i64 a0_0) := (blk_cell BK1319.out 0).trans rfl; have hcz42_1 : w41.cell? ⟨gb1319, 1, none⟩ = some (.slice A0_1 l0_1.length c0_1) := (blk_cell BK1319.out 1).trans rfl; have hcz42_2 : w41.cell? ⟨gb1319, 2, none⟩ = some (.slice A0_2 l0_2.length c0_2) := (blk_cell BK1319.out 2).trans rfl; have hcz42_3 : w41.cell? ⟨gb1319, 3, none⟩ = some (.slice A0_3 l0_3.length c0_3) := (blk_cell BK1319.out 3).trans rfl; have hcz42_4 : w41.cell? ⟨gb1319, 4, none⟩ = some (.int .i64 a0_4) := (blk_cell BK1319.out 4).trans rfl; have hfz42_0 := blk_frozen BK1319.out 0; have hfz42_1 := blk_frozen BK1319.out 1; have hfz42_2 := blk_frozen BK1319.out 2; have hfz42_3 := blk_frozen BK1319.out 3; have hfz42_4 := blk_frozen BK1319.out 4; have hcz43_0 : w41.cell? ⟨gb1320, 0, none⟩ = some (.int .i64 a1_0) := (blk_cell BK1320.out 0).trans rfl; have hcz43_1 : w41.cell? ⟨gb1320, 1, none⟩ = some (.slice A1_1 l1_1.length c1_1) := (blk_cell BK1320.out 1).trans rfl; have hcz43_2 : w41.cell? ⟨gb1320, 2, none⟩ = some (.slice A1_2 l1_2.length c1_2) := (blk_cell BK1320.out 2).trans rfl; have hcz43_3 : w41.cell? ⟨gb1320, 3, none⟩ = some (.slice A1_3 l1_3.length c1_3) := (blk_cell BK1320.out 3).trans rfl; have hcz43_4 : w41.cell? ⟨gb1320, 4, none⟩ = some (.int .i64 a1_4) := (blk_cell BK1320.out 4).trans rfl; have hfz43_0 := blk_frozen BK1320.out 0; have hfz43_1 := blk_frozen BK1320.out 1; have hfz43_2 := blk_frozen BK1320.out 2; have hfz43_3 := blk_frozen BK1320.out 3; have hfz43_4 := blk_frozen BK1320.out 4) | ((with_reducible refine gate_callee (f := 142) rfl ?_); refine goesL_ (some 26) rfl rfl Try.func142 (by kernel_rfl) rfl #[.slice A0_3 l0_3.length c0_3, .slice A1_3 l1_3.length c1_3] rfl (by (try simp only [List.map_toArray, List.map_cons, List.map_nil]); rfl) ?_; (with_reducible refine (laws_eqBoolS.calls k _ _ l0_3 _ _ l1_3 false _ ?side1 ?side2 ?side3 ?side4 A8.out).mono ?_); (case side1 => repeat (exact (Kd.C_below HR0_3.out HB.out))); (case side2 => exact HC0_3.out); (case side3 => repeat (exact (Kd.C_below HR1_3.out HB.out))); (case side4 => exact HC1_3.out); rintro e w' ⟨rfl, ⟨nd, rfl⟩⟩; refine ⟨_, rfl, ?_⟩))
     go_ret
     exact ⟨rfl, by repeat ((with_reducible first | exact HB.out | apply pw_below_drewN))⟩
   ·replace c7 := Bool.eq_false_iff.mpr c7
    subst c7
    rw [if_neg (show ¬ (false = true) by decide)] at H
    obtain rfl := Option.some.inj H
    go_enter Try.func42, Try.ntmps42
    go_wp2_with (first | ((with_reducible refine gate_dst (N := 2) rfl ?_); refine box_event ?hg (N := 2) ?hd (cs := #[.int .i64 a0_0, .slice A0_1 l0_1.length c0_1, .slice A0_2 l0_2.length c0_2, .slice A0_3 l0_3.length c0_3, .int .i64 a0_4]) (t := 40) ?hr ?_; (case hd => rfl); (case hg => rfl); (case hr => (go_simp; done)); intro gb1319 hg w44 hbox hb; have n0_ := Aside0.mk (below_step HB.out hb); have n1_ := Aside0.mk (hbox); have n2_ := Aside0.mk ((by rw [hg]; exact (below_size HB.out) : w.heap.size ≤ gb1319)); have n3_ := Aside0.mk ((by rw [hg]; exact (below_size HB.out) : w.heap.size ≤ gb1319)); clear HB; have HB := n0_; have BK1319 := n1_; have GW1319 := n2_; have GE1319 := n3_; clear n0_ n1_ n2_ n3_; clear hb hbox hg) | ((with_reducible refine gate_dst (N := 3) rfl ?_); refine box_event ?hg (N := 3) ?hd (cs := #[.int .i64 a1_0, .slice A1_1 l1_1.length c1_1, .slice A1_2 l1_2.length c1_2, .slice A1_3 l1_3.length c1_3, .int .i64 a1_4]) (t := 40) ?hr ?_; (case hd => rfl); (case hg => rfl); (case hr => (go_simp; done)); intro gb1320 hg w45 hbox hb; have n0_ := Aside0.mk (blk_below (g := gb1319) (o := .cells #[.int .i64 a0_0, .slice A0_1 l0_1.length c0_1, .slice A0_2 l0_2.length c0_2, .slice A0_3 l0_3.length c0_3, .int .i64 a0_4] 40 (0, 0)) BK1319.out hb); have n1_ := Aside0.mk (below_step HB.out hb); have n2_ := Aside0.mk (hbox); have n3_ := Aside0.mk ((by rw [hg]; exact (below_size HB.out) : w.heap.size ≤ gb1320)); have n4_ := Aside0.mk ((by rw [hg]; exact (below_size HB.out) : w.heap.size ≤ gb1320)); have n5_ := Aside0.mk ((by rw [hg]; exact Nat.ne_of_lt (blk_lt (g := gb1319) (o := .cells #[.int .i64 a0_0, .slice A0_1 l0_1.length c0_1, .slice A0_2 l0_2.length c0_2, .slice A0_3 l0_3.length c0_3, .int .i64 a0_4] 40 (0, 0)) BK1319.out) : gb1319 ≠ gb1320)); have n6_ := Aside0.mk ((by rw [hg]; exact Nat.ne_of_gt (blk_lt (g := gb1319) (o := .cells #[.int .i64 a0_0, .slice A0_1 l0_1.length c0_1, .slice A0_2 l0_2.length c0_2, .slice A0_3 l0_3.length c0_3, .int .i64 a0_4] 40 (0, 0)) BK1319.out) : gb1320 ≠ gb1319)); clear BK1319; clear HB; have BK1319 := n0_; have HB := n1_; have BK1320 := n2_; have GW1320 := n3_; have GE1320 := n4_; have NB1319_1320 := n5_; have NB1320_1319 := n6_; clear n0_ n1_ n2_ n3_ n4_ n5_ n6_; clear hb hbox hg; have hnb46 := NB1319_1320.out; have hnc46 := NB1320_1319.out; have hcz47_0 : w45.cell? ⟨gb1319, 0, none⟩ = some (.int .i64 a0_0) := (blk_cell BK1319.out 0).trans rfl; have hcz47_1 : w45.cell? ⟨gb1319, 1, none⟩ = some (.slice A0_1 l0_1.length c0_1) := (blk_cell BK1319.out 1).trans rfl; have hcz47_2 : w45.cell? ⟨gb1319, 2, none⟩ = some (.slice A0_2 l0_2.length c0_2) := (blk_cell BK1319.out 2).trans rfl; have hcz47_3 : w45.cell? ⟨gb1319, 3, none⟩ = some (.slice A0_3 l0_3.length c0_3) := (blk_cell BK1319.out 3).trans rfl; have hcz47_4 : w45.cell? ⟨gb1319, 4, none⟩ = some (.int .i64 a0_4) := (blk_cell BK1319.out 4).trans rfl; have hfz47_0 := blk_frozen BK1319.out 0; have hfz47_1 := blk_frozen BK1319.out 1; have hfz47_2 := blk_frozen BK1319.out 2; have hfz47_3 := blk_frozen BK1319.out 3; have hfz47_4 := blk_frozen BK1319.out 4; have hcz48_0 : w45.cell? ⟨gb1320, 0, none⟩ = some (.int .i64 a1_0) := (blk_cell BK1320.out 0).trans rfl; have hcz48_1 : w45.cell? ⟨gb1320, 1, none⟩ = some (.slice A1_1 l1_1.length c1_1) := (blk_cell BK1320.out 1).trans rfl; have hcz48_2 : w45.cell? ⟨gb1320, 2, none⟩ = some (.slice A1_2 l1_2.length c1_2) := (blk_cell BK1320.out 2).trans rfl; have hcz48_3 : w45.cell? ⟨gb1320, 3, none⟩ = some (.slice A1_3 l1_3.length c1_3) := (blk_cell BK1320.out 3).trans rfl; have hcz48_4 : w45.cell? ⟨gb1320, 4, none⟩ = some (.int .i64 a1_4) := (blk_cell BK1320.out 4).trans rfl; have hfz48_0 := blk_frozen BK1320.out 0; have hfz48_1 := blk_frozen BK1320.out 1; have hfz48_2 := blk_frozen BK1320.out 2; have hfz48_3 := blk_frozen BK1320.out 3; have hfz48_4 := blk_frozen BK1320.out 4) | ((with_reducible refine gate_callee (f := 91) rfl ?_); refine goesL_ (some 14) rfl rfl Try.func91 (by kernel_rfl) rfl #[.slice A0_1 l0_1.length c0_1, .slice A1_1 l1_1.length c1_1] rfl (by (try simp only [List.map_toArray, List.map_cons, List.map_nil]); rfl) ?_; (with_reducible refine (laws_eqRowS.calls k _ _ l0_1 _ _ l1_1 true _ ?side1 ?side2 ?side3 ?side4 A4.out).mono ?_); (case side1 => repeat (exact (Kd.C_below HR0_1.out HB.out))); (case side2 => exact HC0_1.out); (case side3 => repeat (exact (Kd.C_below HR1_1.out HB.out))); (case side4 => exact HC1_1.out); rintro e w49 ⟨rfl, hb⟩; refine ⟨_, rfl, ?_⟩; have n0_ := Aside0.mk (blk_below (g := gb1319) (o := .cells #[.int .i64 a0_0, .slice A0_1 l0_1.length c0_1, .slice A0_2 l0_2.length c0_2, .slice A0_3 l0_3.length c0_3, .int .i64 a0_4] 40 (0, 0)) BK1319.out hb); have n1_ := Aside0.mk (blk_below (g := gb1320) (o := .cells #[.int .i64 a1_0, .slice A1_1 l1_1.length c1_1, .slice A1_2 l1_2.length c1_2, .slice A1_3 l1_3.length c1_3, .int .i64 a1_4] 40 (0, 0)) BK1320.out hb); have n2_ := Aside0.mk (below_step HB.out hb); clear BK1319; clear BK1320; clear HB; have BK1319 := n0_; have BK1320 := n1_; have HB := n2_; clear n0_ n1_ n2_; (try clear hb); (try clear hb2); (try clear hk); (try clear hi); have hcz50_0 : w49.cell? ⟨gb1319, 0, none⟩ = some (.int .i64 a0_0) := (blk_cell BK1319.out 0).trans rfl; have hcz50_1 : w49.cell? ⟨gb1319, 1, none⟩ = some (.slice A0_1 l0_1.length c0_1) := (blk_cell BK1319.out 1).trans rfl; have hcz50_2 : w49.cell? ⟨gb1319, 2, none⟩ = some (.slice A0_2 l0_2.length c0_2) := (blk_cell BK1319.out 2).trans rfl; have hcz50_3 : w49.cell? ⟨gb1319, 3, none⟩ = some (.slice A0_3 l0_3.length c0_3) := (blk_cell BK1319.out 3).trans rfl; have hcz50_4 : w49.cell? ⟨gb1319, 4, none⟩ = some (.int .i64 a0_4) := (blk_cell BK1319.out 4).trans rfl; have hfz50_0 := blk_frozen BK1319.out 0; have hfz50_1 := blk_frozen BK1319.out 1; have hfz50_2 := blk_frozen BK1319.out 2; have hfz50_3 := blk_frozen BK1319.out 3; have hfz50_4 := blk_frozen BK1319.out 4; have hcz51_0 : w49.cell? ⟨gb1320, 0, none⟩ = some (.int .i64 a1_0) := (blk_cell BK1320.out 0).trans rfl; have hcz51_1 : w49.cell? ⟨gb1320, 1, none⟩ = some (.slice A1_1 l1_1.length c1_1) := (blk_cell BK1320.out 1).trans rfl; have hcz51_2 : w49.cell? ⟨gb1320, 2, none⟩ = some (.slice A1_2 l1_2.length c1_2) := (blk_cell BK1320.out 2).trans rfl; have hcz51_3 : w49.cell? ⟨gb1320, 3, none⟩ = some (.slice A1_3 l1_3.length c1_3) := (blk_cell BK1320.out 3).trans rfl; have hcz51_4 : w49.cell? ⟨gb1320, 4, none⟩ = some (.int .i64 a1_4) := (blk_cell BK1320.out 4).trans rfl; have hfz51_0 := blk_frozen BK1320.out 0; have hfz51_1 := blk_frozen BK1320.out 1; have hfz51_2 := blk_frozen BK1320.out 2; have hfz51_3 := blk_frozen BK1320.out 3; have hfz51_4 := blk_frozen BK1320.out 4) | ((with_reducible refine gate_callee (f := 91) rfl ?_); refine goesL_ (some 20) rfl rfl Try.func91 (by kernel_rfl) rfl #[.slice A0_2 l0_2.length c0_2, .slice A1_2 l1_2.length c1_2] rfl (by (try simp only [List.map_toArray, List.map_cons, List.map_nil]); rfl) ?_; (with_reducible refine (laws_eqRowS.calls k _ _ l0_2 _ _ l1_2 false _ ?side1 ?side2 ?side3 ?side4 A6.out).mono ?_); (case side1 => repeat (exact (Kd.C_below HR0_2.out HB.out))); (case side2 => exact HC0_2.out); (case side3 => repeat (exact (Kd.C_below HR1_2.out HB.out))); (case side4 => exact HC1_2.out); rintro e w52 ⟨rfl, hb⟩; refine ⟨_, rfl, ?_⟩; have n0_ := Aside0.mk (blk_below (g := gb1319) (o := .cells #[.int .i64 a0_0, .slice A0_1 l0_1.length c0_1, .slice A0_2 l0_2.length c0_2, .slice A0_3 l0_3.length c0_3, .int .i64 a0_4] 40 (0, 0)) BK1319.out hb); have n1_ := Aside0.mk (blk_below (g := gb1320) (o := .cells #[.int .i64 a1_0, .slice A1_1 l1_1.length c1_1, .slice A1_2 l1_2.length c1_2, .slice A1_3 l1_3.length c1_3, .int .i64 a1_4] 40 (0, 0)) BK1320.out hb); have n2_ := Aside0.mk (below_step HB.out hb); clear BK1319; clear BK1320; clear HB; have BK1319 := n0_; have BK1320 := n1_; have HB := n2_; clear n0_ n1_ n2_; (try clear hb); (try clear hb2); (try clear hk); (try clear hi)))
    go_ret
    exact ⟨rfl, HB.out⟩
  ·replace c5 := Bool.eq_false_iff.mpr c5
   subst c5
   rw [if_neg (show ¬ (false = true) by decide)] at H
   obtain rfl := Option.some.inj H
   go_enter Try.func42, Try.ntmps42
   go_wp2_with (first | ((with_reducible refine gate_dst (N := 2) rfl ?_); refine box_event ?hg (N := 2) ?hd (cs := #[.int .i64 a0_0, .slice A0_1 l0_1.length c0_1, .slice A0_2 l0_2.length c0_2, .slice A0_3 l0_3.length c0_3, .int .i64 a0_4]) (t := 40) ?hr ?_; (case hd => rfl); (case hg => rfl); (case hr => (go_simp; done)); intro gb1319 hg w53 hbox hb; have n0_ := Aside0.mk (below_step HB.out hb); have n1_ := Aside0.mk (hbox); have n2_ := Aside0.mk ((by rw [hg]; exact (below_size HB.out) : w.heap.size ≤ gb1319)); have n3_ := Aside0.mk ((by rw [hg]; exact (below_size HB.out) : w.heap.size ≤ gb1319)); clear HB; have HB := n0_; have BK1319 := n1_; have GW1319 := n2_; have GE1319 := n3_; clear n0_ n1_ n2_ n3_; clear hb hbox hg) | ((with_reducible refine gate_dst (N := 3) rfl ?_); refine box_event ?hg (N := 3) ?hd (cs := #[.int .i64 a1_0, .slice A1_1 l1_1.length c1_1, .slice A1_2 l1_2.length c1_2, .slice A1_3 l1_3.length c1_3, .int .i64 a1_4]) (t := 40) ?hr ?_; (case hd => rfl); (case hg => rfl); (case hr => (go_simp; done)); intro gb1320 hg w54 hbox hb; have n0_ := Aside0.mk (blk_below (g := gb1319) (o := .cells #[.int .i64 a0_0, .slice A0_1 l0_1.length c0_1, .slice A0_2 l0_2.length c0_2, .slice A0_3 l0_3.length c0_3, .int .i64 a0_4] 40 (0, 0)) BK1319.out hb); have n1_ := Aside0.mk (below_step HB.out hb); have n2_ := Aside0.mk (hbox); have n3_ := Aside0.mk ((by rw [hg]; exact (below_size HB.out) : w.heap.size ≤ gb1320)); have n4_ := Aside0.mk ((by rw [hg]; exact (below_size HB.out) : w.heap.size ≤ gb1320)); have n5_ := Aside0.mk ((by rw [hg]; exact Nat.ne_of_lt (blk_lt (g := gb1319) (o := .cells #[.int .i64 a0_0, .slice A0_1 l0_1.length c0_1, .slice A0_2 l0_2.length c0_2, .slice A0_3 l0_3.length c0_3, .int .i64 a0_4] 40 (0, 0)) BK1319.out) : gb1319 ≠ gb1320)); have n6_ := Aside0.mk ((by rw [hg]; exact Nat.ne_of_gt (blk_lt (g := gb1319) (o := .cells #[.int .i64 a0_0, .slice A0_1 l0_1.length c0_1, .slice A0_2 l0_2.length c0_2, .slice A0_3 l0_3.length c0_3, .int .i64 a0_4] 40 (0, 0)) BK1319.out) : gb1320 ≠ gb1319)); clear BK1319; clear HB; have BK1319 := n0_; have HB := n1_; have BK1320 := n2_; have GW1320 := n3_; have GE1320 := n4_; have NB1319_1320 := n5_; have NB1320_1319 := n6_; clear n0_ n1_ n2_ n3_ n4_ n5_ n6_; clear hb hbox hg; have hnb55 := NB1319_1320.out; have hnc55 := NB1320_1319.out; have hcz56_0 : w54.cell? ⟨gb1319, 0, none⟩ = some (.int .i64 a0_0) := (blk_cell BK1319.out 0).trans rfl; have hcz56_1 : w54.cell? ⟨gb1319, 1, none⟩ = some (.slice A0_1 l0_1.length c0_1) := (blk_cell BK1319.out 1).trans rfl; have hcz56_2 : w54.cell? ⟨gb1319, 2, none⟩ = some (.slice A0_2 l0_2.length c0_2) := (blk_cell BK1319.out 2).trans rfl; have hcz56_3 : w54.cell? ⟨gb1319, 3, none⟩ = some (.slice A0_3 l0_3.length c0_3) := (blk_cell BK1319.out 3).trans rfl; have hcz56_4 : w54.cell? ⟨gb1319, 4, none⟩ = some (.int .i64 a0_4) := (blk_cell BK1319.out 4).trans rfl; have hfz56_0 := blk_frozen BK1319.out 0; have hfz56_1 := blk_frozen BK1319.out 1; have hfz56_2 := blk_frozen BK1319.out 2; have hfz56_3 := blk_frozen BK1319.out 3; have hfz56_4 := blk_frozen BK1319.out 4; have hcz57_0 : w54.cell? ⟨gb1320, 0, none⟩ = some (.int .i64 a1_0) := (blk_cell BK1320.out 0).trans rfl; have hcz57_1 : w54.cell? ⟨gb1320, 1, none⟩ = some (.slice A1_1 l1_1.length c1_1) := (blk_cell BK1320.out 1).trans rfl; have hcz57_2 : w54.cell? ⟨gb1320, 2, none⟩ = some (.slice A1_2 l1_2.length c1_2) := (blk_cell BK1320.out 2).trans rfl; have hcz57_3 : w54.cell? ⟨gb1320, 3, none⟩ = some (.slice A1_3 l1_3.length c1_3) := (blk_cell BK1320.out 3).trans rfl; have hcz57_4 : w54.cell? ⟨gb1320, 4, none⟩ = some (.int .i64 a1_4) := (blk_cell BK1320.out 4).trans rfl; have hfz57_0 := blk_frozen BK1320.out 0; have hfz57_1 := blk_frozen BK1320.out 1; have hfz57_2 := blk_frozen BK1320.out 2; have hfz57_3 := blk_frozen BK1320.out 3; have hfz57_4 := blk_frozen BK1320.out 4) | ((with_reducible refine gate_callee (f := 91) rfl ?_); refine goesL_ (some 14) rfl rfl Try.func91 (by kernel_rfl) rfl #[.slice A0_1 l0_1.length c0_1, .slice A1_1 l1_1.length c1_1] rfl (by (try simp only [List.map_toArray, List.map_cons, List.map_nil]); rfl) ?_; (with_reducible refine (laws_eqRowS.calls k _ _ l0_1 _ _ l1_1 false _ ?side1 ?side2 ?side3 ?side4 A4.out).mono ?_); (case side1 => repeat (exact (Kd.C_below HR0_1.out HB.out))); (case side2 => exact HC0_1.out); (case side3 => repeat (exact (Kd.C_below HR1_1.out HB.out))); (case side4 => exact HC1_1.out); rintro e w58 ⟨rfl, hb⟩; refine ⟨_, rfl, ?_⟩; have n0_ := Aside0.mk (blk_below (g := gb1319) (o := .cells #[.int .i64 a0_0, .slice A0_1 l0_1.length c0_1, .slice A0_2 l0_2.length c0_2, .slice A0_3 l0_3.length c0_3, .int .i64 a0_4] 40 (0, 0)) BK1319.out hb); have n1_ := Aside0.mk (blk_below (g := gb1320) (o := .cells #[.int .i64 a1_0, .slice A1_1 l1_1.length c1_1, .slice A1_2 l1_2.length c1_2, .slice A1_3 l1_3.length c1_3, .int .i64 a1_4] 40 (0, 0)) BK1320.out hb); have n2_ := Aside0.mk (below_step HB.out hb); clear BK1319; clear BK1320; clear HB; have BK1319 := n0_; have BK1320 := n1_; have HB := n2_; clear n0_ n1_ n2_; (try clear hb); (try clear hb2); (try clear hk); (try clear hi)))
   go_ret
   exact ⟨rfl, HB.out⟩
 ·rw [if_neg c3] at H
  have c3b0 : (a0_0 == a1_0) = false := beq_eq_false_iff_ne.mpr c3
  have c3b1 : (a0_0 != a1_0) = true := bne_iff_ne.mpr c3
  obtain rfl := Option.some.inj H
  go_enter Try.func42, Try.ntmps42
  go_wp2_with (first | ((with_reducible refine gate_dst (N := 2) rfl ?_); refine box_event ?hg (N := 2) ?hd (cs := #[.int .i64 a0_0, .slice A0_1 l0_1.length c0_1, .slice A0_2 l0_2.length c0_2, .slice A0_3 l0_3.length c0_3, .int .i64 a0_4]) (t := 40) ?hr ?_; (case hd => rfl); (case hg => rfl); (case hr => (go_simp; done)); intro gb1319 hg w59 hbox hb; have n0_ := Aside0.mk (below_step HB.out hb); have n1_ := Aside0.mk (hbox); have n2_ := Aside0.mk ((by rw [hg]; exact (below_size HB.out) : w.heap.size ≤ gb1319)); have n3_ := Aside0.mk ((by rw [hg]; exact (below_size HB.out) : w.heap.size ≤ gb1319)); clear HB; have HB := n0_; have BK1319 := n1_; have GW1319 := n2_; have GE1319 := n3_; clear n0_ n1_ n2_ n3_; clear hb hbox hg) | ((with_reducible refine gate_dst (N := 3) rfl ?_); refine box_event ?hg (N := 3) ?hd (cs := #[.int .i64 a1_0, .slice A1_1 l1_1.length c1_1, .slice A1_2 l1_2.length c1_2, .slice A1_3 l1_3.length c1_3, .int .i64 a1_4]) (t := 40) ?hr ?_; (case hd => rfl); (case hg => rfl); (case hr => (go_simp; done)); intro gb1320 hg w60 hbox hb; have n0_ := Aside0.mk (blk_below (g := gb1319) (o := .cells #[.int .i64 a0_0, .slice A0_1 l0_1.length c0_1, .slice A0_2 l0_2.length c0_2, .slice A0_3 l0_3.length c0_3, .int .i64 a0_4] 40 (0, 0)) BK1319.out hb); have n1_ := Aside0.mk (below_step HB.out hb); have n2_ := Aside0.mk (hbox); have n3_ := Aside0.mk ((by rw [hg]; exact (below_size HB.out) : w.heap.size ≤ gb1320)); have n4_ := Aside0.mk ((by rw [hg]; exact (below_size HB.out) : w.heap.size ≤ gb1320)); have n5_ := Aside0.mk ((by rw [hg]; exact Nat.ne_of_lt (blk_lt (g := gb1319) (o := .cells #[.int .i64 a0_0, .slice A0_1 l0_1.length c0_1, .slice A0_2 l0_2.length c0_2, .slice A0_3 l0_3.length c0_3, .int .i64 a0_4] 40 (0, 0)) BK1319.out) : gb1319 ≠ gb1320)); have n6_ := Aside0.mk ((by rw [hg]; exact Nat.ne_of_gt (blk_lt (g := gb1319) (o := .cells #[.int .i64 a0_0, .slice A0_1 l0_1.length c0_1, .slice A0_2 l0_2.length c0_2, .slice A0_3 l0_3.length c0_3, .int .i64 a0_4] 40 (0, 0)) BK1319.out) : gb1320 ≠ gb1319)); clear BK1319; clear HB; have BK1319 := n0_; have HB := n1_; have BK1320 := n2_; have GW1320 := n3_; have GE1320 := n4_; have NB1319_1320 := n5_; have NB1320_1319 := n6_; clear n0_ n1_ n2_ n3_ n4_ n5_ n6_; clear hb hbox hg; have hnb61 := NB1319_1320.out; have hnc61 := NB1320_1319.out; have hcz62_0 : w60.cell? ⟨gb1319, 0, none⟩ = some (.int .i64 a0_0) := (blk_cell BK1319.out 0).trans rfl; have hcz62_1 : w60.cell? ⟨gb1319, 1, none⟩ = some (.slice A0_1 l0_1.length c0_1) := (blk_cell BK1319.out 1).trans rfl; have hcz62_2 : w60.cell? ⟨gb1319, 2, none⟩ = some (.slice A0_2 l0_2.length c0_2) := (blk_cell BK1319.out 2).trans rfl; have hcz62_3 : w60.cell? ⟨gb1319, 3, none⟩ = some (.slice A0_3 l0_3.length c0_3) := (blk_cell BK1319.out 3).trans rfl; have hcz62_4 : w60.cell? ⟨gb1319, 4, none⟩ = some (.int .i64 a0_4) := (blk_cell BK1319.out 4).trans rfl; have hfz62_0 := blk_frozen BK1319.out 0; have hfz62_1 := blk_frozen BK1319.out 1; have hfz62_2 := blk_frozen BK1319.out 2; have hfz62_3 := blk_frozen BK1319.out 3; have hfz62_4 := blk_frozen BK1319.out 4; have hcz63_0 : w60.cell? ⟨gb1320, 0, none⟩ = some (.int .i64 a1_0) := (blk_cell BK1320.out 0).trans rfl; have hcz63_1 : w60.cell? ⟨gb1320, 1, none⟩ = some (.slice A1_1 l1_1.length c1_1) := (blk_cell BK1320.out 1).trans rfl; have hcz63_2 : w60.cell? ⟨gb1320, 2, none⟩ = some (.slice A1_2 l1_2.length c1_2) := (blk_cell BK1320.out 2).trans rfl; have hcz63_3 : w60.cell? ⟨gb1320, 3, none⟩ = some (.slice A1_3 l1_3.length c1_3) := (blk_cell BK1320.out 3).trans rfl; have hcz63_4 : w60.cell? ⟨gb1320, 4, none⟩ = some (.int .i64 a1_4) := (blk_cell BK1320.out 4).trans rfl; have hfz63_0 := blk_frozen BK1320.out 0; have hfz63_1 := blk_frozen BK1320.out 1; have hfz63_2 := blk_frozen BK1320.out 2; have hfz63_3 := blk_frozen BK1320.out 3; have hfz63_4 := blk_frozen BK1320.out 4))
  go_ret
  exact ⟨rfl, HB.out⟩

end Go.Proofs.Ytobndcjmjhehjaa.P
namespace Go.Proofs.Ytobndcjmjhehjaa.P
open Go.RowKit Go.Proofs.YtobndcjmjhehjaaW.PrintWords Go.Proofs.YtobndcjmjhehjaaW.PrintLast Go.Proofs.YtobndcjmjhehjaaW.PrintMore
attribute [local go_sem] max2_int min2_int max_two min_two max_three min_three max_four min_four   -- for this text's walks alone
set_option linter.unusedVariables false
set_option linter.unusedSimpArgs false

/-! ### laws_markRowS: function 92 -/
def laws_markRowS.l0 : Nat → List (S60) → Int → Int → Option (Int × (List (S60)))
 | 0, _, _, _ => none
 | k + 1, x0, x1, x5 => if x5 < (x0.length : Int) then (if 0 ≤ x5 then ((some (x0.set (x5 : Int).toNat (⟨x1, (rd_T60 x0 x5).f1, (rd_T60 x0 x5).f2⟩ : S60) : List (S60))).bind fun y1324 => ((some (y1324.set (x5 : Int).toNat (⟨(rd_T60 y1324 x5).f0, wrap64 (x1 + 1), (rd_T60 y1324 x5).f2⟩ : S60) : List (S60))).bind fun y1325 => (laws_markRowS.l0 k (y1325.set (x5 : Int).toNat (⟨(rd_T60 y1325 x5).f0, (rd_T60 y1325 x5).f1, wrap64 ((wrap64 (x1 + 1)) + 1)⟩ : S60)) (wrap64 ((wrap64 ((wrap64 (x1 + 1)) + 1)) + 1)) (wrap64 (x5 + 1))))) else (none)) else (some (x1, x0))
def laws_markRowS.f (k : Nat) (l0 : List (S60)) (a1 : Int) : Option (Int × (List (S60))) := laws_markRowS.l0 k l0 a1 0
theorem laws_markRowS.mono_l : ∀ k, (∀ y0 y1 y2, LeO (laws_markRowS.l0 k y0 y1 y2) (laws_markRowS.l0 (k + 1) y0 y1 y2))
 | 0 => fun _ _ _ r h => by simp [laws_markRowS.l0] at h
 | k + 1 => by
  have ih0 := laws_markRowS.mono_l k
  ·intro y0 y1 y2
   unfold laws_markRowS.l0
   repeat' first
   | (with_reducible exact ih0 _ _ _)
   | (with_reducible exact LeO.refl _)
   | (with_reducible refine LeO.ite ?_ ?_)
   | (with_reducible refine LeO.bind ?_ (fun _ => ?_))
theorem laws_markRowS.mono : ∀ a0 a1 k, LeO (laws_markRowS.f k a0 a1) (laws_markRowS.f (k + 1) a0 a1) := by
 intro a0 a1 k
 have ih0 := laws_markRowS.mono_l k
 unfold laws_markRowS.f
 repeat' (with_reducible exact ih0 _ _ _)

set_option maxHeartbeats 8000000 in
set_option maxRecDepth 100000 in
theorem laws_markRowS.calls (k : Nat) (P0_ : Nat → Prop) (u9000_ : Value) (l0 : List (S60)) (a1 : Int) (r1 : Int) (r2 : List (S60)) (w0 w : World) (hB : Below w0.heap.size w0 w) (ho0 : Kd.R k60 60 w w0.heap.size P0_ u9000_ l0) (h : laws_markRowS.f k l0 a1 = some (r1, r2)) :
  Calls Try.prog 92 #[u9000_, .int .i64 a1] w fun e w' => e = .returned (.int .i64 r1) ∧ Kd.R k60 60 w' w0.heap.size (fun k_ => (P0_ k_ ∨ w.heap.size ≤ k_)) u9000_ r2 ∧ Below w0.heap.size w0 w' ∧ Kept w w' (fun k_ => P0_ k_) := by
 have HO0 := Aside0.mk (show Kd.R k60 60 w w0.heap.size (fun k_ => (P0_ k_ ∨ w.heap.size ≤ k_)) u9000_ l0 from Kd.R_mono ho0 (fun k_ hk => (.inl hk)))
 have HK := Aside0.mk (Kept.refl w (fun k_ => P0_ k_))
 have HW0 := Aside0.mk hB.size
 have HB := Aside0.mk hB
 clear hB
 have H : (laws_markRowS.l0 k l0 a1 0) = some (r1, r2) := h
 clear h
 have H' := Aside0.mk H
 clear H
 go_enter Try.func92, Try.ntmps92
 go_wp2
 go_loopg [1, 5] k (fun kq v1 v5 w' => ∃ (x0_1 : List (S60)) (x1_1 : Int) (x5_1 : Int), v1 = .int .i64 x1_1 ∧ v5 = .int .i64 x5_1 ∧ Aside0 (laws_markRowS.l0 kq x0_1 x1_1 x5_1 = some (r1, r2)) ∧ Aside0 (kq ≤ k) ∧ Aside0 (Kd.R k60 60 w' w0.heap.size (fun k_ => (P0_ k_ ∨ w.heap.size ≤ k_)) u9000_ x0_1) ∧ Aside0 (Kept w w' (fun k_ => P0_ k_)) ∧ Aside0 (Below w0.heap.size w0 w'))
 case atStart => exact ⟨(l0), (a1), (0), rfl, rfl, H', ⟨Nat.le_refl _⟩, ⟨HO0.out⟩, ⟨HK.out⟩, ⟨HB.out⟩⟩
 case round =>
  clear H'
  obtain ⟨x0_1, x1_1, x5_1, rfl, rfl, HA, HK1, HO_0, HK, HB⟩ := hrel
  cases gk with
  | zero => exact absurd HA.out (by simp [laws_markRowS.l0])
  | succ k1 =>
   have H := HA.out
   clear HA
   simp only [laws_markRowS.l0] at H
   by_cases c3 : x5_1 < (x0_1.length : Int)
   ·rw [if_pos c3] at H
    have c3b0 : decide (x5_1 < (x0_1.length : Int)) = true := decide_eq_true c3
    clear c3
    by_cases c4 : 0 ≤ x5_1
    ·rw [if_pos c4] at H
     have c4b0 : decide (0 ≤ x5_1) = true := decide_eq_true c4
     clear c4
     obtain ⟨y1324, hy1324, H⟩ := bindO_ H
     have Ny1324 := Aside0.mk hy1324
     clear hy1324
     obtain ⟨y1325, hy1325, H⟩ := bindO_ H
     have Ny1325 := Aside0.mk hy1325
     clear hy1325
     obtain ⟨y1326, hy1326⟩ : ∃ y_ : List (S60), y_ = (y1325.set (x5_1 : Int).toNat (⟨(rd_T60 y1325 x5_1).f0, (rd_T60 y1325 x5_1).f1, wrap64 ((wrap64 (x1_1 + 1)) + 1)⟩ : S60)) := ⟨_, rfl⟩
     replace H : (laws_markRowS.l0 k1 y1326 (wrap64 ((wrap64 ((wrap64 (x1_1 + 1)) + 1)) + 1)) (wrap64 (x5_1 + 1))) = some (r1, r2) := by (rw [hy1326]; with_reducible exact H)
     have Ny1326 := Aside0.mk hy1326
     clear hy1326
     have H' := Aside0.mk H
     clear H
     obtain ⟨Ao8, co8, eo8⟩ := Kd.R_slice HO_0.out
     subst eo8
     have p5 : 0 ≤ (x5_1 : Int) := of_decide_eq_true (by (with_reducible assumption))
     have q5 : (x5_1 : Int) < ((x0_1.length : Int) : Int) := of_decide_eq_true (by (with_reducible assumption))
     obtain ⟨go5, co5, eo5, gb5, gl5, cl5, HG5⟩ := Kd.R_form HO_0.out (by omega)
     (cases eo5)
     have GB5 := Aside0.mk gb5
     have GG5 := Aside0.mk HG5
     clear gb5 gl5 HG5
     have HMgo5 := Aside0.mk (show (P0_ go5 ∨ w.heap.size ≤ go5) from (HO_0.out.1 _ rfl))
     obtain ⟨ce5, hcl5, hM5, hcc5, hfr5⟩ := Kd.R_elem HO_0.out z60 (x5_1 : Int) p5 q5
     obtain rfl := k60_openM hM5
     have hx5_0 : wr.cell? ⟨go5, (x5_1 : Int).toNat * 3, none⟩ = some (.int .i64 ((rd_T60 x0_1 x5_1).f0)) := hcc5 0 _ rfl
     have hx5_1 : wr.cell? ⟨go5, (x5_1 : Int).toNat * 3 + 1, none⟩ = some (.int .i64 ((rd_T60 x0_1 x5_1).f1)) := hcc5 1 _ rfl
     have hx5_2 : wr.cell? ⟨go5, (x5_1 : Int).toNat * 3 + 2, none⟩ = some (.int .i64 ((rd_T60 x0_1 x5_1).f2)) := hcc5 2 _ rfl
     have hf5_0 : wr.frozen? ⟨go5, (x5_1 : Int).toNat * 3, none⟩ = false := hfr5 0
     have hf5_1 : wr.frozen? ⟨go5, (x5_1 : Int).toNat * 3 + 1, none⟩ = false := hfr5 1
     have hf5_2 : wr.frozen? ⟨go5, (x5_1 : Int).toNat * 3 + 2, none⟩ = false := hfr5 2
     clear hcl5 hcc5 hfr5 hM5
     replace p5 := eq_true p5
     replace q5 := eq_true q5
     have HX9 := Aside0.mk (show Kd.R k60 60 wr w0.heap.size (fun k_ => (P0_ k_ ∨ w.heap.size ≤ k_)) (.slice (some ⟨go5, 0, none⟩) x0_1.length co8) x0_1 from HO_0.out)
     obtain ⟨ce9, hcl9, hM9, hcc9, hfr9⟩ := Kd.R_elem HX9.out z60 (x5_1 : Int) (of_decide_eq_true (by (with_reducible assumption))) (by have h_ : (x5_1 : Int) < ((x0_1.length : Int) : Int) := of_decide_eq_true (by (with_reducible assumption)); exact h_)
     obtain rfl := k60_openM hM9
     have HP9 := Kd.R_seg HX9.out (x5_1 : Int) (of_decide_eq_true (by (with_reducible assumption))) (by have h_ : (x5_1 : Int) < ((x0_1.length : Int) : Int) := of_decide_eq_true (by (with_reducible assumption)); exact h_) (seg := [.int .i64 x1_1]) (j := 0) hcl9 hcc9 (show 1 ≤ 3 from by decide) (x' := (⟨x1_1, (rd_T60 x0_1 x5_1).f1, (rd_T60 x0_1 x5_1).f2⟩ : S60)) (k60_mkM _ _ _ (⟨x1_1, (rd_T60 x0_1 x5_1).f1, (rd_T60 x0_1 x5_1).f2⟩ : S60)) (fun _ hk => hk)
     have hx9_0 := hcc9 0 _ rfl
     (try simp only [show (k60).sz = 3 from rfl, Nat.mul_one, Nat.add_zero] at hx9_0)
     have hf9_0 := hfr9 0
     (try simp only [show (k60).sz = 3 from rfl, Nat.mul_one, Nat.add_zero] at hf9_0)
     clear hcl9 hcc9 hfr9 hM9
     go_wp2_with (first | ((with_reducible refine gate_store (t := 3) (p := 16) rfl ?_); refine store_event (t := 3) (p := 16) (v := ?vo_w10) (w1 := (wr.setCell ⟨go5, (x5_1 : Int).toNat * 3, none⟩ (.int .i64 x1_1))) ?hg ?ho ?hn ?hr ?_; (case ho => rfl); (case hg => rfl); (case hn => rfl); (case hr => (go_simp; done)); intro w10 hw; have hg : wr.grownBy w10 (some go5) := (by rw [hw]; exact HP9.2); have hp_ : Kd.R k60 60 w10 w0.heap.size (fun k_ => (P0_ k_ ∨ w.heap.size ≤ k_)) (.slice (some ⟨go5, 0, none⟩) x0_1.length co8) y1324 := (by rw [hw, Ny1324.out]; exact HP9.1); clear HP9; have n0_ := Aside0.mk (hp_); have n1_ := Aside0.mk (by rw [hw]; exact below_set HB.out GB5.out : Below w0.heap.size w0 w10); have n2_ := Aside0.mk (Kept.of_grown (S := (fun k_ => P0_ k_)) hg HK.out (fun k_ e_ => (HO_0.out.1 k_ e_))); clear HO_0; clear HB; clear HK; have HO_0 := n0_; have HB := n1_; have HK := n2_; clear n0_ n1_ n2_; clear hg hw hp_; have p6 : 0 ≤ (x5_1 : Int) := of_decide_eq_true (by (with_reducible assumption)); have q6 : (x5_1 : Int) < ((x0_1.length : Int) : Int) := of_decide_eq_true (by (with_reducible assumption)); obtain ⟨ce6, hcl6, hM6, hcc6, hfr6⟩ := Kd.R_elem HO_0.out z60 (x5_1 : Int) p6 q6; obtain rfl := k60_openM hM6; have hx6_0 : w10.cell? ⟨go5, (x5_1 : Int).toNat * 3, none⟩ = some (.int .i64 ((rd_T60 y1324 x5_1).f0)) := hcc6 0 _ rfl; have hx6_1 : w10.cell? ⟨go5, (x5_1 : Int).toNat * 3 + 1, none⟩ = some (.int .i64 ((rd_T60 y1324 x5_1).f1)) := hcc6 1 _ rfl; have hx6_2 : w10.cell? ⟨go5, (x5_1 : Int).toNat * 3 + 2, none⟩ = some (.int .i64 ((rd_T60 y1324 x5_1).f2)) := hcc6 2 _ rfl; have hf6_0 : w10.frozen? ⟨go5, (x5_1 : Int).toNat * 3, none⟩ = false := hfr6 0; have hf6_1 : w10.frozen? ⟨go5, (x5_1 : Int).toNat * 3 + 1, none⟩ = false := hfr6 1; have hf6_2 : w10.frozen? ⟨go5, (x5_1 : Int).toNat * 3 + 2, none⟩ = false := hfr6 2; clear hcl6 hcc6 hfr6 hM6; replace p6 := eq_true p6; replace q6 := eq_true q6; have HX11 := Aside0.mk (show Kd.R k60 60 w10 w0.heap.size (fun k_ => (P0_ k_ ∨ w.heap.size ≤ k_)) (.slice (some ⟨go5, 0, none⟩) x0_1.length co8) y1324 from HO_0.out); obtain ⟨ce11, hcl11, hM11, hcc11, hfr11⟩ := Kd.R_elem HX11.out z60 (x5_1 : Int) (of_decide_eq_true (by (with_reducible assumption))) (by have h_ : (x5_1 : Int) < ((x0_1.length : Int) : Int) := of_decide_eq_true (by (with_reducible assumption)); exact h_); obtain rfl := k60_openM hM11; have HP11 := Kd.R_seg HX11.out (x5_1 : Int) (of_decide_eq_true (by (with_reducible assumption))) (by have h_ : (x5_1 : Int) < ((x0_1.length : Int) : Int) := of_decide_eq_true (by (with_reducible assumption)); exact h_) (seg := [.int .i64 (wrap64 (x1_1 + 1))]) (j := 1) hcl11 hcc11 (show 2 ≤ 3 from by decide) (x' := (⟨(rd_T60 y1324 x5_1).f0, wrap64 (x1_1 + 1), (rd_T60 y1324 x5_1).f2⟩ : S60)) (k60_mkM _ _ _ (⟨(rd_T60 y1324 x5_1).f0, wrap64 (x1_1 + 1), (rd_T60 y1324 x5_1).f2⟩ : S60)) (fun _ hk => hk); have hx11_1 := hcc11 1 _ rfl; (try simp only [show (k60).sz = 3 from rfl, Nat.mul_one, Nat.add_zero] at hx11_1); have hf11_1 := hfr11 1; (try simp only [show (k60).sz = 3 from rfl, Nat.mul_one, Nat.add_zero] at hf11_1); clear hcl11 hcc11 hfr11 hM11) | ((with_reducible refine gate_store (t := 3) (p := 23) rfl ?_); refine store_event (t := 3) (p := 23) (v := ?vo_w12) (w1 := (w10.setCell ⟨go5, (x5_1 : Int).toNat * 3 + 1, none⟩ (.int .i64 (wrap64 (x1_1 + 1))))) ?hg ?ho ?hn ?hr ?_; (case ho => rfl); (case hg => rfl); (case hn => rfl); (case hr => (go_simp; done)); intro w12 hw; have hg : w10.grownBy w12 (some go5) := (by rw [hw]; exact HP11.2); have hp_ : Kd.R k60 60 w12 w0.heap.size (fun k_ => (P0_ k_ ∨ w.heap.size ≤ k_)) (.slice (some ⟨go5, 0, none⟩) x0_1.length co8) y1325 := (by rw [hw, Ny1325.out]; exact HP11.1); clear HP11; have n0_ := Aside0.mk (hp_); have n1_ := Aside0.mk (by rw [hw]; exact below_set HB.out GB5.out : Below w0.heap.size w0 w12); have n2_ := Aside0.mk (Kept.of_grown (S := (fun k_ => P0_ k_)) hg HK.out (fun k_ e_ => (HO_0.out.1 k_ e_))); clear HO_0; clear HB; clear HK; have HO_0 := n0_; have HB := n1_; have HK := n2_; clear n0_ n1_ n2_; clear hg hw hp_; have p7 : 0 ≤ (x5_1 : Int) := of_decide_eq_true (by (with_reducible assumption)); have q7 : (x5_1 : Int) < ((x0_1.length : Int) : Int) := of_decide_eq_true (by (with_reducible assumption)); obtain ⟨ce7, hcl7, hM7, hcc7, hfr7⟩ := Kd.R_elem HO_0.out z60 (x5_1 : Int) p7 q7; obtain rfl := k60_openM hM7; have hx7_0 : w12.cell? ⟨go5, (x5_1 : Int).toNat * 3, none⟩ = some (.int .i64 ((rd_T60 y1325 x5_1).f0)) := hcc7 0 _ rfl; have hx7_1 : w12.cell? ⟨go5, (x5_1 : Int).toNat * 3 + 1, none⟩ = some (.int .i64 ((rd_T60 y1325 x5_1).f1)) := hcc7 1 _ rfl; have hx7_2 : w12.cell? ⟨go5, (x5_1 : Int).toNat * 3 + 2, none⟩ = some (.int .i64 ((rd_T60 y1325 x5_1).f2)) := hcc7 2 _ rfl; have hf7_0 : w12.frozen? ⟨go5, (x5_1 : Int).toNat * 3, none⟩ = false := hfr7 0; have hf7_1 : w12.frozen? ⟨go5, (x5_1 : Int).toNat * 3 + 1, none⟩ = false := hfr7 1; have hf7_2 : w12.frozen? ⟨go5, (x5_1 : Int).toNat * 3 + 2, none⟩ = false := hfr7 2; clear hcl7 hcc7 hfr7 hM7; replace p7 := eq_true p7; replace q7 := eq_true q7; have HX13 := Aside0.mk (show Kd.R k60 60 w12 w0.heap.size (fun k_ => (P0_ k_ ∨ w.heap.size ≤ k_)) (.slice (some ⟨go5, 0, none⟩) x0_1.length co8) y1325 from HO_0.out); obtain ⟨ce13, hcl13, hM13, hcc13, hfr13⟩ := Kd.R_elem HX13.out z60 (x5_1 : Int) (of_decide_eq_true (by (with_reducible assumption))) (by have h_ : (x5_1 : Int) < ((x0_1.length : Int) : Int) := of_decide_eq_true (by (with_reducible assumption)); exact h_); obtain rfl := k60_openM hM13; have HP13 := Kd.R_seg HX13.out (x5_1 : Int) (of_decide_eq_true (by (with_reducible assumption))) (by have h_ : (x5_1 : Int) < ((x0_1.length : Int) : Int) := of_decide_eq_true (by (with_reducible assumption)); exact h_) (seg := [.int .i64 (wrap64 ((wrap64 (x1_1 + 1)) + 1))]) (j := 2) hcl13 hcc13 (show 3 ≤ 3 from by decide) (x' := (⟨(rd_T60 y1325 x5_1).f0, (rd_T60 y1325 x5_1).f1, wrap64 ((wrap64 (x1_1 + 1)) + 1)⟩ : S60)) (k60_mkM _ _ _ (⟨(rd_T60 y1325 x5_1).f0, (rd_T60 y1325 x5_1).f1, wrap64 ((wrap64 (x1_1 + 1)) + 1)⟩ : S60)) (fun _ hk => hk); have hx13_2 := hcc13 2 _ rfl; (try simp only [show (k60).sz = 3 from rfl, Nat.mul_one, Nat.add_zero] at hx13_2); have hf13_2 := hfr13 2; (try simp only [show (k60).sz = 3 from rfl, Nat.mul_one, Nat.add_zero] at hf13_2); clear hcl13 hcc13 hfr13 hM13) | ((with_reducible refine gate_store (t := 3) (p := 30) rfl ?_); refine store_event (t := 3) (p := 30) (v := ?vo_w14) (w1 := (w12.setCell ⟨go5, (x5_1 : Int).toNat * 3 + 2, none⟩ (.int .i64 (wrap64 ((wrap64 (x1_1 + 1)) + 1))))) ?hg ?ho ?hn ?hr ?_; (case ho => rfl); (case hg => rfl); (case hn => rfl); (case hr => (go_simp; done)); intro w14 hw; have hg : w12.grownBy w14 (some go5) := (by rw [hw]; exact HP13.2); have hp_ : Kd.R k60 60 w14 w0.heap.size (fun k_ => (P0_ k_ ∨ w.heap.size ≤ k_)) (.slice (some ⟨go5, 0, none⟩) x0_1.length co8) y1326 := (by rw [hw, Ny1326.out]; exact HP13.1); clear HP13; have n0_ := Aside0.mk (hp_); have n1_ := Aside0.mk (by rw [hw]; exact below_set HB.out GB5.out : Below w0.heap.size w0 w14); have n2_ := Aside0.mk (Kept.of_grown (S := (fun k_ => P0_ k_)) hg HK.out (fun k_ e_ => (HO_0.out.1 k_ e_))); clear HO_0; clear HB; clear HK; have HO_0 := n0_; have HB := n1_; have HK := n2_; clear n0_ n1_ n2_; clear hg hw hp_))
     go_roundg k1
     case measure => have := HK1.out; omega
     case rel => exact ⟨(y1326), (wrap64 ((wrap64 ((wrap64 (x1_1 + 1)) + 1)) + 1)), (wrap64 (x5_1 + 1)), rfl, rfl, H', ⟨by have := HK1.out; omega⟩, ⟨HO_0.out⟩, ⟨HK.out⟩, ⟨HB.out⟩⟩
    ·rw [if_neg c4] at H
     exact absurd H (by simp)
   ·rw [if_neg c3] at H
    have c3b0 : decide (x5_1 < (x0_1.length : Int)) = false := decide_eq_false c3
    clear c3
    simp only [Option.some.injEq, Prod.mk.injEq] at H
    obtain ⟨rfl, rfl⟩ := H
    obtain ⟨Ao15, co15, eo15⟩ := Kd.R_slice HO_0.out
    subst eo15
    go_wp2
    go_ret
    exact ⟨rfl, HO_0.out, HB.out, HK.out⟩

end Go.Proofs.Ytobndcjmjhehjaa.P
namespace Go.Proofs.Ytobndcjmjhehjaa.P
open Go.RowKit Go.Proofs.YtobndcjmjhehjaaW.PrintWords Go.Proofs.YtobndcjmjhehjaaW.PrintLast Go.Proofs.YtobndcjmjhehjaaW.PrintMore
attribute [local go_sem] max2_int min2_int max_two min_two max_three min_three max_four min_four   -- for this text's walks alone
set_option linter.unusedVariables false
set_option linter.unusedSimpArgs false

/-! ### laws_markBoolS: function 143 -/
def laws_markBoolS.l0 : Nat → List Bool → Int → Int → Option (Int × List Bool)
 | 0, _, _, _ => none
 | k + 1, x0, x1, x5 => if x5 < (x0.length : Int) then (if 0 ≤ x5 then (laws_markBoolS.l0 k (x0.set (x5 : Int).toNat ((Int.tmod x1 3) == 0)) (wrap64 (x1 + 1)) (wrap64 (x5 + 1))) else (none)) else (some (x1, x0))
def laws_markBoolS.f (k : Nat) (l0 : List Bool) (a1 : Int) : Option (Int × List Bool) := laws_markBoolS.l0 k l0 a1 0
theorem laws_markBoolS.mono_l : ∀ k, (∀ y0 y1 y2, LeO (laws_markBoolS.l0 k y0 y1 y2) (laws_markBoolS.l0 (k + 1) y0 y1 y2))
 | 0 => fun _ _ _ r h => by simp [laws_markBoolS.l0] at h
 | k + 1 => by
  have ih0 := laws_markBoolS.mono_l k
  ·intro y0 y1 y2
   unfold laws_markBoolS.l0
   repeat' first
   | (with_reducible exact ih0 _ _ _)
   | (with_reducible exact LeO.refl _)
   | (with_reducible refine LeO.ite ?_ ?_)
theorem laws_markBoolS.mono : ∀ a0 a1 k, LeO (laws_markBoolS.f k a0 a1) (laws_markBoolS.f (k + 1) a0 a1) := by
 intro a0 a1 k
 have ih0 := laws_markBoolS.mono_l k
 unfold laws_markBoolS.f
 repeat' (with_reducible exact ih0 _ _ _)

set_option maxHeartbeats 8000000 in
set_option maxRecDepth 100000 in
theorem laws_markBoolS.calls (k : Nat) (P0_ : Nat → Prop) (u9000_ : Value) (l0 : List Bool) (a1 : Int) (r1 : Int) (r2 : List Bool) (w0 w : World) (hB : Below w0.heap.size w0 w) (ho0 : Kd.R Kd.bool 4 w w0.heap.size P0_ u9000_ l0) (h : laws_markBoolS.f k l0 a1 = some (r1, r2)) :
  Calls Try.prog 143 #[u9000_, .int .i64 a1] w fun e w' => e = .returned (.int .i64 r1) ∧ Kd.R Kd.bool 4 w' w0.heap.size (fun k_ => (P0_ k_ ∨ w.heap.size ≤ k_)) u9000_ r2 ∧ Below w0.heap.size w0 w' ∧ Kept w w' (fun k_ => P0_ k_) := by
 have HO0 := Aside0.mk (show Kd.R Kd.bool 4 w w0.heap.size (fun k_ => (P0_ k_ ∨ w.heap.size ≤ k_)) u9000_ l0 from Kd.R_mono ho0 (fun k_ hk => (.inl hk)))
 have HK := Aside0.mk (Kept.refl w (fun k_ => P0_ k_))
 have HW0 := Aside0.mk hB.size
 have HB := Aside0.mk hB
 clear hB
 have H : (laws_markBoolS.l0 k l0 a1 0) = some (r1, r2) := h
 clear h
 have H' := Aside0.mk H
 clear H
 go_enter Try.func143, Try.ntmps143
 go_wp2
 go_loopg [1, 5] k (fun kq v1 v5 w' => ∃ (x0_1 : List Bool) (x1_1 : Int) (x5_1 : Int), v1 = .int .i64 x1_1 ∧ v5 = .int .i64 x5_1 ∧ Aside0 (laws_markBoolS.l0 kq x0_1 x1_1 x5_1 = some (r1, r2)) ∧ Aside0 (kq ≤ k) ∧ Aside0 (Kd.R Kd.bool 4 w' w0.heap.size (fun k_ => (P0_ k_ ∨ w.heap.size ≤ k_)) u9000_ x0_1) ∧ Aside0 (Kept w w' (fun k_ => P0_ k_)) ∧ Aside0 (Below w0.heap.size w0 w'))
 case atStart => exact ⟨(l0), (a1), (0), rfl, rfl, H', ⟨Nat.le_refl _⟩, ⟨HO0.out⟩, ⟨HK.out⟩, ⟨HB.out⟩⟩
 case round =>
  clear H'
  obtain ⟨x0_1, x1_1, x5_1, rfl, rfl, HA, HK1, HO_0, HK, HB⟩ := hrel
  cases gk with
  | zero => exact absurd HA.out (by simp [laws_markBoolS.l0])
  | succ k1 =>
   have H := HA.out
   clear HA
   simp only [laws_markBoolS.l0] at H
   by_cases c3 : x5_1 < (x0_1.length : Int)
   ·rw [if_pos c3] at H
    have c3b0 : decide (x5_1 < (x0_1.length : Int)) = true := decide_eq_true c3
    clear c3
    by_cases c4 : 0 ≤ x5_1
    ·rw [if_pos c4] at H
     have c4b0 : decide (0 ≤ x5_1) = true := decide_eq_true c4
     clear c4
     obtain ⟨y1327, hy1327⟩ : ∃ y_ : List Bool, y_ = (x0_1.set (x5_1 : Int).toNat ((Int.tmod x1_1 3) == 0)) := ⟨_, rfl⟩
     replace H : (laws_markBoolS.l0 k1 y1327 (wrap64 (x1_1 + 1)) (wrap64 (x5_1 + 1))) = some (r1, r2) := by (rw [hy1327]; with_reducible exact H)
     have Ny1327 := Aside0.mk hy1327
     clear hy1327
     have H' := Aside0.mk H
     clear H
     obtain ⟨Ao6, co6, eo6⟩ := Kd.R_slice HO_0.out
     subst eo6
     have p5 : 0 ≤ (x5_1 : Int) := of_decide_eq_true (by (with_reducible assumption))
     have q5 : (x5_1 : Int) < ((x0_1.length : Int) : Int) := of_decide_eq_true (by (with_reducible assumption))
     obtain ⟨go5, co5, eo5, gb5, gl5, cl5, HG5⟩ := Kd.R_form HO_0.out (by omega)
     (cases eo5)
     have GB5 := Aside0.mk gb5
     have GG5 := Aside0.mk HG5
     clear gb5 gl5 HG5
     have HMgo5 := Aside0.mk (show (P0_ go5 ∨ w.heap.size ≤ go5) from (HO_0.out.1 _ rfl))
     obtain ⟨hx5_0, hf5_0⟩ := Kd.R_celln false HO_0.out (x5_1 : Int) p5 q5
     replace p5 := eq_true p5
     replace q5 := eq_true q5
     have HP7 := Kd.R_putg HO_0.out (x5_1 : Int) ((Int.tmod x1_1 3) == 0)
     go_wp2_with (((with_reducible refine gate_store (t := 4) (p := 17) rfl ?_); refine store_event (t := 4) (p := 17) (v := ?vo_w8) (w1 := (wr.setCell ⟨go5, (x5_1 : Int).toNat, none⟩ (.bool ((Int.tmod x1_1 3) == 0)))) ?hg ?ho ?hn ?hr ?_; (case ho => rfl); (case hg => rfl); (case hn => rfl); (case hr => (go_simp; done)); intro w8 hw; have hg : wr.grownBy w8 (some go5) := (by rw [hw]; exact HP7.2); have hp_ : Kd.R Kd.bool 4 w8 w0.heap.size (fun k_ => (P0_ k_ ∨ w.heap.size ≤ k_)) (.slice (some ⟨go5, 0, none⟩) x0_1.length co6) y1327 := (by rw [hw, Ny1327.out]; exact HP7.1); clear HP7; have n0_ := Aside0.mk (hp_); have n1_ := Aside0.mk (by rw [hw]; exact below_set HB.out GB5.out : Below w0.heap.size w0 w8); have n2_ := Aside0.mk (Kept.of_grown (S := (fun k_ => P0_ k_)) hg HK.out (fun k_ e_ => (HO_0.out.1 k_ e_))); clear HO_0; clear HB; clear HK; have HO_0 := n0_; have HB := n1_; have HK := n2_; clear n0_ n1_ n2_; clear hg hw hp_))
     go_roundg k1
     case measure => have := HK1.out; omega
     case rel => exact ⟨(y1327), (wrap64 (x1_1 + 1)), (wrap64 (x5_1 + 1)), rfl, rfl, H', ⟨by have := HK1.out; omega⟩, ⟨HO_0.out⟩, ⟨HK.out⟩, ⟨HB.out⟩⟩
    ·rw [if_neg c4] at H
     exact absurd H (by simp)
   ·rw [if_neg c3] at H
    have c3b0 : decide (x5_1 < (x0_1.length : Int)) = false := decide_eq_false c3
    clear c3
    simp only [Option.some.injEq, Prod.mk.injEq] at H
    obtain ⟨rfl, rfl⟩ := H
    obtain ⟨Ao9, co9, eo9⟩ := Kd.R_slice HO_0.out
    subst eo9
    go_wp2
    go_ret
    exact ⟨rfl, HO_0.out, HB.out, HK.out⟩

end Go.Proofs.Ytobndcjmjhehjaa.P
