/- For every string the law FnExactParseJoiner of the given program returns true and leaves its argument as it was; no condition. -/
import Derived.Test.YtobndcjmjhehjaaPjf1
namespace Go.Proofs.Ytobndcjmjhehjaa.P
open Go.RowKit Go.Proofs.YtobndcjmjhehjaaW.PrintWords Go.Proofs.YtobndcjmjhehjaaW.PrintLast Go.Proofs.YtobndcjmjhehjaaW.PrintMore
attribute [local go_sem] max2_int min2_int max_two min_two max_three min_three max_four min_four   -- for this text's walks alone
set_option linter.unusedVariables false
set_option linter.unusedSimpArgs false
set_option maxHeartbeats 8000000
set_option maxRecDepth 100000
def impl_FormatTask.l0 : Nat → ByteArray → List Bool → Int → Int → Int → List (S60) → List (S60) → List Bool → Int → Option (ByteArray)
 | 0, _, _, _, _, _, _, _, _, _ => none
 | k + 1, x3, x10, x11, x12, x1232000, x1232001, x1232002, x1232003, x1232004 => if x12 < x11 then (if 0 ≤ x12 then (if x12 < (x10.length : Int) then (if rdOf false x10 x12 = true then (if x3.size + 1 ≤ 9223372036854775807 then (impl_FormatTask.l0 k (x3 ++ (⟨#[49]⟩ : ByteArray)) x10 x11 (wrap64 (x12 + 1)) x1232000 x1232001 x1232002 x1232003 x1232004) else (none)) else (if x3.size + 1 ≤ 9223372036854775807 then (impl_FormatTask.l0 k (x3 ++ (⟨#[48]⟩ : ByteArray)) x10 x11 (wrap64 (x12 + 1)) x1232000 x1232001 x1232002 x1232003 x1232004) else (none))) else (none)) else (none)) else ((impl_FormatInt.f k x1232000).bind fun t1234 => ((impl_FormatRows.f k x1232001).bind fun t1235 => ((impl_FormatRows.f k x1232002).bind fun t1236 => ((impl_FormatInt.f k x1232004).bind fun t1237 => ((impl_joined.f k ([t1234, t1235, t1236, x3, t1237] : List ByteArray) (⟨#[59]⟩ : ByteArray)).bind fun t1241 => (some t1241))))))
def impl_FormatTask.f (k : Nat) (a0_0 : Int) (l0_1 : List (S60)) (l0_2 : List (S60)) (l0_3 : List Bool) (a0_4 : Int) : Option (ByteArray) := (impl_IsValidTask.f k a0_0 l0_1 l0_2 l0_3 a0_4).bind fun t1232 => (if t1232 = true then (impl_FormatTask.l0 k (⟨#[]⟩ : ByteArray) l0_3 (l0_3.length : Int) 0 a0_0 l0_1 l0_2 l0_3 a0_4) else (some (⟨#[]⟩ : ByteArray)))
def impl_FormatTask.T11 : Bool × List (List Nat × List Nat) := (true, [([], []), ([0], [0]), ([1], [1]), ([], []), ([3], [3]), ([4, 2], [4]), ([], []), ([6], [6]), ([7, 5], [7]), ([], []), ([], []), ([10], [10]), ([11, 8], [11]), ([2, 5, 8, 9, 12], [2, 5, 8, 9, 12]), ([13, 12], [13]), ([14, 14, 0, 1, 2, 3, 4, 5, 6, 7, 8, 9, 10, 11, 12, 13, 14], [14])])
def impl_FormatTask.B11 : List Nat := [0, 1, 3, 0, 8, 31, 0, 64, 255, 0, 0, 1024, 3583, 8191, 16383, 32767]
theorem impl_FormatTask.tab11 : rtab .any (opsOf Try.f57 11) = impl_FormatTask.T11 := by kernel_rfl
theorem impl_FormatTask.bits11 : waitsOk impl_FormatTask.T11.2 impl_FormatTask.B11 = true := by kernel_rfl
theorem impl_FormatTask.calls (k : Nat) (a0_0 : Int) (A0_1 : Option Addr) (c0_1 : Nat) (l0_1 : List (S60)) (A0_2 : Option Addr) (c0_2 : Nat) (l0_2 : List (S60)) (A0_3 : Option Addr) (c0_3 : Nat) (l0_3 : List Bool) (a0_4 : Int) (r : ByteArray) (w : World) (hr0_1 : Kd.C k60 w A0_1 l0_1.length l0_1) (hc0_1 : l0_1.length ≤ c0_1) (hr0_2 : Kd.C k60 w A0_2 l0_2.length l0_2) (hc0_2 : l0_2.length ≤ c0_2) (hr0_3 : Kd.C Kd.bool w A0_3 l0_3.length l0_3) (hc0_3 : l0_3.length ≤ c0_3) (h : impl_FormatTask.f k a0_0 l0_1 l0_2 l0_3 a0_4 = some r) :
  Calls Try.prog 57 #[.agg #[.int .i64 a0_0, .slice A0_1 l0_1.length c0_1, .slice A0_2 l0_2.length c0_2, .slice A0_3 l0_3.length c0_3, .int .i64 a0_4]] w fun e w' => e = .returned (.string r) ∧ Below w.heap.size w w' := by
 have hu40 := Try.underlying40
 have HR0_1 := Aside0.mk hr0_1
 have HC0_1 := Aside0.mk hc0_1
 clear hr0_1 hc0_1
 have HR0_2 := Aside0.mk hr0_2
 have HC0_2 := Aside0.mk hc0_2
 clear hr0_2 hc0_2
 have HR0_3 := Aside0.mk hr0_3
 have HC0_3 := Aside0.mk hc0_3
 clear hr0_3 hc0_3
 have HB := Aside0.mk (Below.refl w.heap.size w)
 have H : ((impl_IsValidTask.f k a0_0 l0_1 l0_2 l0_3 a0_4).bind fun t1232 => (if t1232 = true then (impl_FormatTask.l0 k (⟨#[]⟩ : ByteArray) l0_3 (l0_3.length : Int) 0 a0_0 l0_1 l0_2 l0_3 a0_4) else (some (⟨#[]⟩ : ByteArray)))) = some r := h
 clear h
 replace H := Option.bind_eq_some_iff.mp H
 obtain ⟨t1232, A20, H⟩ := H
 have A2 := Aside0.mk A20
 clear A20
 by_cases c3 : t1232 = true
 ·subst c3
  rw [if_pos rfl] at H
  have H' := Aside0.mk H
  clear H
  go_enter Try.func57, Try.ntmps57
  go_wp2_with (first | ((with_reducible refine gate_dst (N := 1) rfl ?_); refine box_event ?hg (N := 1) ?hd (cs := #[.int .i64 a0_0, .slice A0_1 l0_1.length c0_1, .slice A0_2 l0_2.length c0_2, .slice A0_3 l0_3.length c0_3, .int .i64 a0_4]) (t := 40) ?hr ?_; (case hd => rfl); (case hg => rfl); (case hr => (go_simp; done)); intro gb1231 hg w4 hbox hb; have n0_ := Aside0.mk (below_step HB.out hb); have n1_ := Aside0.mk (hbox); have n2_ := Aside0.mk ((by rw [hg]; exact (below_size HB.out) : w.heap.size ≤ gb1231)); have n3_ := Aside0.mk ((by rw [hg]; exact (below_size HB.out) : w.heap.size ≤ gb1231)); clear HB; have HB := n0_; have BK1231 := n1_; have GW1231 := n2_; have GE1231 := n3_; clear n0_ n1_ n2_ n3_; clear hb hbox hg; have hcz5_0 : w4.cell? ⟨gb1231, 0, none⟩ = some (.int .i64 a0_0) := (blk_cell BK1231.out 0).trans rfl; have hcz5_1 : w4.cell? ⟨gb1231, 1, none⟩ = some (.slice A0_1 l0_1.length c0_1) := (blk_cell BK1231.out 1).trans rfl; have hcz5_2 : w4.cell? ⟨gb1231, 2, none⟩ = some (.slice A0_2 l0_2.length c0_2) := (blk_cell BK1231.out 2).trans rfl; have hcz5_3 : w4.cell? ⟨gb1231, 3, none⟩ = some (.slice A0_3 l0_3.length c0_3) := (blk_cell BK1231.out 3).trans rfl; have hcz5_4 : w4.cell? ⟨gb1231, 4, none⟩ = some (.int .i64 a0_4) := (blk_cell BK1231.out 4).trans rfl; have hfz5_0 := blk_frozen BK1231.out 0; have hfz5_1 := blk_frozen BK1231.out 1; have hfz5_2 := blk_frozen BK1231.out 2; have hfz5_3 := blk_frozen BK1231.out 3; have hfz5_4 := blk_frozen BK1231.out 4) | ((with_reducible refine gate_callee (f := 39) rfl ?_); refine goesL_ (some 7) rfl rfl Try.func39 (by kernel_rfl) rfl #[.agg #[.int .i64 a0_0, .slice A0_1 l0_1.length c0_1, .slice A0_2 l0_2.length c0_2, .slice A0_3 l0_3.length c0_3, .int .i64 a0_4]] rfl (by (try simp only [List.map_toArray, List.map_cons, List.map_nil]); rfl) ?_; (with_reducible refine (impl_IsValidTask.calls k a0_0 _ _ l0_1 _ _ l0_2 _ _ l0_3 a0_4 true _ ?side1 ?side2 ?side3 ?side4 ?side5 ?side6 A2.out).mono ?_); (case side1 => repeat (exact (Kd.C_below HR0_1.out HB.out))); (case side2 => exact HC0_1.out); (case side3 => repeat (exact (Kd.C_below HR0_2.out HB.out))); (case side4 => exact HC0_2.out); (case side5 => repeat (exact (Kd.C_below HR0_3.out HB.out))); (case side6 => exact HC0_3.out); rintro e w6 ⟨rfl, hb⟩; refine ⟨_, rfl, ?_⟩; have n0_ := Aside0.mk (blk_below (g := gb1231) (o := .cells #[.int .i64 a0_0, .slice A0_1 l0_1.length c0_1, .slice A0_2 l0_2.length c0_2, .slice A0_3 l0_3.length c0_3, .int .i64 a0_4] 40 (0, 0)) BK1231.out hb); have n1_ := Aside0.mk (below_step HB.out hb); clear BK1231; clear HB; have BK1231 := n0_; have HB := n1_; clear n0_ n1_; (try clear hb); have hcz7_0 : w6.cell? ⟨gb1231, 0, none⟩ = some (.int .i64 a0_0) := (blk_cell BK1231.out 0).trans rfl; have hcz7_1 : w6.cell? ⟨gb1231, 1, none⟩ = some (.slice A0_1 l0_1.length c0_1) := (blk_cell BK1231.out 1).trans rfl; have hcz7_2 : w6.cell? ⟨gb1231, 2, none⟩ = some (.slice A0_2 l0_2.length c0_2) := (blk_cell BK1231.out 2).trans rfl; have hcz7_3 : w6.cell? ⟨gb1231, 3, none⟩ = some (.slice A0_3 l0_3.length c0_3) := (blk_cell BK1231.out 3).trans rfl; have hcz7_4 : w6.cell? ⟨gb1231, 4, none⟩ = some (.int .i64 a0_4) := (blk_cell BK1231.out 4).trans rfl; have hfz7_0 := blk_frozen BK1231.out 0; have hfz7_1 := blk_frozen BK1231.out 1; have hfz7_2 := blk_frozen BK1231.out 2; have hfz7_3 := blk_frozen BK1231.out 3; have hfz7_4 := blk_frozen BK1231.out 4))
  go_loopg [3, 12] k (fun kq v3 v12 w' => ∃ (x3_1 : ByteArray) (x12_1 : Int), v3 = .string x3_1 ∧ v12 = .int .i64 x12_1 ∧ Aside0 (impl_FormatTask.l0 kq x3_1 l0_3 (l0_3.length : Int) x12_1 a0_0 l0_1 l0_2 l0_3 a0_4 = some r) ∧ Aside0 (kq ≤ k) ∧ Aside0 (w'.heap[gb1231]? = some (.cells #[.int .i64 a0_0, (.slice A0_1 l0_1.length c0_1), (.slice A0_2 l0_2.length c0_2), (.slice A0_3 l0_3.length c0_3), .int .i64 a0_4] 40 (0, 0))) ∧ Aside0 (Below w.heap.size w w'))
  case atStart => exact ⟨((⟨#[]⟩ : ByteArray)), (0), rfl, rfl, H', ⟨Nat.le_refl _⟩, ⟨BK1231.out⟩, ⟨HB.out⟩⟩
  case round =>
   clear H'
   try clear hcz5_0
   try clear hcz5_1
   try clear hcz5_2
   try clear hcz5_3
   try clear hcz5_4
   try clear hcz7_0
   try clear hcz7_1
   try clear hcz7_2
   try clear hcz7_3
   try clear hcz7_4
   try clear hfz5_0
   try clear hfz5_1
   try clear hfz5_2
   try clear hfz5_3
   try clear hfz5_4
   try clear hfz7_0
   try clear hfz7_1
   try clear hfz7_2
   try clear hfz7_3
   try clear hfz7_4
   obtain ⟨x3_1, x12_1, rfl, rfl, HA, HK1, BK1231, HB⟩ := hrel
   cases gk with
   | zero => exact absurd HA.out (by simp [impl_FormatTask.l0])
   | succ k1 =>
    have H := HA.out
    clear HA
    simp only [impl_FormatTask.l0] at H
    by_cases c8 : x12_1 < (l0_3.length : Int)
    ·rw [if_pos c8] at H
     have c8b0 : decide (x12_1 < (l0_3.length : Int)) = true := decide_eq_true c8
     clear c8
     by_cases c9 : 0 ≤ x12_1
     ·rw [if_pos c9] at H
      have c9b0 : decide (0 ≤ x12_1) = true := decide_eq_true c9
      clear c9
      by_cases c10 : x12_1 < (l0_3.length : Int)
      ·rw [if_pos c10] at H
       have c10b0 : decide (x12_1 < (l0_3.length : Int)) = true := decide_eq_true c10
       clear c10
       obtain ⟨bq11, hbq11⟩ : ∃ b_ : Bool, b_ = (rdOf false l0_3 x12_1) := ⟨_, rfl⟩
       replace H : (if bq11 = true then (if x3_1.size + 1 ≤ 9223372036854775807 then (impl_FormatTask.l0 k1 (x3_1 ++ (⟨#[49]⟩ : ByteArray)) l0_3 (l0_3.length : Int) (wrap64 (x12_1 + 1)) a0_0 l0_1 l0_2 l0_3 a0_4) else (none)) else (if x3_1.size + 1 ≤ 9223372036854775807 then (impl_FormatTask.l0 k1 (x3_1 ++ (⟨#[48]⟩ : ByteArray)) l0_3 (l0_3.length : Int) (wrap64 (x12_1 + 1)) a0_0 l0_1 l0_2 l0_3 a0_4) else (none))) = some r := by rw [← hbq11] at H; exact H
       have Nbq11 := Aside0.mk hbq11
       clear hbq11
       by_cases c12 : bq11 = true
       ·subst c12
        rw [if_pos rfl] at H
        by_cases c13 : x3_1.size + 1 ≤ 9223372036854775807
        ·rw [if_pos c13] at H
         have c13b0 := eq_true c13
         have c13b1 : decide (x3_1.size + 1 ≤ 9223372036854775807) = true := decide_eq_true c13
         try have c13b2 : (9223372036854775807 < x3_1.size + 1) = False := eq_false (Nat.not_lt.2 c13)
         have H' := Aside0.mk H
         clear H
         have p1233 : 0 ≤ (x12_1 : Int) := of_decide_eq_true (by (with_reducible assumption))
         have q1233 : x12_1 < (l0_3.length : Int) := of_decide_eq_true (by (with_reducible assumption))
         obtain ⟨ad1233, e1233, hx1233_0⟩ := Kd.at_bool HR0_3.out x12_1 p1233 q1233
         (try rw [← Nbq11.out] at hx1233_0)
         cases e1233
         replace hx1233_0 := (HB.out.cell (World.block_lt_of_cell? w _ hx1233_0)).trans hx1233_0
         replace p1233 := eq_true p1233
         replace q1233 := eq_true q1233
         go_wp2
         go_roundg k1
         case measure => have := HK1.out; omega
         case rel => exact ⟨(x3_1 ++ (⟨#[49]⟩ : ByteArray)), (wrap64 (x12_1 + 1)), rfl, rfl, H', ⟨by have := HK1.out; omega⟩, ⟨BK1231.out⟩, ⟨HB.out⟩⟩
        ·rw [if_neg c13] at H
         exact absurd H (by simp)
       ·replace c12 := Bool.eq_false_iff.mpr c12
        subst c12
        rw [if_neg (show ¬ (false = true) by decide)] at H
        by_cases c14 : x3_1.size + 1 ≤ 9223372036854775807
        ·rw [if_pos c14] at H
         have c14b0 := eq_true c14
         have c14b1 : decide (x3_1.size + 1 ≤ 9223372036854775807) = true := decide_eq_true c14
         try have c14b2 : (9223372036854775807 < x3_1.size + 1) = False := eq_false (Nat.not_lt.2 c14)
         have H' := Aside0.mk H
         clear H
         have p1233 : 0 ≤ (x12_1 : Int) := of_decide_eq_true (by (with_reducible assumption))
         have q1233 : x12_1 < (l0_3.length : Int) := of_decide_eq_true (by (with_reducible assumption))
         obtain ⟨ad1233, e1233, hx1233_0⟩ := Kd.at_bool HR0_3.out x12_1 p1233 q1233
         (try rw [← Nbq11.out] at hx1233_0)
         cases e1233
         replace hx1233_0 := (HB.out.cell (World.block_lt_of_cell? w _ hx1233_0)).trans hx1233_0
         replace p1233 := eq_true p1233
         replace q1233 := eq_true q1233
         go_wp2
         go_roundg k1
         case measure => have := HK1.out; omega
         case rel => exact ⟨(x3_1 ++ (⟨#[48]⟩ : ByteArray)), (wrap64 (x12_1 + 1)), rfl, rfl, H', ⟨by have := HK1.out; omega⟩, ⟨BK1231.out⟩, ⟨HB.out⟩⟩
        ·rw [if_neg c14] at H
         exact absurd H (by simp)
      ·rw [if_neg c10] at H
       exact absurd H (by simp)
     ·rw [if_neg c9] at H
      exact absurd H (by simp)
    ·rw [if_neg c8] at H
     have c8b0 : decide (x12_1 < (l0_3.length : Int)) = false := decide_eq_false c8
     clear c8
     replace H := Option.bind_eq_some_iff.mp H
     obtain ⟨t1234, A150, H⟩ := H
     have A15 := Aside0.mk A150
     clear A150
     replace H := Option.bind_eq_some_iff.mp H
     obtain ⟨t1235, A160, H⟩ := H
     have A16 := Aside0.mk A160
     clear A160
     replace H := Option.bind_eq_some_iff.mp H
     obtain ⟨t1236, A170, H⟩ := H
     have A17 := Aside0.mk A170
     clear A170
     replace H := Option.bind_eq_some_iff.mp H
     obtain ⟨t1237, A180, H⟩ := H
     have A18 := Aside0.mk A180
     clear A180
     obtain ⟨y1238, hy1238⟩ : ∃ y_ : List ByteArray, y_ = ([t1234, t1235, t1236, x3_1, t1237] : List ByteArray) := ⟨_, rfl⟩
     replace H : ((impl_joined.f k1 y1238 (⟨#[59]⟩ : ByteArray)).bind fun t1241 => (some t1241)) = some r := by (rw [hy1238]; with_reducible exact H)
     have Ny1238 := Aside0.mk hy1238
     clear hy1238
     replace H := Option.bind_eq_some_iff.mp H
     obtain ⟨t1241, A190, H⟩ := H
     have A19 := Aside0.mk A190
     clear A190
     obtain rfl := Option.some.inj H
     try go_wp2
     have n0_ := Aside0.mk (blk_drew BK1231.out)
     have n1_ := Aside0.mk (below_drew1 HB.out)
     clear BK1231
     clear HB
     have BK1231 := n0_
     have HB := n1_
     clear n0_ n1_
     refine start_ (n := 16) (S := fun w' => w'.cell? ⟨gb1231, 0, none⟩ = some (.int .i64 a0_0) ∧ w'.cell? ⟨gb1231, 1, none⟩ = some (.slice A0_1 l0_1.length c0_1) ∧ w'.cell? ⟨gb1231, 2, none⟩ = some (.slice A0_2 l0_2.length c0_2) ∧ w'.cell? ⟨gb1231, 3, none⟩ = some (.slice A0_3 l0_3.length c0_3) ∧ w'.cell? ⟨gb1231, 4, none⟩ = some (.int .i64 a0_4)) (ds := []) #[false, false, false, false, false, false, false, false, false, false, false, false, false, false, false, false] (by kernel_rfl) rfl rfl ⟨(blk_cell BK1231.out 0).trans rfl, (blk_cell BK1231.out 1).trans rfl, (blk_cell BK1231.out 2).trans rfl, (blk_cell BK1231.out 3).trans rfl, (blk_cell BK1231.out 4).trans rfl⟩ (fun hHeld => ?_); refine with_tabW impl_FormatTask.tab11 impl_FormatTask.bits11 (fun HT_ HW_ => ?_)
     generalize wr.drew = w20 at BK1231 HB hHeld ⊢
     refine pure_ (i := 0) (N := some 22) (v := ?_) (a' := ?_) #[true, false, false, false, false, false, false, false, false, false, false, false, false, false, false, false] rfl rfl (any_of HT_.out (by kernel_rfl)) (fun _ _ _ h => h) (Or.inl ⟨rfl, ?_⟩) ?_ ?_
     rotate_left
     ·intro w'
      go_simp
      with_reducible rfl
     rotate_left
     ·simp only [Act.put, List.setIfInBounds_toArray, List.set_cons_zero, List.set_cons_succ, i64_w, i32_w]
      rfl
     refine pure_ (i := 3) (N := some 25) (v := ?_) (a' := ?_) #[true, false, false, true, false, false, false, false, false, false, false, false, false, false, false, false] rfl rfl (any_of HT_.out (by kernel_rfl)) (fun _ _ _ h => h) (Or.inl ⟨rfl, ?_⟩) ?_ ?_
     rotate_left
     ·intro w'
      go_simp
      with_reducible rfl
     rotate_left
     ·simp only [Act.put, List.setIfInBounds_toArray, List.set_cons_zero, List.set_cons_succ, i64_w, i32_w]
      rfl
     refine pure_ (i := 6) (N := some 28) (v := ?_) (a' := ?_) #[true, false, false, true, false, false, true, false, false, false, false, false, false, false, false, false] rfl rfl (any_of HT_.out (by kernel_rfl)) (fun _ _ _ h => h) (Or.inl ⟨rfl, ?_⟩) ?_ ?_
     rotate_left
     ·intro w'
      go_simp
      with_reducible rfl
     rotate_left
     ·simp only [Act.put, List.setIfInBounds_toArray, List.set_cons_zero, List.set_cons_succ, i64_w, i32_w]
      rfl
     refine pure_ (i := 9) (N := some 31) (v := ?_) (a' := ?_) #[true, false, false, true, false, false, true, false, false, true, false, false, false, false, false, false] rfl rfl (any_of HT_.out (by kernel_rfl)) (fun _ _ _ h => h) (Or.inl ⟨rfl, ?_⟩) ?_ ?_
     rotate_left
     ·intro w'
      go_simp
      with_reducible rfl
     rotate_left
     ·simp only [Act.put, List.setIfInBounds_toArray, List.set_cons_zero, List.set_cons_succ, i64_w, i32_w]
      rfl
     refine pure_ (i := 10) (N := some 32) (v := ?_) (a' := ?_) #[true, false, false, true, false, false, true, false, false, true, true, false, false, false, false, false] rfl rfl (any_of HT_.out (by kernel_rfl)) (fun _ _ _ h => h) (Or.inl ⟨rfl, ?_⟩) ?_ ?_
     rotate_left
     ·intro w'
      go_simp
      with_reducible rfl
     rotate_left
     ·simp only [Act.put, List.setIfInBounds_toArray, List.set_cons_zero, List.set_cons_succ, i64_w, i32_w]
      rfl
     refine take_ (i := 1) (N := some 23) (v := ?_) (a' := ?_) #[true, true, false, true, false, false, true, false, false, true, true, false, false, false, false, false] rfl rfl (take_ofW HT_.out HW_.out (by kernel_rfl)) (fun _ _ _ h => h) (Or.inl ⟨rfl, ?_⟩) hHeld ?_ ?_
     rotate_left
     ·rintro w' ⟨s0, s1, s2, s3, s4⟩
      go_simp
      with_reducible rfl
     rotate_left
     ·simp only [Act.put, List.setIfInBounds_toArray, List.set_cons_zero, List.set_cons_succ, i64_w, i32_w]
      rfl
     refine take_ (i := 4) (N := some 26) (v := ?_) (a' := ?_) #[true, true, false, true, true, false, true, false, false, true, true, false, false, false, false, false] rfl rfl (take_ofW HT_.out HW_.out (by kernel_rfl)) (fun _ _ _ h => h) (Or.inl ⟨rfl, ?_⟩) hHeld ?_ ?_
     rotate_left
     ·rintro w' ⟨s0, s1, s2, s3, s4⟩
      go_simp
      with_reducible rfl
     rotate_left
     ·simp only [Act.put, List.setIfInBounds_toArray, List.set_cons_zero, List.set_cons_succ, i64_w, i32_w]
      rfl
     refine take_ (i := 7) (N := some 29) (v := ?_) (a' := ?_) #[true, true, false, true, true, false, true, true, false, true, true, false, false, false, false, false] rfl rfl (take_ofW HT_.out HW_.out (by kernel_rfl)) (fun _ _ _ h => h) (Or.inl ⟨rfl, ?_⟩) hHeld ?_ ?_
     rotate_left
     ·rintro w' ⟨s0, s1, s2, s3, s4⟩
      go_simp
      with_reducible rfl
     rotate_left
     ·simp only [Act.put, List.setIfInBounds_toArray, List.set_cons_zero, List.set_cons_succ, i64_w, i32_w]
      rfl
     refine take_ (i := 11) (N := some 33) (v := ?_) (a' := ?_) #[true, true, false, true, true, false, true, true, false, true, true, true, false, false, false, false] rfl rfl (take_ofW HT_.out HW_.out (by kernel_rfl)) (fun _ _ _ h => h) (Or.inl ⟨rfl, ?_⟩) hHeld ?_ ?_
     rotate_left
     ·rintro w' ⟨s0, s1, s2, s3, s4⟩
      go_simp
      with_reducible rfl
     rotate_left
     ·simp only [Act.put, List.setIfInBounds_toArray, List.set_cons_zero, List.set_cons_succ, i64_w, i32_w]
      rfl
     refine one_ (i := 2) (N := some 24) #[true, true, true, true, true, false, true, true, false, true, true, true, false, false, false, false] rfl rfl (one_of HT_.out (by kernel_rfl)) (by decide) (fun K hK => ?_)
     refine goes_ Try.func155 (by kernel_rfl) rfl #[.int .i64 a0_0] rfl rfl rfl (by (try simp only [List.map_toArray, List.map_cons, List.map_nil]); rfl) ?_
     with_reducible refine (impl_FormatInt.calls k1 a0_0 t1234 _ A15.out).mono ?_
     rintro e w21 ⟨rfl, hb⟩
     refine ⟨_, rfl, ?_⟩
     have n0_ := Aside0.mk (blk_below (g := gb1231) (o := .cells #[.int .i64 a0_0, .slice A0_1 l0_1.length c0_1, .slice A0_2 l0_2.length c0_2, .slice A0_3 l0_3.length c0_3, .int .i64 a0_4] 40 (0, 0)) BK1231.out hb)
     have n1_ := Aside0.mk (below_step HB.out hb)
     clear BK1231
     clear HB
     have BK1231 := n0_
     have HB := n1_
     clear n0_ n1_
     (try clear hb)
     (try clear hb2)
     (try clear hk)
     (try clear hi)
     refine hK.out _ _ ⟨(blk_cell BK1231.out 0).trans rfl, (blk_cell BK1231.out 1).trans rfl, (blk_cell BK1231.out 2).trans rfl, (blk_cell BK1231.out 3).trans rfl, (blk_cell BK1231.out 4).trans rfl⟩ (fun hHeld => ?_)
     clear hK K
     refine norm_ (a' := ?_) ?_ ?_
     rotate_left
     ·show Act.put _ (some 24) _ = _
      simp only [Act.put, List.setIfInBounds_toArray, List.set_cons_zero, List.set_cons_succ, i64_w, i32_w]
      rfl
     refine one_ (i := 5) (N := some 27) #[true, true, true, true, true, true, true, true, false, true, true, true, false, false, false, false] rfl rfl (one_of HT_.out (by kernel_rfl)) (by decide) (fun K hK => ?_)
     refine goes_ Try.func156 (by kernel_rfl) rfl #[.slice A0_1 l0_1.length c0_1] rfl rfl rfl (by (try simp only [List.map_toArray, List.map_cons, List.map_nil]); rfl) ?_
     with_reducible refine (impl_FormatRows.calls k1 _ _ l0_1 t1235 _ ?side1 ?side2 A16.out).mono ?_
     (case side1 => repeat (exact (Kd.C_below HR0_1.out HB.out)))
     (case side2 => exact HC0_1.out)
     rintro e w22 ⟨rfl, hb⟩
     refine ⟨_, rfl, ?_⟩
     have n0_ := Aside0.mk (blk_below (g := gb1231) (o := .cells #[.int .i64 a0_0, .slice A0_1 l0_1.length c0_1, .slice A0_2 l0_2.length c0_2, .slice A0_3 l0_3.length c0_3, .int .i64 a0_4] 40 (0, 0)) BK1231.out hb)
     have n1_ := Aside0.mk (below_step HB.out hb)
     clear BK1231
     clear HB
     have BK1231 := n0_
     have HB := n1_
     clear n0_ n1_
     (try clear hb)
     (try clear hb2)
     (try clear hk)
     (try clear hi)
     refine hK.out _ _ ⟨(blk_cell BK1231.out 0).trans rfl, (blk_cell BK1231.out 1).trans rfl, (blk_cell BK1231.out 2).trans rfl, (blk_cell BK1231.out 3).trans rfl, (blk_cell BK1231.out 4).trans rfl⟩ (fun hHeld => ?_)
     clear hK K
     refine norm_ (a' := ?_) ?_ ?_
     rotate_left
     ·show Act.put _ (some 27) _ = _
      simp only [Act.put, List.setIfInBounds_toArray, List.set_cons_zero, List.set_cons_succ, i64_w, i32_w]
      rfl
     refine one_ (i := 8) (N := some 30) #[true, true, true, true, true, true, true, true, true, true, true, true, false, false, false, false] rfl rfl (one_of HT_.out (by kernel_rfl)) (by decide) (fun K hK => ?_)
     refine goes_ Try.func156 (by kernel_rfl) rfl #[.slice A0_2 l0_2.length c0_2] rfl rfl rfl (by (try simp only [List.map_toArray, List.map_cons, List.map_nil]); rfl) ?_
     with_reducible refine (impl_FormatRows.calls k1 _ _ l0_2 t1236 _ ?side1 ?side2 A17.out).mono ?_
     (case side1 => repeat (exact (Kd.C_below HR0_2.out HB.out)))
     (case side2 => exact HC0_2.out)
     rintro e w23 ⟨rfl, hb⟩
     refine ⟨_, rfl, ?_⟩
     have n0_ := Aside0.mk (blk_below (g := gb1231) (o := .cells #[.int .i64 a0_0, .slice A0_1 l0_1.length c0_1, .slice A0_2 l0_2.length c0_2, .slice A0_3 l0_3.length c0_3, .int .i64 a0_4] 40 (0, 0)) BK1231.out hb)
     have n1_ := Aside0.mk (below_step HB.out hb)
     clear BK1231
     clear HB
     have BK1231 := n0_
     have HB := n1_
     clear n0_ n1_
     (try clear hb)
     (try clear hb2)
     (try clear hk)
     (try clear hi)
     refine hK.out _ _ ⟨(blk_cell BK1231.out 0).trans rfl, (blk_cell BK1231.out 1).trans rfl, (blk_cell BK1231.out 2).trans rfl, (blk_cell BK1231.out 3).trans rfl, (blk_cell BK1231.out 4).trans rfl⟩ (fun hHeld => ?_)
     clear hK K
     refine norm_ (a' := ?_) ?_ ?_
     rotate_left
     ·show Act.put _ (some 30) _ = _
      simp only [Act.put, List.setIfInBounds_toArray, List.set_cons_zero, List.set_cons_succ, i64_w, i32_w]
      rfl
     refine one_ (i := 12) (N := some 34) #[true, true, true, true, true, true, true, true, true, true, true, true, true, false, false, false] rfl rfl (one_of HT_.out (by kernel_rfl)) (by decide) (fun K hK => ?_)
     refine goes_ Try.func155 (by kernel_rfl) rfl #[.int .i64 a0_4] rfl rfl rfl (by (try simp only [List.map_toArray, List.map_cons, List.map_nil]); rfl) ?_
     with_reducible refine (impl_FormatInt.calls k1 a0_4 t1237 _ A18.out).mono ?_
     rintro e w24 ⟨rfl, hb⟩
     refine ⟨_, rfl, ?_⟩
     have n0_ := Aside0.mk (blk_below (g := gb1231) (o := .cells #[.int .i64 a0_0, .slice A0_1 l0_1.length c0_1, .slice A0_2 l0_2.length c0_2, .slice A0_3 l0_3.length c0_3, .int .i64 a0_4] 40 (0, 0)) BK1231.out hb)
     have n1_ := Aside0.mk (below_step HB.out hb)
     clear BK1231
     clear HB
     have BK1231 := n0_
     have HB := n1_
     clear n0_ n1_
     (try clear hb)
     (try clear hb2)
     (try clear hk)
     (try clear hi)
     refine hK.out _ _ ⟨(blk_cell BK1231.out 0).trans rfl, (blk_cell BK1231.out 1).trans rfl, (blk_cell BK1231.out 2).trans rfl, (blk_cell BK1231.out 3).trans rfl, (blk_cell BK1231.out 4).trans rfl⟩ (fun hHeld => ?_)
     clear hK K
     refine norm_ (a' := ?_) ?_ ?_
     rotate_left
     ·show Act.put _ (some 34) _ = _
      simp only [Act.put, List.setIfInBounds_toArray, List.set_cons_zero, List.set_cons_succ, i64_w, i32_w]
      rfl
     refine one_ (i := 13) (N := some 35) #[true, true, true, true, true, true, true, true, true, true, true, true, true, true, false, false] rfl rfl (one_of HT_.out (by kernel_rfl)) (by decide) (fun K hK => ?_)
     refine Kd.R_lit_step Kd.string _ 9 ?hg (N := 35) ?hd (xs := ([t1234, t1235, t1236, x3_1, t1237] : List ByteArray)) (inner := [.string t1234, .string t1235, .string t1236, .string x3_1, .string t1237]) (ok := fun _ => True) (okp := fun _ => True) ?hr ?hp (fun _ hk => hk) trivial (Below.refl _ _) (Nat.le_refl _) (by simp) ?_; (case hd => rfl); (case hg => rfl); (case hr => (go_simp; done)); (case hp => exact (Reps.one (show Kd.M Kd.string _ _ _ t1234 [.string t1234] from rfl) (Reps.one (show Kd.M Kd.string _ _ _ t1235 [.string t1235] from rfl) (Reps.one (show Kd.M Kd.string _ _ _ t1236 [.string t1236] from rfl) (Reps.one (show Kd.M Kd.string _ _ _ x3_1 [.string x3_1] from rfl) (Reps.one (show Kd.M Kd.string _ _ _ t1237 [.string t1237] from rfl) (Reps.none _ _)))))))
     intro v1239 w25 ho26 hb hg_ hnew_
     clear hg_ hnew_
     (rw [← Ny1238.out] at ho26)
     have n0_ := Aside0.mk (Kd.R_lower ho26 (below_size HB.out))
     have n1_ := Aside0.mk (blk_below (g := gb1231) (o := .cells #[.int .i64 a0_0, .slice A0_1 l0_1.length c0_1, .slice A0_2 l0_2.length c0_2, .slice A0_3 l0_3.length c0_3, .int .i64 a0_4] 40 (0, 0)) BK1231.out hb)
     have n2_ := Aside0.mk (below_step HB.out hb)
     clear BK1231
     clear HB
     have HO1240 := n0_
     have BK1231 := n1_
     have HB := n2_
     clear n0_ n1_ n2_
     clear hb ho26
     obtain ⟨Ao27, co27, eo27⟩ := Kd.R_slice HO1240.out
     (subst eo27)
     refine hK.out _ _ ⟨(blk_cell BK1231.out 0).trans rfl, (blk_cell BK1231.out 1).trans rfl, (blk_cell BK1231.out 2).trans rfl, (blk_cell BK1231.out 3).trans rfl, (blk_cell BK1231.out 4).trans rfl⟩ (fun hHeld => ?_)
     clear hK K
     refine norm_ (a' := ?_) ?_ ?_
     rotate_left
     ·show Act.put _ (some 35) _ = _
      simp only [Act.put, List.setIfInBounds_toArray, List.set_cons_zero, List.set_cons_succ, i64_w, i32_w]
      rfl
     refine one_ (i := 14) (N := some 36) #[true, true, true, true, true, true, true, true, true, true, true, true, true, true, true, false] rfl rfl (one_of HT_.out (by kernel_rfl)) (by decide) (fun K hK => ?_)
     refine goes_ Try.func154 (by kernel_rfl) rfl #[.slice Ao27 y1238.length co27, .string (⟨#[59]⟩ : ByteArray)] rfl rfl rfl (by (try simp only [List.map_toArray, List.map_cons, List.map_nil]); rfl) ?_
     with_reducible refine (impl_joined.calls k1 _ _ y1238 (⟨#[59]⟩ : ByteArray) t1241 _ ?side1 ?side2 A19.out).mono ?_
     (case side1 => repeat (exact (Kd.R_reads' HO1240.out).2.2))
     (case side2 => exact (Kd.R_reads' HO1240.out).2.1)
     rintro e w' ⟨rfl, ⟨nd, rfl⟩⟩
     refine ⟨_, rfl, ?_⟩
     refine hK.out _ _ ⟨(blk_cell BK1231.out 0).trans rfl, (blk_cell BK1231.out 1).trans rfl, (blk_cell BK1231.out 2).trans rfl, (blk_cell BK1231.out 3).trans rfl, (blk_cell BK1231.out 4).trans rfl⟩ (fun hHeld => ?_)
     clear hK K
     refine norm_ (a' := ?_) ?_ ?_
     rotate_left
     ·show Act.put _ (some 36) _ = _
      simp only [Act.put, List.setIfInBounds_toArray, List.set_cons_zero, List.set_cons_succ, i64_w, i32_w]
      rfl
     refine pure_ (i := 15) (N := some 2) (v := ?_) (a' := ?_) #[true, true, true, true, true, true, true, true, true, true, true, true, true, true, true, true] rfl rfl (any_of HT_.out (by kernel_rfl)) (fun _ _ _ h => h) (Or.inl ⟨rfl, ?_⟩) ?_ ?_
     rotate_left
     ·intro w'
      go_simp
      with_reducible rfl
     rotate_left
     ·simp only [Act.put, List.setIfInBounds_toArray, List.set_cons_zero, List.set_cons_succ, i64_w, i32_w]
      rfl
     refine done_ (done_of HT_.out (by kernel_rfl)) ?_
     try go_wp2
     go_ret
     exact ⟨rfl, by repeat ((with_reducible first | exact HB.out | apply pw_below_drewN))⟩
 ·replace c3 := Bool.eq_false_iff.mpr c3
  subst c3
  rw [if_neg (show ¬ (false = true) by decide)] at H
  obtain rfl := Option.some.inj H
  go_enter Try.func57, Try.ntmps57
  go_wp2_with (first | ((with_reducible refine gate_dst (N := 1) rfl ?_); refine box_event ?hg (N := 1) ?hd (cs := #[.int .i64 a0_0, .slice A0_1 l0_1.length c0_1, .slice A0_2 l0_2.length c0_2, .slice A0_3 l0_3.length c0_3, .int .i64 a0_4]) (t := 40) ?hr ?_; (case hd => rfl); (case hg => rfl); (case hr => (go_simp; done)); intro gb1231 hg w28 hbox hb; have n0_ := Aside0.mk (below_step HB.out hb); have n1_ := Aside0.mk (hbox); have n2_ := Aside0.mk ((by rw [hg]; exact (below_size HB.out) : w.heap.size ≤ gb1231)); have n3_ := Aside0.mk ((by rw [hg]; exact (below_size HB.out) : w.heap.size ≤ gb1231)); clear HB; have HB := n0_; have BK1231 := n1_; have GW1231 := n2_; have GE1231 := n3_; clear n0_ n1_ n2_ n3_; clear hb hbox hg; have hcz29_0 : w28.cell? ⟨gb1231, 0, none⟩ = some (.int .i64 a0_0) := (blk_cell BK1231.out 0).trans rfl; have hcz29_1 : w28.cell? ⟨gb1231, 1, none⟩ = some (.slice A0_1 l0_1.length c0_1) := (blk_cell BK1231.out 1).trans rfl; have hcz29_2 : w28.cell? ⟨gb1231, 2, none⟩ = some (.slice A0_2 l0_2.length c0_2) := (blk_cell BK1231.out 2).trans rfl; have hcz29_3 : w28.cell? ⟨gb1231, 3, none⟩ = some (.slice A0_3 l0_3.length c0_3) := (blk_cell BK1231.out 3).trans rfl; have hcz29_4 : w28.cell? ⟨gb1231, 4, none⟩ = some (.int .i64 a0_4) := (blk_cell BK1231.out 4).trans rfl; have hfz29_0 := blk_frozen BK1231.out 0; have hfz29_1 := blk_frozen BK1231.out 1; have hfz29_2 := blk_frozen BK1231.out 2; have hfz29_3 := blk_frozen BK1231.out 3; have hfz29_4 := blk_frozen BK1231.out 4) | ((with_reducible refine gate_callee (f := 39) rfl ?_); refine goesL_ (some 7) rfl rfl Try.func39 (by kernel_rfl) rfl #[.agg #[.int .i64 a0_0, .slice A0_1 l0_1.length c0_1, .slice A0_2 l0_2.length c0_2, .slice A0_3 l0_3.length c0_3, .int .i64 a0_4]] rfl (by (try simp only [List.map_toArray, List.map_cons, List.map_nil]); rfl) ?_; (with_reducible refine (impl_IsValidTask.calls k a0_0 _ _ l0_1 _ _ l0_2 _ _ l0_3 a0_4 false _ ?side1 ?side2 ?side3 ?side4 ?side5 ?side6 A2.out).mono ?_); (case side1 => repeat (exact (Kd.C_below HR0_1.out HB.out))); (case side2 => exact HC0_1.out); (case side3 => repeat (exact (Kd.C_below HR0_2.out HB.out))); (case side4 => exact HC0_2.out); (case side5 => repeat (exact (Kd.C_below HR0_3.out HB.out))); (case side6 => exact HC0_3.out); rintro e w30 ⟨rfl, hb⟩; refine ⟨_, rfl, ?_⟩; have n0_ := Aside0.mk (blk_below (g := gb1231) (o := .cells #[.int .i64 a0_0, .slice A0_1 l0_1.length c0_1, .slice A0_2 l0_2.length c0_2, .slice A0_3 l0_3.length c0_3, .int .i64 a0_4] 40 (0, 0)) BK1231.out hb); have n1_ := Aside0.mk (below_step HB.out hb); clear BK1231; clear HB; have BK1231 := n0_; have HB := n1_; clear n0_ n1_; (try clear hb)))
  go_ret
  exact ⟨rfl, HB.out⟩

def impl_cut.l0 : Nat → ByteArray → Int → List ByteArray → Int → Int → Int → Option (List ByteArray)
 | 0, _, _, _, _, _, _ => none
 | k + 1, x0, x1, x5, x6, x10, x11 => if x11 < x10 then (if 0 ≤ x11 then (if x11 < (x0.size : Int) then (if (bt x0 x11) = x1 then (if 0 ≤ x6 then (if x6 ≤ x11 then (if x11 ≤ (x0.size : Int) then (if x5.length < 8796093022208 then (impl_cut.l0 k x0 x1 (x5 ++ [x0.extract (x6 : Int).toNat (x11 : Int).toNat]) (wrap64 (x11 + 1)) x10 (wrap64 (x11 + 1))) else (none)) else (none)) else (none)) else (none)) else (impl_cut.l0 k x0 x1 x5 x6 x10 (wrap64 (x11 + 1)))) else (none)) else (none)) else (if 0 ≤ x6 then (if x6 ≤ (x0.size : Int) then (if x5.length < 8796093022208 then (some (x5 ++ [x0.extract (x6 : Int).toNat x0.size])) else (none)) else (none)) else (none))
def impl_cut.f (k : Nat) (a0 : ByteArray) (a1 : Int) : Option (List ByteArray) := impl_cut.l0 k a0 a1 ([] : List ByteArray) 0 (a0.size : Int) 0
theorem impl_cut.calls (k : Nat) (a0 : ByteArray) (a1 : Int) (r : List ByteArray) (w : World) (h : impl_cut.f k a0 a1 = some r) :
  Calls Try.prog 139 #[.string a0, .int .u8 a1] w fun e w' => ∃ v0_ : Value, e = .returned (v0_) ∧ Kd.R Kd.string 9 w' w.heap.size (fun _ => True) v0_ r ∧ Below w.heap.size w w' := by
 have HB := Aside0.mk (Below.refl w.heap.size w)
 have H : (impl_cut.l0 k a0 a1 ([] : List ByteArray) 0 (a0.size : Int) 0) = some r := h
 clear h
 obtain ⟨y1242, hy1242⟩ : ∃ y_ : List ByteArray, y_ = ([] : List ByteArray) := ⟨_, rfl⟩
 replace H : (impl_cut.l0 k a0 a1 y1242 0 (a0.size : Int) 0) = some r := by (rw [hy1242]; with_reducible exact H)
 have Ny1242 := Aside0.mk hy1242
 clear hy1242
 have H' := Aside0.mk H
 clear H
 go_enter Try.func139, Try.ntmps139
 go_wp2_with (((with_reducible refine gate_dst (N := 8) rfl ?_); refine Kd.R_lit Kd.string _ 9 ?hg (N := 8) ?hd (xs := ([] : List ByteArray)) (inner := []) (ok := fun _ => True) (okp := fun _ => True) ?hr ?hp (fun _ hk => hk) trivial (Below.refl _ _) (Nat.le_refl _) (by simp) ?_; (case hd => rfl); (case hg => rfl); (case hr => (go_simp; done)); (case hp => exact (Reps.none _ _)); intro v1243 w3 ho4 hb hg_ hnew_; clear hg_ hnew_; (rw [← Ny1242.out] at ho4); have n0_ := Aside0.mk (Kd.R_lower ho4 (below_size HB.out)); have n1_ := Aside0.mk (below_step HB.out hb); clear HB; have HO1244 := n0_; have HB := n1_; clear n0_ n1_; clear hb ho4))
 go_loopg [5, 6, 11] k (fun kq v5 v6 v11 w' => ∃ (x5_1 : List ByteArray) (x6_1 : Int) (x11_1 : Int), v6 = .int .i64 x6_1 ∧ v11 = .int .i64 x11_1 ∧ Aside0 (impl_cut.l0 kq a0 a1 x5_1 x6_1 (a0.size : Int) x11_1 = some r) ∧ Aside0 (kq ≤ k) ∧ Aside0 (Kd.R Kd.string 9 w' w.heap.size (fun _ => True) v5 x5_1) ∧ Aside0 (Below w.heap.size w w'))
 case atStart => exact ⟨(y1242), (0), (0), rfl, rfl, H', ⟨Nat.le_refl _⟩, ⟨HO1244.out⟩, ⟨HB.out⟩⟩
 case round =>
  clear H'
  obtain ⟨x5_1, x6_1, x11_1, rfl, rfl, HA, HK1, HO_5, HB⟩ := hrel
  cases gk with
  | zero => exact absurd HA.out (by simp [impl_cut.l0])
  | succ k1 =>
   have H := HA.out
   clear HA
   simp only [impl_cut.l0] at H
   by_cases c5 : x11_1 < (a0.size : Int)
   ·rw [if_pos c5] at H
    have c5b0 : decide (x11_1 < (a0.size : Int)) = true := decide_eq_true c5
    clear c5
    by_cases c6 : 0 ≤ x11_1
    ·rw [if_pos c6] at H
     have c6b0 : decide (0 ≤ x11_1) = true := decide_eq_true c6
     clear c6
     by_cases c7 : x11_1 < (a0.size : Int)
     ·rw [if_pos c7] at H
      have c7b0 : decide (x11_1 < (a0.size : Int)) = true := decide_eq_true c7
      clear c7
      by_cases c9 : (bt a0 x11_1) = a1
      ·rw [if_pos c9] at H
       have c9b0 : ((bt a0 x11_1) == a1) = true := beq_iff_eq.mpr c9
       have c9b1 : ((bt a0 x11_1) != a1) = false := bne_eq_false_iff_eq.mpr c9
       clear c9
       by_cases c10 : 0 ≤ x6_1
       ·rw [if_pos c10] at H
        have c10b0 := eq_true c10
        have c10b1 : decide (0 ≤ x6_1) = true := decide_eq_true c10
        clear c10
        by_cases c11 : x6_1 ≤ x11_1
        ·rw [if_pos c11] at H
         have c11b0 := eq_true c11
         have c11b1 : decide (x6_1 ≤ x11_1) = true := decide_eq_true c11
         clear c11
         by_cases c12 : x11_1 ≤ (a0.size : Int)
         ·rw [if_pos c12] at H
          have c12b0 := eq_true c12
          have c12b1 : decide (x11_1 ≤ (a0.size : Int)) = true := decide_eq_true c12
          clear c12
          by_cases c13 : x5_1.length < 8796093022208
          ·rw [if_pos c13] at H
           have LMc13 := Aside0.mk c13
           clear c13
           obtain ⟨y1245, hy1245⟩ : ∃ y_ : List ByteArray, y_ = (x5_1 ++ [a0.extract (x6_1 : Int).toNat (x11_1 : Int).toNat]) := ⟨_, rfl⟩
           replace H : (impl_cut.l0 k1 a0 a1 y1245 (wrap64 (x11_1 + 1)) (a0.size : Int) (wrap64 (x11_1 + 1))) = some r := by (rw [hy1245]; with_reducible exact H)
           have Ny1245 := Aside0.mk hy1245
           clear hy1245
           have H' := Aside0.mk H
           clear H
           have p8 : 0 ≤ (x11_1 : Int) := of_decide_eq_true (by (with_reducible assumption))
           have q8 : x11_1 < (a0.size : Int) := of_decide_eq_true (by (with_reducible assumption))
           have hx8 := bt_at a0 x11_1
           replace p8 := eq_true p8
           replace q8 := eq_true q8
           go_wp2_with (((with_reducible refine gate_builtin (b := .append) (xs := #[.tmp 19, .tmp 24]) rfl ?_); at_builtin; refine Kd.R_append Kd.string (w0 := w) w.heap.size rfl (.tmp 19) (.tmp 24) 134 9 (.string ⟨#[]⟩) 16 rfl Try.underlying134 info9 rfl (by decide) (by omega) u5 x5_1 (a0.extract (x6_1 : Int).toNat (x11_1 : Int).toNat) [.string (a0.extract (x6_1 : Int).toNat (x11_1 : Int).toNat)] (fun _ => True) (fun _ => False) rfl rfl ?aP (fun _ hk => hk.elim) ?aF ?aO ?aB ?aS ?aL ?_; (case aP => exact rfl); (case aB => exact HB.out); (case aF => exact (fun _ _ => trivial)); (case aO => exact HO_5.out); (case aS => exact (below_size HB.out)); (case aL => have := LMc13.out; omega); intro v1246 w14 ho hb hg hat; rw [← Ny1245.out] at ho; have n0_ := Aside0.mk (hb); have n1_ := Aside0.mk (ho); clear HB; clear HO_5; have HB := n0_; have HO1247 := n1_; clear n0_ n1_; clear ho hb hg hat))
           go_roundg k1
           case measure => have := HK1.out; omega
           case rel => exact ⟨(y1245), (wrap64 (x11_1 + 1)), (wrap64 (x11_1 + 1)), rfl, rfl, H', ⟨by have := HK1.out; omega⟩, ⟨HO1247.out⟩, ⟨HB.out⟩⟩
          ·rw [if_neg c13] at H
           exact absurd H (by simp)
         ·rw [if_neg c12] at H
          exact absurd H (by simp)
        ·rw [if_neg c11] at H
         exact absurd H (by simp)
       ·rw [if_neg c10] at H
        exact absurd H (by simp)
      ·rw [if_neg c9] at H
       have c9b0 : ((bt a0 x11_1) == a1) = false := beq_eq_false_iff_ne.mpr c9
       have c9b1 : ((bt a0 x11_1) != a1) = true := bne_iff_ne.mpr c9
       have H' := Aside0.mk H
       clear H
       have p8 : 0 ≤ (x11_1 : Int) := of_decide_eq_true (by (with_reducible assumption))
       have q8 : x11_1 < (a0.size : Int) := of_decide_eq_true (by (with_reducible assumption))
       have hx8 := bt_at a0 x11_1
       replace p8 := eq_true p8
       replace q8 := eq_true q8
       go_wp2
       go_roundg k1
       case measure => have := HK1.out; omega
       case rel => exact ⟨(x5_1), (x6_1), (wrap64 (x11_1 + 1)), rfl, rfl, H', ⟨by have := HK1.out; omega⟩, ⟨HO_5.out⟩, ⟨HB.out⟩⟩
     ·rw [if_neg c7] at H
      exact absurd H (by simp)
    ·rw [if_neg c6] at H
     exact absurd H (by simp)
   ·rw [if_neg c5] at H
    have c5b0 : decide (x11_1 < (a0.size : Int)) = false := decide_eq_false c5
    clear c5
    by_cases c15 : 0 ≤ x6_1
    ·rw [if_pos c15] at H
     have c15b0 := eq_true c15
     have c15b1 : decide (0 ≤ x6_1) = true := decide_eq_true c15
     clear c15
     by_cases c16 : x6_1 ≤ (a0.size : Int)
     ·rw [if_pos c16] at H
      have c16b0 := eq_true c16
      have c16b1 : decide (x6_1 ≤ (a0.size : Int)) = true := decide_eq_true c16
      clear c16
      by_cases c17 : x5_1.length < 8796093022208
      ·rw [if_pos c17] at H
       have LMc17 := Aside0.mk c17
       clear c17
       obtain ⟨y1248, hy1248⟩ : ∃ y_ : List ByteArray, y_ = (x5_1 ++ [a0.extract (x6_1 : Int).toNat a0.size]) := ⟨_, rfl⟩
       replace H : (some y1248) = some r := by (rw [hy1248]; with_reducible exact H)
       have Ny1248 := Aside0.mk hy1248
       clear hy1248
       obtain rfl := Option.some.inj H
       go_wp2_with (((with_reducible refine gate_builtin (b := .append) (xs := #[.tmp 29, .tmp 33]) rfl ?_); at_builtin; refine Kd.R_append Kd.string (w0 := w) w.heap.size rfl (.tmp 29) (.tmp 33) 134 9 (.string ⟨#[]⟩) 16 rfl Try.underlying134 info9 rfl (by decide) (by omega) u5 x5_1 (a0.extract (x6_1 : Int).toNat a0.size) [.string (a0.extract (x6_1 : Int).toNat a0.size)] (fun _ => True) (fun _ => False) rfl rfl ?aP (fun _ hk => hk.elim) ?aF ?aO ?aB ?aS ?aL ?_; (case aP => exact rfl); (case aB => exact HB.out); (case aF => exact (fun _ _ => trivial)); (case aO => exact HO_5.out); (case aS => exact (below_size HB.out)); (case aL => have := LMc17.out; omega); intro v1249 w18 ho hb hg hat; rw [← Ny1248.out] at ho; have n0_ := Aside0.mk (hb); have n1_ := Aside0.mk (ho); clear HB; clear HO_5; have HB := n0_; have HO1250 := n1_; clear n0_ n1_; clear ho hb hg hat))
       go_ret
       exact ⟨_, rfl, HO1250.out, HB.out⟩
      ·rw [if_neg c17] at H
       exact absurd H (by simp)
     ·rw [if_neg c16] at H
      exact absurd H (by simp)
    ·rw [if_neg c15] at H
     exact absurd H (by simp)

mutual
def impl_ParseInt.j0 : Nat → ByteArray → ByteArray → Bool → Option (Int × Bool)
 | 0, _, _, _ => none
 | k + 1, x0, x4, x15 => if x15 = true then (if 1 ≤ (x0.size : Int) then (impl_ParseInt.j1 k x0 (x0.extract 1 x0.size)) else (none)) else (impl_ParseInt.j1 k x0 x4)
def impl_ParseInt.j1 : Nat → ByteArray → ByteArray → Option (Int × Bool)
 | 0, _, _ => none
 | k + 1, x0, x4 => if (x4.size : Int) < 1 then (impl_ParseInt.j2 k x0 x4 true) else (impl_ParseInt.j2 k x0 x4 (decide ((x4.size : Int) > 9)))
def impl_ParseInt.j2 : Nat → ByteArray → ByteArray → Bool → Option (Int × Bool)
 | 0, _, _, _ => none
 | k + 1, x0, x4, x25 => if x25 = true then (some (0, false)) else (impl_ParseInt.l0 k x0 x4 0 (x4.size : Int) 0)
def impl_ParseInt.l0 : Nat → ByteArray → ByteArray → Int → Int → Int → Option (Int × Bool)
 | 0, _, _, _, _, _ => none
 | k + 1, x0, x4, x5, x27, x28 => if x28 < x27 then (if 0 ≤ x28 then (if x28 < (x4.size : Int) then (if (bt x4 x28) < 48 then (some (0, false)) else (if (bt x4 x28) > 57 then (some (0, false)) else (impl_ParseInt.l0 k x0 x4 (wrap64 ((wrap64 (10 * x5)) + (((bt x4 x28) - 48) % 256))) x27 (wrap64 (x28 + 1))))) else (none)) else (none)) else (if (x4.size : Int) < (x0.size : Int) then ((impl_FormatInt.f k (wrap64 (-x5))).bind fun t1251 => (if t1251.toList = x0.toList then (some (wrap64 (-x5), true)) else (some (0, false)))) else ((impl_FormatInt.f k x5).bind fun t1252 => (if t1252.toList = x0.toList then (some (x5, true)) else (some (0, false)))))
end
def impl_ParseInt.f (k : Nat) (a0 : ByteArray) : Option (Int × Bool) := if (a0.size : Int) > 0 then (if 0 < (a0.size : Int) then (impl_ParseInt.j0 k a0 a0 ((bt a0 0) == 45)) else (none)) else (impl_ParseInt.j0 k a0 a0 false)
theorem impl_ParseInt.calls (k : Nat) (a0 : ByteArray) (r1 : Int) (r2 : Bool) (w : World) (h : impl_ParseInt.f k a0 = some (r1, r2)) :
  Calls Try.prog 140 #[.string a0] w fun e w' => e = .returned (.tuple #[.int .i64 r1, .bool r2]) ∧ Below w.heap.size w w' := by
 have HB := Aside0.mk (Below.refl w.heap.size w)
 have H : (if (a0.size : Int) > 0 then (if 0 < (a0.size : Int) then (impl_ParseInt.j0 k a0 a0 ((bt a0 0) == 45)) else (none)) else (impl_ParseInt.j0 k a0 a0 false)) = some (r1, r2) := h
 clear h
 have HC2 := Aside0.mk H
 clear H
 go_enter Try.func140, Try.ntmps140
 go_upto_region 2 with (fail)
 go_cut [15] (fun v15 wc => ∃ (kq : Nat) (x15_1 : Bool), v15 = .bool x15_1 ∧ Aside0 (impl_ParseInt.j0 kq a0 a0 x15_1 = some (r1, r2)) ∧ Aside0 (kq ≤ k) ∧ Aside0 (Below w.heap.size w wc))
 case first =>
  have H := HC2.out
  clear HC2
  by_cases c3 : (a0.size : Int) > 0
  ·rw [if_pos c3] at H
   have c3b0 : decide (0 < (a0.size : Int)) = true := decide_eq_true c3
   have c3b1 : decide (0 < a0.size) = true := decide_eq_true (by omega)
   clear c3
   (skip)
   by_cases c4 : 0 < (a0.size : Int)
   ·rw [if_pos c4] at H
    have c4b0 : decide (0 < (a0.size : Int)) = true := decide_eq_true c4
    have c4b1 : decide (0 < a0.size) = true := decide_eq_true (by omega)
    clear c4
    have H' := Aside0.mk H
    clear H
    have p5 : 0 ≤ (0 : Int) := (by omega)
    have q5 : 0 < a0.size := (by have : (0 : Int) < (a0.size : Int) := of_decide_eq_true (by (with_reducible assumption)); omega)
    have hx5 : ∀ h : 0 < a0.size, ((a0[0]'h).toNat : Int) = bt a0 0 := bt_at a0 0
    clear p5
    have qi5 : (0 < (a0.size : Int)) = True := eq_true (of_decide_eq_true (by (with_reducible assumption)))
    replace q5 := eq_true q5
    go_wp2
    go_meet
    case rel => exact ⟨_, (((bt a0 0) == 45)), rfl, H', ⟨by omega⟩, ⟨HB.out⟩⟩
   ·rw [if_neg c4] at H
    exact absurd H (by simp)
  ·rw [if_neg c3] at H
   have c3b0 : decide (0 < (a0.size : Int)) = false := decide_eq_false c3
   have c3b1 : decide (0 < a0.size) = false := decide_eq_false (by omega)
   clear c3
   (skip)
   have H' := Aside0.mk H
   clear H
   go_wp2
   go_meet
   case rel => exact ⟨_, (false), rfl, H', ⟨by omega⟩, ⟨HB.out⟩⟩
 case rest =>
  clear HC2
  obtain ⟨kq, x15_1, rfl, HA, HJ1, HB⟩ := hcut
  cases kq with
  | zero => exact absurd HA.out (by simp [impl_ParseInt.j0])
  | succ kj1 =>
   have H := HA.out
   clear HA
   simp only [impl_ParseInt.j0] at H
   have HC6 := Aside0.mk H
   clear H
   go_upto_if 15 with (fail)
   go_cut [4] (fun v4 wc => ∃ (kq : Nat) (x4_5 : ByteArray), v4 = .string x4_5 ∧ Aside0 (impl_ParseInt.j1 kq a0 x4_5 = some (r1, r2)) ∧ Aside0 (kq ≤ kj1) ∧ Aside0 (Below w.heap.size w wc))
   case first =>
    have H := HC6.out
    clear HC6
    by_cases c7 : x15_1 = true
    ·subst c7
     rw [if_pos rfl] at H
     by_cases c8 : 1 ≤ (a0.size : Int)
     ·rw [if_pos c8] at H
      have c8b0 := eq_true c8
      have c8b1 : decide (1 ≤ (a0.size : Int)) = true := decide_eq_true c8
      clear c8
      have H' := Aside0.mk H
      clear H
      go_wp2
      go_meet
      case rel => exact ⟨_, (a0.extract 1 a0.size), rfl, H', ⟨by have := HJ1.out; omega⟩, ⟨HB.out⟩⟩
     ·rw [if_neg c8] at H
      exact absurd H (by simp)
    ·replace c7 := Bool.eq_false_iff.mpr c7
     subst c7
     rw [if_neg (show ¬ (false = true) by decide)] at H
     have H' := Aside0.mk H
     clear H
     go_wp2
     go_meet
     case rel => exact ⟨_, (a0), rfl, H', ⟨by have := HJ1.out; omega⟩, ⟨HB.out⟩⟩
   case rest =>
    clear HC6
    obtain ⟨kq, x4_5, rfl, HA, HJ5, HB⟩ := hcut
    cases kq with
    | zero => exact absurd HA.out (by simp [impl_ParseInt.j1])
    | succ kj5 =>
     have H := HA.out
     clear HA
     simp only [impl_ParseInt.j1] at H
     have HC9 := Aside0.mk H
     clear H
     go_upto_region 4 with (fail)
     go_cut [25] (fun v25 wc => ∃ (kq : Nat) (x25_8 : Bool), v25 = .bool x25_8 ∧ Aside0 (impl_ParseInt.j2 kq a0 x4_5 x25_8 = some (r1, r2)) ∧ Aside0 (kq ≤ kj5) ∧ Aside0 (Below w.heap.size w wc))
     case first =>
      have H := HC9.out
      clear HC9
      by_cases c10 : (x4_5.size : Int) < 1
      ·rw [if_pos c10] at H
       have c10b0 : decide ((x4_5.size : Int) < 1) = true := decide_eq_true c10
       have c10b1 : decide (x4_5.size < 1) = true := decide_eq_true (by omega)
       clear c10
       (skip)
       have H' := Aside0.mk H
       clear H
       go_wp2
       go_meet
       case rel => exact ⟨_, (true), rfl, H', ⟨by have := HJ1.out; have := HJ5.out; omega⟩, ⟨HB.out⟩⟩
      ·rw [if_neg c10] at H
       have c10b0 : decide ((x4_5.size : Int) < 1) = false := decide_eq_false c10
       have c10b1 : decide (x4_5.size < 1) = false := decide_eq_false (by omega)
       clear c10
       (skip)
       have H' := Aside0.mk H
       clear H
       go_wp2
       go_meet
       case rel => exact ⟨_, (decide ((x4_5.size : Int) > 9)), rfl, H', ⟨by have := HJ1.out; have := HJ5.out; omega⟩, ⟨HB.out⟩⟩
     case rest =>
      clear HC9
      obtain ⟨kq, x25_8, rfl, HA, HJ8, HB⟩ := hcut
      cases kq with
      | zero => exact absurd HA.out (by simp [impl_ParseInt.j2])
      | succ kj8 =>
       have H := HA.out
       clear HA
       simp only [impl_ParseInt.j2] at H
       by_cases c11 : x25_8 = true
       ·subst c11
        rw [if_pos rfl] at H
        simp only [Option.some.injEq, Prod.mk.injEq] at H
        obtain ⟨rfl, rfl⟩ := H
        go_wp2
        go_ret2
        exact ⟨rfl, HB.out⟩
       ·replace c11 := Bool.eq_false_iff.mpr c11
        subst c11
        rw [if_neg (show ¬ (false = true) by decide)] at H
        have H' := Aside0.mk H
        clear H
        go_wp2
        go_loopg [5, 28] kj8 (fun kq v5 v28 w' => ∃ (x5_4 : Int) (x28_4 : Int), v5 = .int .i64 x5_4 ∧ v28 = .int .i64 x28_4 ∧ Aside0 (impl_ParseInt.l0 kq a0 x4_5 x5_4 (x4_5.size : Int) x28_4 = some (r1, r2)) ∧ Aside0 (kq ≤ kj8) ∧ Aside0 (Below w.heap.size w w'))
        case atStart => exact ⟨(0), (0), rfl, rfl, H', ⟨Nat.le_refl _⟩, ⟨HB.out⟩⟩
        case round =>
         clear H'
         obtain ⟨x5_4, x28_4, rfl, rfl, HA, HK4, HB⟩ := hrel
         cases gk with
         | zero => exact absurd HA.out (by simp [impl_ParseInt.l0])
         | succ k4 =>
          have H := HA.out
          clear HA
          simp only [impl_ParseInt.l0] at H
          by_cases c12 : x28_4 < (x4_5.size : Int)
          ·rw [if_pos c12] at H
           have c12b0 : decide (x28_4 < (x4_5.size : Int)) = true := decide_eq_true c12
           clear c12
           by_cases c13 : 0 ≤ x28_4
           ·rw [if_pos c13] at H
            have c13b0 : decide (0 ≤ x28_4) = true := decide_eq_true c13
            clear c13
            by_cases c14 : x28_4 < (x4_5.size : Int)
            ·rw [if_pos c14] at H
             have c14b0 : decide (x28_4 < (x4_5.size : Int)) = true := decide_eq_true c14
             clear c14
             by_cases c16 : (bt x4_5 x28_4) < 48
             ·rw [if_pos c16] at H
              have c16b0 : decide ((bt x4_5 x28_4) < 48) = true := decide_eq_true c16
              clear c16
              simp only [Option.some.injEq, Prod.mk.injEq] at H
              obtain ⟨rfl, rfl⟩ := H
              have p15 : 0 ≤ (x28_4 : Int) := of_decide_eq_true (by (with_reducible assumption))
              have q15 : x28_4 < (x4_5.size : Int) := of_decide_eq_true (by (with_reducible assumption))
              have hx15 := bt_at x4_5 x28_4
              replace p15 := eq_true p15
              replace q15 := eq_true q15
              go_wp2
              go_ret2
              exact ⟨rfl, HB.out⟩
             ·rw [if_neg c16] at H
              have c16b0 : decide ((bt x4_5 x28_4) < 48) = false := decide_eq_false c16
              clear c16
              by_cases c18 : (bt x4_5 x28_4) > 57
              ·rw [if_pos c18] at H
               have c18b0 : decide (57 < (bt x4_5 x28_4)) = true := decide_eq_true c18
               clear c18
               simp only [Option.some.injEq, Prod.mk.injEq] at H
               obtain ⟨rfl, rfl⟩ := H
               have p15 : 0 ≤ (x28_4 : Int) := of_decide_eq_true (by (with_reducible assumption))
               have q15 : x28_4 < (x4_5.size : Int) := of_decide_eq_true (by (with_reducible assumption))
               have hx15 := bt_at x4_5 x28_4
               replace p15 := eq_true p15
               replace q15 := eq_true q15
               have p17 : 0 ≤ (x28_4 : Int) := of_decide_eq_true (by (with_reducible assumption))
               have q17 : x28_4 < (x4_5.size : Int) := of_decide_eq_true (by (with_reducible assumption))
               have hx17 := bt_at x4_5 x28_4
               replace p17 := eq_true p17
               replace q17 := eq_true q17
               go_wp2
               go_ret2
               exact ⟨rfl, HB.out⟩
              ·rw [if_neg c18] at H
               have c18b0 : decide (57 < (bt x4_5 x28_4)) = false := decide_eq_false c18
               clear c18
               have H' := Aside0.mk H
               clear H
               have p15 : 0 ≤ (x28_4 : Int) := of_decide_eq_true (by (with_reducible assumption))
               have q15 : x28_4 < (x4_5.size : Int) := of_decide_eq_true (by (with_reducible assumption))
               have hx15 := bt_at x4_5 x28_4
               replace p15 := eq_true p15
               replace q15 := eq_true q15
               have p17 : 0 ≤ (x28_4 : Int) := of_decide_eq_true (by (with_reducible assumption))
               have q17 : x28_4 < (x4_5.size : Int) := of_decide_eq_true (by (with_reducible assumption))
               have hx17 := bt_at x4_5 x28_4
               replace p17 := eq_true p17
               replace q17 := eq_true q17
               have p19 : 0 ≤ (x28_4 : Int) := of_decide_eq_true (by (with_reducible assumption))
               have q19 : x28_4 < (x4_5.size : Int) := of_decide_eq_true (by (with_reducible assumption))
               have hx19 := bt_at x4_5 x28_4
               replace p19 := eq_true p19
               replace q19 := eq_true q19
               go_wp2
               go_roundg k4
               case measure => have := HJ1.out; have := HJ5.out; have := HJ8.out; have := HK4.out; omega
               case rel => exact ⟨(wrap64 ((wrap64 (10 * x5_4)) + (((bt x4_5 x28_4) - 48) % 256))), (wrap64 (x28_4 + 1)), rfl, rfl, H', ⟨by have := HJ1.out; have := HJ5.out; have := HJ8.out; have := HK4.out; omega⟩, ⟨HB.out⟩⟩
            ·rw [if_neg c14] at H
             exact absurd H (by simp)
           ·rw [if_neg c13] at H
            exact absurd H (by simp)
          ·rw [if_neg c12] at H
           have c12b0 : decide (x28_4 < (x4_5.size : Int)) = false := decide_eq_false c12
           clear c12
           by_cases c20 : (x4_5.size : Int) < (a0.size : Int)
           ·rw [if_pos c20] at H
            have c20b0 : decide ((x4_5.size : Int) < (a0.size : Int)) = true := decide_eq_true c20
            have c20b1 : decide (x4_5.size < a0.size) = true := decide_eq_true (Int.ofNat_lt.mp c20)
            clear c20
            replace H := Option.bind_eq_some_iff.mp H
            obtain ⟨t1251, A210, H⟩ := H
            have A21 := Aside0.mk A210
            clear A210
            by_cases c22 : t1251.toList = a0.toList
            ·rw [if_pos c22] at H
             have c22b0 : (t1251.toList == a0.toList) = true := beq_iff_eq.mpr c22
             have c22b1 : (t1251.toList != a0.toList) = false := bne_eq_false_iff_eq.mpr c22
             clear c22
             simp only [Option.some.injEq, Prod.mk.injEq] at H
             obtain ⟨rfl, rfl⟩ := H
             go_wp2_with (((with_reducible refine gate_callee (f := 155) rfl ?_); refine goesL_ (some 58) rfl rfl Try.func155 (by kernel_rfl) rfl #[.int .i64 (wrap64 (-x5_4))] rfl (by (try simp only [List.map_toArray, List.map_cons, List.map_nil]); rfl) ?_; (with_reducible refine (impl_FormatInt.calls k4 (wrap64 (-x5_4)) t1251 _ A21.out).mono ?_); rintro e w23 ⟨rfl, hb⟩; refine ⟨_, rfl, ?_⟩; have n0_ := Aside0.mk (below_step HB.out hb); clear HB; have HB := n0_; clear n0_; (try clear hb)))
             go_ret2
             exact ⟨rfl, HB.out⟩
            ·rw [if_neg c22] at H
             have c22b0 : (t1251.toList == a0.toList) = false := beq_eq_false_iff_ne.mpr c22
             have c22b1 : (t1251.toList != a0.toList) = true := bne_iff_ne.mpr c22
             simp only [Option.some.injEq, Prod.mk.injEq] at H
             obtain ⟨rfl, rfl⟩ := H
             go_wp2_with (((with_reducible refine gate_callee (f := 155) rfl ?_); refine goesL_ (some 58) rfl rfl Try.func155 (by kernel_rfl) rfl #[.int .i64 (wrap64 (-x5_4))] rfl (by (try simp only [List.map_toArray, List.map_cons, List.map_nil]); rfl) ?_; (with_reducible refine (impl_FormatInt.calls k4 (wrap64 (-x5_4)) t1251 _ A21.out).mono ?_); rintro e w24 ⟨rfl, hb⟩; refine ⟨_, rfl, ?_⟩; have n0_ := Aside0.mk (below_step HB.out hb); clear HB; have HB := n0_; clear n0_; (try clear hb)))
             go_ret2
             exact ⟨rfl, HB.out⟩
           ·rw [if_neg c20] at H
            have c20b0 : decide ((x4_5.size : Int) < (a0.size : Int)) = false := decide_eq_false c20
            have c20b1 : decide (x4_5.size < a0.size) = false := decide_eq_false (fun h => c20 (Int.ofNat_lt.mpr h))
            clear c20
            replace H := Option.bind_eq_some_iff.mp H
            obtain ⟨t1252, A250, H⟩ := H
            have A25 := Aside0.mk A250
            clear A250
            by_cases c26 : t1252.toList = a0.toList
            ·rw [if_pos c26] at H
             have c26b0 : (t1252.toList == a0.toList) = true := beq_iff_eq.mpr c26
             have c26b1 : (t1252.toList != a0.toList) = false := bne_eq_false_iff_eq.mpr c26
             clear c26
             simp only [Option.some.injEq, Prod.mk.injEq] at H
             obtain ⟨rfl, rfl⟩ := H
             go_wp2_with (((with_reducible refine gate_callee (f := 155) rfl ?_); refine goesL_ (some 58) rfl rfl Try.func155 (by kernel_rfl) rfl #[.int .i64 x5_4] rfl (by (try simp only [List.map_toArray, List.map_cons, List.map_nil]); rfl) ?_; (with_reducible refine (impl_FormatInt.calls k4 x5_4 t1252 _ A25.out).mono ?_); rintro e w27 ⟨rfl, hb⟩; refine ⟨_, rfl, ?_⟩; have n0_ := Aside0.mk (below_step HB.out hb); clear HB; have HB := n0_; clear n0_; (try clear hb)))
             go_ret2
             exact ⟨rfl, HB.out⟩
            ·rw [if_neg c26] at H
             have c26b0 : (t1252.toList == a0.toList) = false := beq_eq_false_iff_ne.mpr c26
             have c26b1 : (t1252.toList != a0.toList) = true := bne_iff_ne.mpr c26
             simp only [Option.some.injEq, Prod.mk.injEq] at H
             obtain ⟨rfl, rfl⟩ := H
             go_wp2_with (((with_reducible refine gate_callee (f := 155) rfl ?_); refine goesL_ (some 58) rfl rfl Try.func155 (by kernel_rfl) rfl #[.int .i64 x5_4] rfl (by (try simp only [List.map_toArray, List.map_cons, List.map_nil]); rfl) ?_; (with_reducible refine (impl_FormatInt.calls k4 x5_4 t1252 _ A25.out).mono ?_); rintro e w28 ⟨rfl, hb⟩; refine ⟨_, rfl, ?_⟩; have n0_ := Aside0.mk (below_step HB.out hb); clear HB; have HB := n0_; clear n0_; (try clear hb)))
             go_ret2
             exact ⟨rfl, HB.out⟩

def impl_ParseRow.f (k : Nat) (a0 : ByteArray) : Option (Int × Int × Int × Bool) := (impl_cut.f k a0 46).bind fun t1254 => (if (t1254.length : Int) = 3 then (if 0 < (t1254.length : Int) then ((impl_ParseInt.f k (rdOf ByteArray.empty t1254 0)).bind fun bt1258 => (if 1 < (t1254.length : Int) then ((impl_ParseInt.f k (rdOf ByteArray.empty t1254 1)).bind fun bt1261 => (if 2 < (t1254.length : Int) then ((impl_ParseInt.f k (rdOf ByteArray.empty t1254 2)).bind fun bt1264 => (if bt1258.2 = true then (if bt1261.2 = true then (if bt1264.2 = true then ((impl_IsValidRow.f bt1258.1 bt1261.1 bt1264.1).bind fun t1267 => (if t1267 = true then (some (bt1258.1, bt1261.1, bt1264.1, true)) else (some (0, 0, 0, false)))) else (some (0, 0, 0, false))) else (some (0, 0, 0, false))) else (some (0, 0, 0, false)))) else (none))) else (none))) else (none)) else (some (0, 0, 0, false)))
theorem impl_ParseRow.calls (k : Nat) (a0 : ByteArray) (r1 : Int) (r2 : Int) (r3 : Int) (r4 : Bool) (w : World) (h : impl_ParseRow.f k a0 = some (r1, r2, r3, r4)) :
  Calls Try.prog 187 #[.string a0] w fun e w' => e = .returned (.tuple #[.agg #[.int .i64 r1, .int .i64 r2, .int .i64 r3], .bool r4]) ∧ Below w.heap.size w w' := by
 have hu60 := Try.underlying60
 have HB := Aside0.mk (Below.refl w.heap.size w)
 have H : ((impl_cut.f k a0 46).bind fun t1254 => (if (t1254.length : Int) = 3 then (if 0 < (t1254.length : Int) then ((impl_ParseInt.f k (rdOf ByteArray.empty t1254 0)).bind fun bt1258 => (if 1 < (t1254.length : Int) then ((impl_ParseInt.f k (rdOf ByteArray.empty t1254 1)).bind fun bt1261 => (if 2 < (t1254.length : Int) then ((impl_ParseInt.f k (rdOf ByteArray.empty t1254 2)).bind fun bt1264 => (if bt1258.2 = true then (if bt1261.2 = true then (if bt1264.2 = true then ((impl_IsValidRow.f bt1258.1 bt1261.1 bt1264.1).bind fun t1267 => (if t1267 = true then (some (bt1258.1, bt1261.1, bt1264.1, true)) else (some (0, 0, 0, false)))) else (some (0, 0, 0, false))) else (some (0, 0, 0, false))) else (some (0, 0, 0, false)))) else (none))) else (none))) else (none)) else (some (0, 0, 0, false)))) = some (r1, r2, r3, r4) := h
 clear h
 replace H := Option.bind_eq_some_iff.mp H
 obtain ⟨t1254, A20, H⟩ := H
 have A2 := Aside0.mk A20
 clear A20
 by_cases c3 : (t1254.length : Int) = 3
 ·rw [if_pos c3] at H
  have c3b0 : ((t1254.length : Int) == 3) = true := beq_iff_eq.mpr c3
  have c3b1 : ((t1254.length : Int) != 3) = false := bne_eq_false_iff_eq.mpr c3
  clear c3
  by_cases c4 : 0 < (t1254.length : Int)
  ·rw [if_pos c4] at H
   have c4b0 : decide (0 < (t1254.length : Int)) = true := decide_eq_true c4
   have c4b1 : decide (0 < t1254.length) = true := decide_eq_true (by omega)
   clear c4
   replace H := Option.bind_eq_some_iff.mp H
   obtain ⟨⟨t1258, t1259⟩, A50, H⟩ := H
   have A5 := Aside0.mk A50
   clear A50
   by_cases c6 : 1 < (t1254.length : Int)
   ·rw [if_pos c6] at H
    have c6b0 : decide (1 < (t1254.length : Int)) = true := decide_eq_true c6
    have c6b1 : decide (1 < t1254.length) = true := decide_eq_true (by omega)
    clear c6
    replace H := Option.bind_eq_some_iff.mp H
    obtain ⟨⟨t1261, t1262⟩, A70, H⟩ := H
    have A7 := Aside0.mk A70
    clear A70
    by_cases c8 : 2 < (t1254.length : Int)
    ·rw [if_pos c8] at H
     have c8b0 : decide (2 < (t1254.length : Int)) = true := decide_eq_true c8
     have c8b1 : decide (2 < t1254.length) = true := decide_eq_true (by omega)
     clear c8
     replace H := Option.bind_eq_some_iff.mp H
     obtain ⟨⟨t1264, t1265⟩, A90, H⟩ := H
     have A9 := Aside0.mk A90
     clear A90
     by_cases c10 : t1259 = true
     ·subst c10
      rw [if_pos rfl] at H
      by_cases c11 : t1262 = true
      ·subst c11
       rw [if_pos rfl] at H
       by_cases c12 : t1265 = true
       ·subst c12
        rw [if_pos rfl] at H
        replace H := Option.bind_eq_some_iff.mp H
        obtain ⟨t1267, A130, H⟩ := H
        have A13 := Aside0.mk A130
        clear A130
        by_cases c14 : t1267 = true
        ·subst c14
         rw [if_pos rfl] at H
         simp only [Option.some.injEq, Prod.mk.injEq] at H
         obtain ⟨rfl, rfl, rfl, rfl⟩ := H
         go_enter Try.func187, Try.ntmps187
         go_wp2_with (first | ((with_reducible refine gate_dst (N := 2) rfl ?_); refine box_event ?hg (N := 2) ?hd (cs := #[.int .i64 0, .int .i64 0, .int .i64 0]) (t := 60) ?hr ?_; (case hd => rfl); (case hg => rfl); (case hr => (go_simp; done)); intro gb1253 hg w15 hbox hb; have n0_ := Aside0.mk (below_step HB.out hb); have n1_ := Aside0.mk (hbox); have n2_ := Aside0.mk ((by rw [hg]; exact (below_size HB.out) : w.heap.size ≤ gb1253)); have n3_ := Aside0.mk ((by rw [hg]; exact (below_size HB.out) : w.heap.size ≤ gb1253)); clear HB; have HB := n0_; have BK1253 := n1_; have GW1253 := n2_; have GE1253 := n3_; clear n0_ n1_ n2_ n3_; clear hb hbox hg) | ((with_reducible refine gate_callee (f := 139) rfl ?_); refine goesL_ (some 13) rfl rfl Try.func139 (by kernel_rfl) rfl #[.string a0, .int .u8 46] rfl (by (try simp only [List.map_toArray, List.map_cons, List.map_nil]); rfl) ?_; (with_reducible refine (impl_cut.calls k a0 46 t1254 _ A2.out).mono ?_); rintro e w16 ⟨v1255, rfl, ho0, hb⟩; refine ⟨_, rfl, ?_⟩; have n0_ := Aside0.mk (Kd.R_lower ho0 (below_size HB.out)); have n1_ := Aside0.mk (blk_below (g := gb1253) (o := .cells #[.int .i64 0, .int .i64 0, .int .i64 0] 60 (0, 0)) BK1253.out hb); have n2_ := Aside0.mk (below_step HB.out hb); clear BK1253; clear HB; have HO1256 := n0_; have BK1253 := n1_; have HB := n2_; clear n0_ n1_ n2_; (try clear hb); (try clear ho0); obtain ⟨Ao17, co17, eo17⟩ := Kd.R_slice HO1256.out; subst eo17; have p1257 : 0 ≤ (0 : Int) := (by omega); have q1257 : 0 < (t1254.length : Int) := of_decide_eq_true (by (with_reducible assumption)); obtain ⟨ad1257, e1257, hx1257_0⟩ := Kd.at_string (Kd.R_reads' HO1256.out).2.2 0 p1257 q1257; cases e1257; have qi1257 : (0 < t1254.length) = True := eq_true (by omega); (try rw [show ((0 : Int)).toNat = 0 from rfl] at hx1257_0); (try rw [Addr.add_zero'] at hx1257_0); replace p1257 := eq_true p1257; replace q1257 := eq_true q1257) | ((with_reducible refine gate_callee (f := 140) rfl ?_); refine goesL_ (some 22) rfl rfl Try.func140 (by kernel_rfl) rfl #[.string (rdOf ByteArray.empty t1254 0)] rfl (by (try simp only [List.map_toArray, List.map_cons, List.map_nil]); rfl) ?_; (with_reducible refine (impl_ParseInt.calls k (rdOf ByteArray.empty t1254 0) t1258 true _ A5.out).mono ?_); rintro e w18 ⟨rfl, hb⟩; refine ⟨_, rfl, ?_⟩; have n0_ := Aside0.mk (Kd.R_below HO1256.out hb); have n1_ := Aside0.mk (blk_below (g := gb1253) (o := .cells #[.int .i64 0, .int .i64 0, .int .i64 0] 60 (0, 0)) BK1253.out hb); have n2_ := Aside0.mk (below_step HB.out hb); clear HO1256; clear BK1253; clear HB; have HO1256 := n0_; have BK1253 := n1_; have HB := n2_; clear n0_ n1_ n2_; (try clear hb); have p1260 : 0 ≤ (1 : Int) := (by omega); have q1260 : 1 < (t1254.length : Int) := of_decide_eq_true (by (with_reducible assumption)); obtain ⟨ad1260, e1260, hx1260_0⟩ := Kd.at_string (Kd.R_reads' HO1256.out).2.2 1 p1260 q1260; obtain rfl : ad1257 = ad1260 := (by injection e1260); (try simp only [show (1 : Int).toNat = 1 from rfl, Nat.reduceMul, Nat.reduceEqDiff, Go.Addr.add, ↓reduceIte] at hx1260_0); have qi1260 : (1 < t1254.length) = True := eq_true (by omega); (try rw [show ((1 : Int)).toNat = 1 from rfl] at hx1260_0); replace p1260 := eq_true p1260; replace q1260 := eq_true q1260) | ((with_reducible refine gate_callee (f := 140) rfl ?_); refine goesL_ (some 29) rfl rfl Try.func140 (by kernel_rfl) rfl #[.string (rdOf ByteArray.empty t1254 1)] rfl (by (try simp only [List.map_toArray, List.map_cons, List.map_nil]); rfl) ?_; (with_reducible refine (impl_ParseInt.calls k (rdOf ByteArray.empty t1254 1) t1261 true _ A7.out).mono ?_); rintro e w19 ⟨rfl, hb⟩; refine ⟨_, rfl, ?_⟩; have n0_ := Aside0.mk (Kd.R_below HO1256.out hb); have n1_ := Aside0.mk (blk_below (g := gb1253) (o := .cells #[.int .i64 0, .int .i64 0, .int .i64 0] 60 (0, 0)) BK1253.out hb); have n2_ := Aside0.mk (below_step HB.out hb); clear HO1256; clear BK1253; clear HB; have HO1256 := n0_; have BK1253 := n1_; have HB := n2_; clear n0_ n1_ n2_; (try clear hb); have p1263 : 0 ≤ (2 : Int) := (by omega); have q1263 : 2 < (t1254.length : Int) := of_decide_eq_true (by (with_reducible assumption)); obtain ⟨ad1263, e1263, hx1263_0⟩ := Kd.at_string (Kd.R_reads' HO1256.out).2.2 2 p1263 q1263; obtain rfl : ad1257 = ad1263 := (by injection e1263); (try simp only [show (2 : Int).toNat = 2 from rfl, Nat.reduceMul, Nat.reduceEqDiff, Go.Addr.add, ↓reduceIte] at hx1263_0); have qi1263 : (2 < t1254.length) = True := eq_true (by omega); (try rw [show ((2 : Int)).toNat = 2 from rfl] at hx1263_0); replace p1263 := eq_true p1263; replace q1263 := eq_true q1263) | ((with_reducible refine gate_callee (f := 140) rfl ?_); refine goesL_ (some 36) rfl rfl Try.func140 (by kernel_rfl) rfl #[.string (rdOf ByteArray.empty t1254 2)] rfl (by (try simp only [List.map_toArray, List.map_cons, List.map_nil]); rfl) ?_; (with_reducible refine (impl_ParseInt.calls k (rdOf ByteArray.empty t1254 2) t1264 true _ A9.out).mono ?_); rintro e w20 ⟨rfl, hb⟩; refine ⟨_, rfl, ?_⟩; have n0_ := Aside0.mk (Kd.R_below HO1256.out hb); have n1_ := Aside0.mk (blk_below (g := gb1253) (o := .cells #[.int .i64 0, .int .i64 0, .int .i64 0] 60 (0, 0)) BK1253.out hb); have n2_ := Aside0.mk (below_step HB.out hb); clear HO1256; clear BK1253; clear HB; have HO1256 := n0_; have BK1253 := n1_; have HB := n2_; clear n0_ n1_ n2_; (try clear hb)) | ((with_reducible refine gate_dst (N := 11) rfl ?_); refine box_event ?hg (N := 11) ?hd (cs := #[.int .i64 0, .int .i64 0, .int .i64 0]) (t := 60) ?hr ?_; (case hd => rfl); (case hg => rfl); (case hr => (go_simp; done)); intro gb1266 hg w21 hbox hb; have n0_ := Aside0.mk (Kd.R_below HO1256.out hb); have n1_ := Aside0.mk (blk_below (g := gb1253) (o := .cells #[.int .i64 0, .int .i64 0, .int .i64 0] 60 (0, 0)) BK1253.out hb); have n2_ := Aside0.mk (below_step HB.out hb); have n3_ := Aside0.mk (hbox); have n4_ := Aside0.mk ((by rw [hg]; exact (below_size HB.out) : w.heap.size ≤ gb1266)); have n5_ := Aside0.mk ((by rw [hg]; exact (below_size HB.out) : w.heap.size ≤ gb1266)); have n6_ := Aside0.mk ((by rw [hg]; exact Nat.ne_of_lt (blk_lt (g := gb1253) (o := .cells #[.int .i64 0, .int .i64 0, .int .i64 0] 60 (0, 0)) BK1253.out) : gb1253 ≠ gb1266)); have n7_ := Aside0.mk ((by rw [hg]; exact Nat.ne_of_gt (blk_lt (g := gb1253) (o := .cells #[.int .i64 0, .int .i64 0, .int .i64 0] 60 (0, 0)) BK1253.out) : gb1266 ≠ gb1253)); clear HO1256; clear BK1253; clear HB; have HO1256 := n0_; have BK1253 := n1_; have HB := n2_; have BK1266 := n3_; have GW1266 := n4_; have GE1266 := n5_; have NB1253_1266 := n6_; have NB1266_1253 := n7_; clear n0_ n1_ n2_ n3_ n4_ n5_ n6_ n7_; clear hb hbox hg; have hnb22 := NB1266_1253.out; have hnc22 := NB1253_1266.out; have hcz23_0 : w21.cell? ⟨gb1266, 0, none⟩ = some (.int .i64 0) := (blk_cell BK1266.out 0).trans rfl; have hcz23_1 : w21.cell? ⟨gb1266, 1, none⟩ = some (.int .i64 0) := (blk_cell BK1266.out 1).trans rfl; have hcz23_2 : w21.cell? ⟨gb1266, 2, none⟩ = some (.int .i64 0) := (blk_cell BK1266.out 2).trans rfl; have hfz23_0 := blk_frozen BK1266.out 0; have hfz23_1 := blk_frozen BK1266.out 1; have hfz23_2 := blk_frozen BK1266.out 2) | (go_at_call 196; (with_reducible refine (impl_IsValidRow.calls t1258 t1261 t1264 true _ A13.out).mono ?_); rintro e w24 ⟨rfl, hb⟩; have n0_ := Aside0.mk (Kd.R_below (by exact (Kd.R_mono (Kd.R_far (p := ⟨gb1266, 2, none⟩) (Kd.R_far (p := ⟨gb1266, 1, none⟩) (Kd.R_far (p := ⟨gb1266, 0, none⟩) (Kd.R_types HO1256.out BK1266.out (by decide)) (fun _ hk => hk.2) (.int .i64 t1258)) (fun _ hk => hk.2) (.int .i64 t1261)) (fun _ hk => hk.2) (.int .i64 t1264)) (fun _ h_ => h_.1))) hb); have n1_ := Aside0.mk (blk_below (g := gb1253) (o := .cells #[.int .i64 0, .int .i64 0, .int .i64 0] 60 (0, 0)) (by refine blk_far ?_ NB1253_1266.out _; refine blk_far ?_ NB1253_1266.out _; refine blk_far ?_ NB1253_1266.out _; exact BK1253.out) hb); have n2_ := Aside0.mk (blk_below (g := gb1266) (o := .cells #[.int .i64 t1258, .int .i64 t1261, .int .i64 t1264] 60 (0, 0)) (by refine blk_put (cs := #[.int .i64 t1258, .int .i64 t1261, .int .i64 0]) ?_ 2 _ rfl; refine blk_put (cs := #[.int .i64 t1258, .int .i64 0, .int .i64 0]) ?_ 1 _ rfl; refine blk_put (cs := #[.int .i64 0, .int .i64 0, .int .i64 0]) ?_ 0 _ rfl; exact BK1266.out) hb); have n3_ := Aside0.mk (below_step (by repeat (with_reducible first | exact HB.out | refine below_set ?_ GE1266.out)) hb); clear HO1256; clear BK1253; clear BK1266; clear HB; have HO1256 := n0_; have BK1253 := n1_; have BK1266 := n2_; have HB := n3_; clear n0_ n1_ n2_ n3_; (try clear hb); have hcz25_0 : w24.cell? ⟨gb1266, 0, none⟩ = some (.int .i64 t1258) := (blk_cell BK1266.out 0).trans rfl; have hcz25_1 : w24.cell? ⟨gb1266, 1, none⟩ = some (.int .i64 t1261) := (blk_cell BK1266.out 1).trans rfl; have hcz25_2 : w24.cell? ⟨gb1266, 2, none⟩ = some (.int .i64 t1264) := (blk_cell BK1266.out 2).trans rfl; have hfz25_0 := blk_frozen BK1266.out 0; have hfz25_1 := blk_frozen BK1266.out 1; have hfz25_2 := blk_frozen BK1266.out 2; have hcz26_0 : w24.cell? ⟨gb1253, 0, none⟩ = some (.int .i64 0) := (blk_cell BK1253.out 0).trans rfl; have hcz26_1 : w24.cell? ⟨gb1253, 1, none⟩ = some (.int .i64 0) := (blk_cell BK1253.out 1).trans rfl; have hcz26_2 : w24.cell? ⟨gb1253, 2, none⟩ = some (.int .i64 0) := (blk_cell BK1253.out 2).trans rfl; have hfz26_0 := blk_frozen BK1253.out 0; have hfz26_1 := blk_frozen BK1253.out 1; have hfz26_2 := blk_frozen BK1253.out 2))
         refine bodyPost_ret (results_ct rfl _ _ gb1253 60 #[.int .i64 t1258, .int .i64 t1261, .int .i64 t1264] (0, 0) _ rfl (by refine blk_put (cs := #[.int .i64 t1258, .int .i64 t1261, .int .i64 0]) ?_ 2 _ rfl; refine blk_put (cs := #[.int .i64 t1258, .int .i64 0, .int .i64 0]) ?_ 1 _ rfl; refine blk_put (cs := #[.int .i64 0, .int .i64 0, .int .i64 0]) ?_ 0 _ rfl; exact BK1253.out) Try.underlying60 rfl (by kernel_rfl)) rfl ?_
         exact ⟨rfl, by repeat ((with_reducible first | exact HB.out | refine below_set ?_ GE1253.out))⟩
        ·replace c14 := Bool.eq_false_iff.mpr c14
         subst c14
         rw [if_neg (show ¬ (false = true) by decide)] at H
         simp only [Option.some.injEq, Prod.mk.injEq] at H
         obtain ⟨rfl, rfl, rfl, rfl⟩ := H
         go_enter Try.func187, Try.ntmps187
         go_wp2_with (first | ((with_reducible refine gate_dst (N := 2) rfl ?_); refine box_event ?hg (N := 2) ?hd (cs := #[.int .i64 0, .int .i64 0, .int .i64 0]) (t := 60) ?hr ?_; (case hd => rfl); (case hg => rfl); (case hr => (go_simp; done)); intro gb1253 hg w27 hbox hb; have n0_ := Aside0.mk (below_step HB.out hb); have n1_ := Aside0.mk (hbox); have n2_ := Aside0.mk ((by rw [hg]; exact (below_size HB.out) : w.heap.size ≤ gb1253)); have n3_ := Aside0.mk ((by rw [hg]; exact (below_size HB.out) : w.heap.size ≤ gb1253)); clear HB; have HB := n0_; have BK1253 := n1_; have GW1253 := n2_; have GE1253 := n3_; clear n0_ n1_ n2_ n3_; clear hb hbox hg) | ((with_reducible refine gate_callee (f := 139) rfl ?_); refine goesL_ (some 13) rfl rfl Try.func139 (by kernel_rfl) rfl #[.string a0, .int .u8 46] rfl (by (try simp only [List.map_toArray, List.map_cons, List.map_nil]); rfl) ?_; (with_reducible refine (impl_cut.calls k a0 46 t1254 _ A2.out).mono ?_); rintro e w28 ⟨v1255, rfl, ho0, hb⟩; refine ⟨_, rfl, ?_⟩; have n0_ := Aside0.mk (Kd.R_lower ho0 (below_size HB.out)); have n1_ := Aside0.mk (blk_below (g := gb1253) (o := .cells #[.int .i64 0, .int .i64 0, .int .i64 0] 60 (0, 0)) BK1253.out hb); have n2_ := Aside0.mk (below_step HB.out hb); clear BK1253; clear HB; have HO1256 := n0_; have BK1253 := n1_; have HB := n2_; clear n0_ n1_ n2_; (try clear hb); (try clear ho0); obtain ⟨Ao29, co29, eo29⟩ := Kd.R_slice HO1256.out; subst eo29; have p1257 : 0 ≤ (0 : Int) := (by omega); have q1257 : 0 < (t1254.length : Int) := of_decide_eq_true (by (with_reducible assumption)); obtain ⟨ad1257, e1257, hx1257_0⟩ := Kd.at_string (Kd.R_reads' HO1256.out).2.2 0 p1257 q1257; cases e1257; have qi1257 : (0 < t1254.length) = True := eq_true (by omega); (try rw [show ((0 : Int)).toNat = 0 from rfl] at hx1257_0); (try rw [Addr.add_zero'] at hx1257_0); replace p1257 := eq_true p1257; replace q1257 := eq_true q1257) | ((with_reducible refine gate_callee (f := 140) rfl ?_); refine goesL_ (some 22) rfl rfl Try.func140 (by kernel_rfl) rfl #[.string (rdOf ByteArray.empty t1254 0)] rfl (by (try simp only [List.map_toArray, List.map_cons, List.map_nil]); rfl) ?_; (with_reducible refine (impl_ParseInt.calls k (rdOf ByteArray.empty t1254 0) t1258 true _ A5.out).mono ?_); rintro e w30 ⟨rfl, hb⟩; refine ⟨_, rfl, ?_⟩; have n0_ := Aside0.mk (Kd.R_below HO1256.out hb); have n1_ := Aside0.mk (blk_below (g := gb1253) (o := .cells #[.int .i64 0, .int .i64 0, .int .i64 0] 60 (0, 0)) BK1253.out hb); have n2_ := Aside0.mk (below_step HB.out hb); clear HO1256; clear BK1253; clear HB; have HO1256 := n0_; have BK1253 := n1_; have HB := n2_; clear n0_ n1_ n2_; (try clear hb); have p1260 : 0 ≤ (1 : Int) := (by omega); have q1260 : 1 < (t1254.length : Int) := of_decide_eq_true (by (with_reducible assumption)); obtain ⟨ad1260, e1260, hx1260_0⟩ := Kd.at_string (Kd.R_reads' HO1256.out).2.2 1 p1260 q1260; obtain rfl : ad1257 = ad1260 := (by injection e1260); (try simp only [show (1 : Int).toNat = 1 from rfl, Nat.reduceMul, Nat.reduceEqDiff, Go.Addr.add, ↓reduceIte] at hx1260_0); have qi1260 : (1 < t1254.length) = True := eq_true (by omega); (try rw [show ((1 : Int)).toNat = 1 from rfl] at hx1260_0); replace p1260 := eq_true p1260; replace q1260 := eq_true q1260) | ((with_reducible refine gate_callee (f := 140) rfl ?_); refine goesL_ (some 29) rfl rfl Try.func140 (by kernel_rfl) rfl #[.string (rdOf ByteArray.empty t1254 1)] rfl (by (try simp only [List.map_toArray, List.map_cons, List.map_nil]); rfl) ?_; (with_reducible refine (impl_ParseInt.calls k (rdOf ByteArray.empty t1254 1) t1261 true _ A7.out).mono ?_); rintro e w31 ⟨rfl, hb⟩; refine ⟨_, rfl, ?_⟩; have n0_ := Aside0.mk (Kd.R_below HO1256.out hb); have n1_ := Aside0.mk (blk_below (g := gb1253) (o := .cells #[.int .i64 0, .int .i64 0, .int .i64 0] 60 (0, 0)) BK1253.out hb); have n2_ := Aside0.mk (below_step HB.out hb); clear HO1256; clear BK1253; clear HB; have HO1256 := n0_; have BK1253 := n1_; have HB := n2_; clear n0_ n1_ n2_; (try clear hb); have p1263 : 0 ≤ (2 : Int) := (by omega); have q1263 : 2 < (t1254.length : Int) := of_decide_eq_true (by (with_reducible assumption)); obtain ⟨ad1263, e1263, hx1263_0⟩ := Kd.at_string (Kd.R_reads' HO1256.out).2.2 2 p1263 q1263; obtain rfl : ad1257 = ad1263 := (by injection e1263); (try simp only [show (2 : Int).toNat = 2 from rfl, Nat.reduceMul, Nat.reduceEqDiff, Go.Addr.add, ↓reduceIte] at hx1263_0); have qi1263 : (2 < t1254.length) = True := eq_true (by omega); (try rw [show ((2 : Int)).toNat = 2 from rfl] at hx1263_0); replace p1263 := eq_true p1263; replace q1263 := eq_true q1263) | ((with_reducible refine gate_callee (f := 140) rfl ?_); refine goesL_ (some 36) rfl rfl Try.func140 (by kernel_rfl) rfl #[.string (rdOf ByteArray.empty t1254 2)] rfl (by (try simp only [List.map_toArray, List.map_cons, List.map_nil]); rfl) ?_; (with_reducible refine (impl_ParseInt.calls k (rdOf ByteArray.empty t1254 2) t1264 true _ A9.out).mono ?_); rintro e w32 ⟨rfl, hb⟩; refine ⟨_, rfl, ?_⟩; have n0_ := Aside0.mk (Kd.R_below HO1256.out hb); have n1_ := Aside0.mk (blk_below (g := gb1253) (o := .cells #[.int .i64 0, .int .i64 0, .int .i64 0] 60 (0, 0)) BK1253.out hb); have n2_ := Aside0.mk (below_step HB.out hb); clear HO1256; clear BK1253; clear HB; have HO1256 := n0_; have BK1253 := n1_; have HB := n2_; clear n0_ n1_ n2_; (try clear hb)) | ((with_reducible refine gate_dst (N := 11) rfl ?_); refine box_event ?hg (N := 11) ?hd (cs := #[.int .i64 0, .int .i64 0, .int .i64 0]) (t := 60) ?hr ?_; (case hd => rfl); (case hg => rfl); (case hr => (go_simp; done)); intro gb1266 hg w33 hbox hb; have n0_ := Aside0.mk (Kd.R_below HO1256.out hb); have n1_ := Aside0.mk (blk_below (g := gb1253) (o := .cells #[.int .i64 0, .int .i64 0, .int .i64 0] 60 (0, 0)) BK1253.out hb); have n2_ := Aside0.mk (below_step HB.out hb); have n3_ := Aside0.mk (hbox); have n4_ := Aside0.mk ((by rw [hg]; exact (below_size HB.out) : w.heap.size ≤ gb1266)); have n5_ := Aside0.mk ((by rw [hg]; exact (below_size HB.out) : w.heap.size ≤ gb1266)); have n6_ := Aside0.mk ((by rw [hg]; exact Nat.ne_of_lt (blk_lt (g := gb1253) (o := .cells #[.int .i64 0, .int .i64 0, .int .i64 0] 60 (0, 0)) BK1253.out) : gb1253 ≠ gb1266)); have n7_ := Aside0.mk ((by rw [hg]; exact Nat.ne_of_gt (blk_lt (g := gb1253) (o := .cells #[.int .i64 0, .int .i64 0, .int .i64 0] 60 (0, 0)) BK1253.out) : gb1266 ≠ gb1253)); clear HO1256; clear BK1253; clear HB; have HO1256 := n0_; have BK1253 := n1_; have HB := n2_; have BK1266 := n3_; have GW1266 := n4_; have GE1266 := n5_; have NB1253_1266 := n6_; have NB1266_1253 := n7_; clear n0_ n1_ n2_ n3_ n4_ n5_ n6_ n7_; clear hb hbox hg; have hnb34 := NB1266_1253.out; have hnc34 := NB1253_1266.out; have hcz35_0 : w33.cell? ⟨gb1266, 0, none⟩ = some (.int .i64 0) := (blk_cell BK1266.out 0).trans rfl; have hcz35_1 : w33.cell? ⟨gb1266, 1, none⟩ = some (.int .i64 0) := (blk_cell BK1266.out 1).trans rfl; have hcz35_2 : w33.cell? ⟨gb1266, 2, none⟩ = some (.int .i64 0) := (blk_cell BK1266.out 2).trans rfl; have hfz35_0 := blk_frozen BK1266.out 0; have hfz35_1 := blk_frozen BK1266.out 1; have hfz35_2 := blk_frozen BK1266.out 2) | (go_at_call 196; (with_reducible refine (impl_IsValidRow.calls t1258 t1261 t1264 false _ A13.out).mono ?_); rintro e w36 ⟨rfl, hb⟩; have n0_ := Aside0.mk (Kd.R_below (by exact (Kd.R_mono (Kd.R_far (p := ⟨gb1266, 2, none⟩) (Kd.R_far (p := ⟨gb1266, 1, none⟩) (Kd.R_far (p := ⟨gb1266, 0, none⟩) (Kd.R_types HO1256.out BK1266.out (by decide)) (fun _ hk => hk.2) (.int .i64 t1258)) (fun _ hk => hk.2) (.int .i64 t1261)) (fun _ hk => hk.2) (.int .i64 t1264)) (fun _ h_ => h_.1))) hb); have n1_ := Aside0.mk (blk_below (g := gb1253) (o := .cells #[.int .i64 0, .int .i64 0, .int .i64 0] 60 (0, 0)) (by refine blk_far ?_ NB1253_1266.out _; refine blk_far ?_ NB1253_1266.out _; refine blk_far ?_ NB1253_1266.out _; exact BK1253.out) hb); have n2_ := Aside0.mk (blk_below (g := gb1266) (o := .cells #[.int .i64 t1258, .int .i64 t1261, .int .i64 t1264] 60 (0, 0)) (by refine blk_put (cs := #[.int .i64 t1258, .int .i64 t1261, .int .i64 0]) ?_ 2 _ rfl; refine blk_put (cs := #[.int .i64 t1258, .int .i64 0, .int .i64 0]) ?_ 1 _ rfl; refine blk_put (cs := #[.int .i64 0, .int .i64 0, .int .i64 0]) ?_ 0 _ rfl; exact BK1266.out) hb); have n3_ := Aside0.mk (below_step (by repeat (with_reducible first | exact HB.out | refine below_set ?_ GE1266.out)) hb); clear HO1256; clear BK1253; clear BK1266; clear HB; have HO1256 := n0_; have BK1253 := n1_; have BK1266 := n2_; have HB := n3_; clear n0_ n1_ n2_ n3_; (try clear hb); have hcz37_0 : w36.cell? ⟨gb1253, 0, none⟩ = some (.int .i64 0) := (blk_cell BK1253.out 0).trans rfl; have hcz37_1 : w36.cell? ⟨gb1253, 1, none⟩ = some (.int .i64 0) := (blk_cell BK1253.out 1).trans rfl; have hcz37_2 : w36.cell? ⟨gb1253, 2, none⟩ = some (.int .i64 0) := (blk_cell BK1253.out 2).trans rfl; have hfz37_0 := blk_frozen BK1253.out 0; have hfz37_1 := blk_frozen BK1253.out 1; have hfz37_2 := blk_frozen BK1253.out 2))
         refine bodyPost_ret (results_ct rfl _ _ gb1253 60 #[.int .i64 0, .int .i64 0, .int .i64 0] (0, 0) _ rfl (by refine blk_put (cs := #[.int .i64 0, .int .i64 0, .int .i64 0]) ?_ 2 _ rfl; refine blk_put (cs := #[.int .i64 0, .int .i64 0, .int .i64 0]) ?_ 1 _ rfl; refine blk_put (cs := #[.int .i64 0, .int .i64 0, .int .i64 0]) ?_ 0 _ rfl; exact BK1253.out) Try.underlying60 rfl (by kernel_rfl)) rfl ?_
         exact ⟨rfl, by repeat ((with_reducible first | exact HB.out | refine below_set ?_ GE1253.out))⟩
       ·replace c12 := Bool.eq_false_iff.mpr c12
        subst c12
        rw [if_neg (show ¬ (false = true) by decide)] at H
        simp only [Option.some.injEq, Prod.mk.injEq] at H
        obtain ⟨rfl, rfl, rfl, rfl⟩ := H
        go_enter Try.func187, Try.ntmps187
        go_wp2_with (first | ((with_reducible refine gate_dst (N := 2) rfl ?_); refine box_event ?hg (N := 2) ?hd (cs := #[.int .i64 0, .int .i64 0, .int .i64 0]) (t := 60) ?hr ?_; (case hd => rfl); (case hg => rfl); (case hr => (go_simp; done)); intro gb1253 hg w38 hbox hb; have n0_ := Aside0.mk (below_step HB.out hb); have n1_ := Aside0.mk (hbox); have n2_ := Aside0.mk ((by rw [hg]; exact (below_size HB.out) : w.heap.size ≤ gb1253)); have n3_ := Aside0.mk ((by rw [hg]; exact (below_size HB.out) : w.heap.size ≤ gb1253)); clear HB; have HB := n0_; have BK1253 := n1_; have GW1253 := n2_; have GE1253 := n3_; clear n0_ n1_ n2_ n3_; clear hb hbox hg) | ((with_reducible refine gate_callee (f := 139) rfl ?_); refine goesL_ (some 13) rfl rfl Try.func139 (by kernel_rfl) rfl #[.string a0, .int .u8 46] rfl (by (try simp only [List.map_toArray, List.map_cons, List.map_nil]); rfl) ?_; (with_reducible refine (impl_cut.calls k a0 46 t1254 _ A2.out).mono ?_); rintro e w39 ⟨v1255, rfl, ho0, hb⟩; refine ⟨_, rfl, ?_⟩; have n0_ := Aside0.mk (Kd.R_lower ho0 (below_size HB.out)); have n1_ := Aside0.mk (blk_below (g := gb1253) (o := .cells #[.int .i64 0, .int .i64 0, .int .i64 0] 60 (0, 0)) BK1253.out hb); have n2_ := Aside0.mk (below_step HB.out hb); clear BK1253; clear HB; have HO1256 := n0_; have BK1253 := n1_; have HB := n2_; clear n0_ n1_ n2_; (try clear hb); (try clear ho0); obtain ⟨Ao40, co40, eo40⟩ := Kd.R_slice HO1256.out; subst eo40; have p1257 : 0 ≤ (0 : Int) := (by omega); have q1257 : 0 < (t1254.length : Int) := of_decide_eq_true (by (with_reducible assumption)); obtain ⟨ad1257, e1257, hx1257_0⟩ := Kd.at_string (Kd.R_reads' HO1256.out).2.2 0 p1257 q1257; cases e1257; have qi1257 : (0 < t1254.length) = True := eq_true (by omega); (try rw [show ((0 : Int)).toNat = 0 from rfl] at hx1257_0); (try rw [Addr.add_zero'] at hx1257_0); replace p1257 := eq_true p1257; replace q1257 := eq_true q1257) | ((with_reducible refine gate_callee (f := 140) rfl ?_); refine goesL_ (some 22) rfl rfl Try.func140 (by kernel_rfl) rfl #[.string (rdOf ByteArray.empty t1254 0)] rfl (by (try simp only [List.map_toArray, List.map_cons, List.map_nil]); rfl) ?_; (with_reducible refine (impl_ParseInt.calls k (rdOf ByteArray.empty t1254 0) t1258 true _ A5.out).mono ?_); rintro e w41 ⟨rfl, hb⟩; refine ⟨_, rfl, ?_⟩; have n0_ := Aside0.mk (Kd.R_below HO1256.out hb); have n1_ := Aside0.mk (blk_below (g := gb1253) (o := .cells #[.int .i64 0, .int .i64 0, .int .i64 0] 60 (0, 0)) BK1253.out hb); have n2_ := Aside0.mk (below_step HB.out hb); clear HO1256; clear BK1253; clear HB; have HO1256 := n0_; have BK1253 := n1_; have HB := n2_; clear n0_ n1_ n2_; (try clear hb); have p1260 : 0 ≤ (1 : Int) := (by omega); have q1260 : 1 < (t1254.length : Int) := of_decide_eq_true (by (with_reducible assumption)); obtain ⟨ad1260, e1260, hx1260_0⟩ := Kd.at_string (Kd.R_reads' HO1256.out).2.2 1 p1260 q1260; obtain rfl : ad1257 = ad1260 := (by injection e1260); (try simp only [show (1 : Int).toNat = 1 from rfl, Nat.reduceMul, Nat.reduceEqDiff, Go.Addr.add, ↓reduceIte] at hx1260_0); have qi1260 : (1 < t1254.length) = True := eq_true (by omega); (try rw [show ((1 : Int)).toNat = 1 from rfl] at hx1260_0); replace p1260 := eq_true p1260; replace q1260 := eq_true q1260) | ((with_reducible refine gate_callee (f := 140) rfl ?_); refine goesL_ (some 29) rfl rfl Try.func140 (by kernel_rfl) rfl #[.string (rdOf ByteArray.empty t1254 1)] rfl (by (try simp only [List.map_toArray, List.map_cons, List.map_nil]); rfl) ?_; (with_reducible refine (impl_ParseInt.calls k (rdOf ByteArray.empty t1254 1) t1261 true _ A7.out).mono ?_); rintro e w42 ⟨rfl, hb⟩; refine ⟨_, rfl, ?_⟩; have n0_ := Aside0.mk (Kd.R_below HO1256.out hb); have n1_ := Aside0.mk (blk_below (g := gb1253) (o := .cells #[.int .i64 0, .int .i64 0, .int .i64 0] 60 (0, 0)) BK1253.out hb); have n2_ := Aside0.mk (below_step HB.out hb); clear HO1256; clear BK1253; clear HB; have HO1256 := n0_; have BK1253 := n1_; have HB := n2_; clear n0_ n1_ n2_; (try clear hb); have p1263 : 0 ≤ (2 : Int) := (by omega); have q1263 : 2 < (t1254.length : Int) := of_decide_eq_true (by (with_reducible assumption)); obtain ⟨ad1263, e1263, hx1263_0⟩ := Kd.at_string (Kd.R_reads' HO1256.out).2.2 2 p1263 q1263; obtain rfl : ad1257 = ad1263 := (by injection e1263); (try simp only [show (2 : Int).toNat = 2 from rfl, Nat.reduceMul, Nat.reduceEqDiff, Go.Addr.add, ↓reduceIte] at hx1263_0); have qi1263 : (2 < t1254.length) = True := eq_true (by omega); (try rw [show ((2 : Int)).toNat = 2 from rfl] at hx1263_0); replace p1263 := eq_true p1263; replace q1263 := eq_true q1263) | ((with_reducible refine gate_callee (f := 140) rfl ?_); refine goesL_ (some 36) rfl rfl Try.func140 (by kernel_rfl) rfl #[.string (rdOf ByteArray.empty t1254 2)] rfl (by (try simp only [List.map_toArray, List.map_cons, List.map_nil]); rfl) ?_; (with_reducible refine (impl_ParseInt.calls k (rdOf ByteArray.empty t1254 2) t1264 false _ A9.out).mono ?_); rintro e w43 ⟨rfl, hb⟩; refine ⟨_, rfl, ?_⟩; have n0_ := Aside0.mk (Kd.R_below HO1256.out hb); have n1_ := Aside0.mk (blk_below (g := gb1253) (o := .cells #[.int .i64 0, .int .i64 0, .int .i64 0] 60 (0, 0)) BK1253.out hb); have n2_ := Aside0.mk (below_step HB.out hb); clear HO1256; clear BK1253; clear HB; have HO1256 := n0_; have BK1253 := n1_; have HB := n2_; clear n0_ n1_ n2_; (try clear hb)) | ((with_reducible refine gate_dst (N := 11) rfl ?_); refine box_event ?hg (N := 11) ?hd (cs := #[.int .i64 0, .int .i64 0, .int .i64 0]) (t := 60) ?hr ?_; (case hd => rfl); (case hg => rfl); (case hr => (go_simp; done)); intro gb1266 hg w44 hbox hb; have n0_ := Aside0.mk (Kd.R_below HO1256.out hb); have n1_ := Aside0.mk (blk_below (g := gb1253) (o := .cells #[.int .i64 0, .int .i64 0, .int .i64 0] 60 (0, 0)) BK1253.out hb); have n2_ := Aside0.mk (below_step HB.out hb); have n3_ := Aside0.mk (hbox); have n4_ := Aside0.mk ((by rw [hg]; exact (below_size HB.out) : w.heap.size ≤ gb1266)); have n5_ := Aside0.mk ((by rw [hg]; exact (below_size HB.out) : w.heap.size ≤ gb1266)); have n6_ := Aside0.mk ((by rw [hg]; exact Nat.ne_of_lt (blk_lt (g := gb1253) (o := .cells #[.int .i64 0, .int .i64 0, .int .i64 0] 60 (0, 0)) BK1253.out) : gb1253 ≠ gb1266)); have n7_ := Aside0.mk ((by rw [hg]; exact Nat.ne_of_gt (blk_lt (g := gb1253) (o := .cells #[.int .i64 0, .int .i64 0, .int .i64 0] 60 (0, 0)) BK1253.out) : gb1266 ≠ gb1253)); clear HO1256; clear BK1253; clear HB; have HO1256 := n0_; have BK1253 := n1_; have HB := n2_; have BK1266 := n3_; have GW1266 := n4_; have GE1266 := n5_; have NB1253_1266 := n6_; have NB1266_1253 := n7_; clear n0_ n1_ n2_ n3_ n4_ n5_ n6_ n7_; clear hb hbox hg; have hnb45 := NB1266_1253.out; have hnc45 := NB1253_1266.out; have hcz46_0 : w44.cell? ⟨gb1266, 0, none⟩ = some (.int .i64 0) := (blk_cell BK1266.out 0).trans rfl; have hcz46_1 : w44.cell? ⟨gb1266, 1, none⟩ = some (.int .i64 0) := (blk_cell BK1266.out 1).trans rfl; have hcz46_2 : w44.cell? ⟨gb1266, 2, none⟩ = some (.int .i64 0) := (blk_cell BK1266.out 2).trans rfl; have hfz46_0 := blk_frozen BK1266.out 0; have hfz46_1 := blk_frozen BK1266.out 1; have hfz46_2 := blk_frozen BK1266.out 2; have hcz47_0 : w44.cell? ⟨gb1253, 0, none⟩ = some (.int .i64 0) := (blk_cell BK1253.out 0).trans rfl; have hcz47_1 : w44.cell? ⟨gb1253, 1, none⟩ = some (.int .i64 0) := (blk_cell BK1253.out 1).trans rfl; have hcz47_2 : w44.cell? ⟨gb1253, 2, none⟩ = some (.int .i64 0) := (blk_cell BK1253.out 2).trans rfl; have hfz47_0 := blk_frozen BK1253.out 0; have hfz47_1 := blk_frozen BK1253.out 1; have hfz47_2 := blk_frozen BK1253.out 2))
        refine bodyPost_ret (results_ct rfl _ _ gb1253 60 #[.int .i64 0, .int .i64 0, .int .i64 0] (0, 0) _ rfl (by refine blk_put (cs := #[.int .i64 0, .int .i64 0, .int .i64 0]) ?_ 2 _ rfl; refine blk_put (cs := #[.int .i64 0, .int .i64 0, .int .i64 0]) ?_ 1 _ rfl; refine blk_put (cs := #[.int .i64 0, .int .i64 0, .int .i64 0]) ?_ 0 _ rfl; refine blk_far ?_ NB1253_1266.out _; refine blk_far ?_ NB1253_1266.out _; refine blk_far ?_ NB1253_1266.out _; exact BK1253.out) Try.underlying60 rfl (by kernel_rfl)) rfl ?_
        exact ⟨rfl, by repeat ((with_reducible first | exact HB.out | refine below_set ?_ GE1253.out | refine below_set ?_ GE1266.out))⟩
      ·replace c11 := Bool.eq_false_iff.mpr c11
       subst c11
       rw [if_neg (show ¬ (false = true) by decide)] at H
       simp only [Option.some.injEq, Prod.mk.injEq] at H
       obtain ⟨rfl, rfl, rfl, rfl⟩ := H
       go_enter Try.func187, Try.ntmps187
       go_wp2_with (first | ((with_reducible refine gate_dst (N := 2) rfl ?_); refine box_event ?hg (N := 2) ?hd (cs := #[.int .i64 0, .int .i64 0, .int .i64 0]) (t := 60) ?hr ?_; (case hd => rfl); (case hg => rfl); (case hr => (go_simp; done)); intro gb1253 hg w48 hbox hb; have n0_ := Aside0.mk (below_step HB.out hb); have n1_ := Aside0.mk (hbox); have n2_ := Aside0.mk ((by rw [hg]; exact (below_size HB.out) : w.heap.size ≤ gb1253)); have n3_ := Aside0.mk ((by rw [hg]; exact (below_size HB.out) : w.heap.size ≤ gb1253)); clear HB; have HB := n0_; have BK1253 := n1_; have GW1253 := n2_; have GE1253 := n3_; clear n0_ n1_ n2_ n3_; clear hb hbox hg) | ((with_reducible refine gate_callee (f := 139) rfl ?_); refine goesL_ (some 13) rfl rfl Try.func139 (by kernel_rfl) rfl #[.string a0, .int .u8 46] rfl (by (try simp only [List.map_toArray, List.map_cons, List.map_nil]); rfl) ?_; (with_reducible refine (impl_cut.calls k a0 46 t1254 _ A2.out).mono ?_); rintro e w49 ⟨v1255, rfl, ho0, hb⟩; refine ⟨_, rfl, ?_⟩; have n0_ := Aside0.mk (Kd.R_lower ho0 (below_size HB.out)); have n1_ := Aside0.mk (blk_below (g := gb1253) (o := .cells #[.int .i64 0, .int .i64 0, .int .i64 0] 60 (0, 0)) BK1253.out hb); have n2_ := Aside0.mk (below_step HB.out hb); clear BK1253; clear HB; have HO1256 := n0_; have BK1253 := n1_; have HB := n2_; clear n0_ n1_ n2_; (try clear hb); (try clear ho0); obtain ⟨Ao50, co50, eo50⟩ := Kd.R_slice HO1256.out; subst eo50; have p1257 : 0 ≤ (0 : Int) := (by omega); have q1257 : 0 < (t1254.length : Int) := of_decide_eq_true (by (with_reducible assumption)); obtain ⟨ad1257, e1257, hx1257_0⟩ := Kd.at_string (Kd.R_reads' HO1256.out).2.2 0 p1257 q1257; cases e1257; have qi1257 : (0 < t1254.length) = True := eq_true (by omega); (try rw [show ((0 : Int)).toNat = 0 from rfl] at hx1257_0); (try rw [Addr.add_zero'] at hx1257_0); replace p1257 := eq_true p1257; replace q1257 := eq_true q1257) | ((with_reducible refine gate_callee (f := 140) rfl ?_); refine goesL_ (some 22) rfl rfl Try.func140 (by kernel_rfl) rfl #[.string (rdOf ByteArray.empty t1254 0)] rfl (by (try simp only [List.map_toArray, List.map_cons, List.map_nil]); rfl) ?_; (with_reducible refine (impl_ParseInt.calls k (rdOf ByteArray.empty t1254 0) t1258 true _ A5.out).mono ?_); rintro e w51 ⟨rfl, hb⟩; refine ⟨_, rfl, ?_⟩; have n0_ := Aside0.mk (Kd.R_below HO1256.out hb); have n1_ := Aside0.mk (blk_below (g := gb1253) (o := .cells #[.int .i64 0, .int .i64 0, .int .i64 0] 60 (0, 0)) BK1253.out hb); have n2_ := Aside0.mk (below_step HB.out hb); clear HO1256; clear BK1253; clear HB; have HO1256 := n0_; have BK1253 := n1_; have HB := n2_; clear n0_ n1_ n2_; (try clear hb); have p1260 : 0 ≤ (1 : Int) := (by omega); have q1260 : 1 < (t1254.length : Int) := of_decide_eq_true (by (with_reducible assumption)); obtain ⟨ad1260, e1260, hx1260_0⟩ := Kd.at_string (Kd.R_reads' HO1256.out).2.2 1 p1260 q1260; obtain rfl : ad1257 = ad1260 := (by injection e1260); (try simp only [show (1 : Int).toNat = 1 from rfl, Nat.reduceMul, Nat.reduceEqDiff, Go.Addr.add, ↓reduceIte] at hx1260_0); have qi1260 : (1 < t1254.length) = True := eq_true (by omega); (try rw [show ((1 : Int)).toNat = 1 from rfl] at hx1260_0); replace p1260 := eq_true p1260; replace q1260 := eq_true q1260) | ((with_reducible refine gate_callee (f := 140) rfl ?_); refine goesL_ (some 29) rfl rfl Try.func140 (by kernel_rfl) rfl #[.string (rdOf ByteArray.empty t1254 1)] rfl (by (try simp only [List.map_toArray, List.map_cons, List.map_nil]); rfl) ?_; (with_reducible refine (impl_ParseInt.calls k (rdOf ByteArray.empty t1254 1) t1261 false _ A7.out).mono ?_); rintro e w52 ⟨rfl, hb⟩; refine ⟨_, rfl, ?_⟩; have n0_ := Aside0.mk (Kd.R_below HO1256.out hb); have n1_ := Aside0.mk (blk_below (g := gb1253) (o := .cells #[.int .i64 0, .int .i64 0, .int .i64 0] 60 (0, 0)) BK1253.out hb); have n2_ := Aside0.mk (below_step HB.out hb); clear HO1256; clear BK1253; clear HB; have HO1256 := n0_; have BK1253 := n1_; have HB := n2_; clear n0_ n1_ n2_; (try clear hb); have p1263 : 0 ≤ (2 : Int) := (by omega); have q1263 : 2 < (t1254.length : Int) := of_decide_eq_true (by (with_reducible assumption)); obtain ⟨ad1263, e1263, hx1263_0⟩ := Kd.at_string (Kd.R_reads' HO1256.out).2.2 2 p1263 q1263; obtain rfl : ad1257 = ad1263 := (by injection e1263); (try simp only [show (2 : Int).toNat = 2 from rfl, Nat.reduceMul, Nat.reduceEqDiff, Go.Addr.add, ↓reduceIte] at hx1263_0); have qi1263 : (2 < t1254.length) = True := eq_true (by omega); (try rw [show ((2 : Int)).toNat = 2 from rfl] at hx1263_0); replace p1263 := eq_true p1263; replace q1263 := eq_true q1263) | ((with_reducible refine gate_callee (f := 140) rfl ?_); refine goesL_ (some 36) rfl rfl Try.func140 (by kernel_rfl) rfl #[.string (rdOf ByteArray.empty t1254 2)] rfl (by (try simp only [List.map_toArray, List.map_cons, List.map_nil]); rfl) ?_; (with_reducible refine (impl_ParseInt.calls k (rdOf ByteArray.empty t1254 2) t1264 t1265 _ A9.out).mono ?_); rintro e w53 ⟨rfl, hb⟩; refine ⟨_, rfl, ?_⟩; have n0_ := Aside0.mk (Kd.R_below HO1256.out hb); have n1_ := Aside0.mk (blk_below (g := gb1253) (o := .cells #[.int .i64 0, .int .i64 0, .int .i64 0] 60 (0, 0)) BK1253.out hb); have n2_ := Aside0.mk (below_step HB.out hb); clear HO1256; clear BK1253; clear HB; have HO1256 := n0_; have BK1253 := n1_; have HB := n2_; clear n0_ n1_ n2_; (try clear hb)) | ((with_reducible refine gate_dst (N := 11) rfl ?_); refine box_event ?hg (N := 11) ?hd (cs := #[.int .i64 0, .int .i64 0, .int .i64 0]) (t := 60) ?hr ?_; (case hd => rfl); (case hg => rfl); (case hr => (go_simp; done)); intro gb1266 hg w54 hbox hb; have n0_ := Aside0.mk (Kd.R_below HO1256.out hb); have n1_ := Aside0.mk (blk_below (g := gb1253) (o := .cells #[.int .i64 0, .int .i64 0, .int .i64 0] 60 (0, 0)) BK1253.out hb); have n2_ := Aside0.mk (below_step HB.out hb); have n3_ := Aside0.mk (hbox); have n4_ := Aside0.mk ((by rw [hg]; exact (below_size HB.out) : w.heap.size ≤ gb1266)); have n5_ := Aside0.mk ((by rw [hg]; exact (below_size HB.out) : w.heap.size ≤ gb1266)); have n6_ := Aside0.mk ((by rw [hg]; exact Nat.ne_of_lt (blk_lt (g := gb1253) (o := .cells #[.int .i64 0, .int .i64 0, .int .i64 0] 60 (0, 0)) BK1253.out) : gb1253 ≠ gb1266)); have n7_ := Aside0.mk ((by rw [hg]; exact Nat.ne_of_gt (blk_lt (g := gb1253) (o := .cells #[.int .i64 0, .int .i64 0, .int .i64 0] 60 (0, 0)) BK1253.out) : gb1266 ≠ gb1253)); clear HO1256; clear BK1253; clear HB; have HO1256 := n0_; have BK1253 := n1_; have HB := n2_; have BK1266 := n3_; have GW1266 := n4_; have GE1266 := n5_; have NB1253_1266 := n6_; have NB1266_1253 := n7_; clear n0_ n1_ n2_ n3_ n4_ n5_ n6_ n7_; clear hb hbox hg; have hnb55 := NB1266_1253.out; have hnc55 := NB1253_1266.out; have hcz56_0 : w54.cell? ⟨gb1266, 0, none⟩ = some (.int .i64 0) := (blk_cell BK1266.out 0).trans rfl; have hcz56_1 : w54.cell? ⟨gb1266, 1, none⟩ = some (.int .i64 0) := (blk_cell BK1266.out 1).trans rfl; have hcz56_2 : w54.cell? ⟨gb1266, 2, none⟩ = some (.int .i64 0) := (blk_cell BK1266.out 2).trans rfl; have hfz56_0 := blk_frozen BK1266.out 0; have hfz56_1 := blk_frozen BK1266.out 1; have hfz56_2 := blk_frozen BK1266.out 2; have hcz57_0 : w54.cell? ⟨gb1253, 0, none⟩ = some (.int .i64 0) := (blk_cell BK1253.out 0).trans rfl; have hcz57_1 : w54.cell? ⟨gb1253, 1, none⟩ = some (.int .i64 0) := (blk_cell BK1253.out 1).trans rfl; have hcz57_2 : w54.cell? ⟨gb1253, 2, none⟩ = some (.int .i64 0) := (blk_cell BK1253.out 2).trans rfl; have hfz57_0 := blk_frozen BK1253.out 0; have hfz57_1 := blk_frozen BK1253.out 1; have hfz57_2 := blk_frozen BK1253.out 2))
       refine bodyPost_ret (results_ct rfl _ _ gb1253 60 #[.int .i64 0, .int .i64 0, .int .i64 0] (0, 0) _ rfl (by refine blk_put (cs := #[.int .i64 0, .int .i64 0, .int .i64 0]) ?_ 2 _ rfl; refine blk_put (cs := #[.int .i64 0, .int .i64 0, .int .i64 0]) ?_ 1 _ rfl; refine blk_put (cs := #[.int .i64 0, .int .i64 0, .int .i64 0]) ?_ 0 _ rfl; refine blk_far ?_ NB1253_1266.out _; refine blk_far ?_ NB1253_1266.out _; refine blk_far ?_ NB1253_1266.out _; exact BK1253.out) Try.underlying60 rfl (by kernel_rfl)) rfl ?_
       exact ⟨rfl, by repeat ((with_reducible first | exact HB.out | refine below_set ?_ GE1253.out | refine below_set ?_ GE1266.out))⟩
     ·replace c10 := Bool.eq_false_iff.mpr c10
      subst c10
      rw [if_neg (show ¬ (false = true) by decide)] at H
      simp only [Option.some.injEq, Prod.mk.injEq] at H
      obtain ⟨rfl, rfl, rfl, rfl⟩ := H
      go_enter Try.func187, Try.ntmps187
      go_wp2_with (first | ((with_reducible refine gate_dst (N := 2) rfl ?_); refine box_event ?hg (N := 2) ?hd (cs := #[.int .i64 0, .int .i64 0, .int .i64 0]) (t := 60) ?hr ?_; (case hd => rfl); (case hg => rfl); (case hr => (go_simp; done)); intro gb1253 hg w58 hbox hb; have n0_ := Aside0.mk (below_step HB.out hb); have n1_ := Aside0.mk (hbox); have n2_ := Aside0.mk ((by rw [hg]; exact (below_size HB.out) : w.heap.size ≤ gb1253)); have n3_ := Aside0.mk ((by rw [hg]; exact (below_size HB.out) : w.heap.size ≤ gb1253)); clear HB; have HB := n0_; have BK1253 := n1_; have GW1253 := n2_; have GE1253 := n3_; clear n0_ n1_ n2_ n3_; clear hb hbox hg) | ((with_reducible refine gate_callee (f := 139) rfl ?_); refine goesL_ (some 13) rfl rfl Try.func139 (by kernel_rfl) rfl #[.string a0, .int .u8 46] rfl (by (try simp only [List.map_toArray, List.map_cons, List.map_nil]); rfl) ?_; (with_reducible refine (impl_cut.calls k a0 46 t1254 _ A2.out).mono ?_); rintro e w59 ⟨v1255, rfl, ho0, hb⟩; refine ⟨_, rfl, ?_⟩; have n0_ := Aside0.mk (Kd.R_lower ho0 (below_size HB.out)); have n1_ := Aside0.mk (blk_below (g := gb1253) (o := .cells #[.int .i64 0, .int .i64 0, .int .i64 0] 60 (0, 0)) BK1253.out hb); have n2_ := Aside0.mk (below_step HB.out hb); clear BK1253; clear HB; have HO1256 := n0_; have BK1253 := n1_; have HB := n2_; clear n0_ n1_ n2_; (try clear hb); (try clear ho0); obtain ⟨Ao60, co60, eo60⟩ := Kd.R_slice HO1256.out; subst eo60; have p1257 : 0 ≤ (0 : Int) := (by omega); have q1257 : 0 < (t1254.length : Int) := of_decide_eq_true (by (with_reducible assumption)); obtain ⟨ad1257, e1257, hx1257_0⟩ := Kd.at_string (Kd.R_reads' HO1256.out).2.2 0 p1257 q1257; cases e1257; have qi1257 : (0 < t1254.length) = True := eq_true (by omega); (try rw [show ((0 : Int)).toNat = 0 from rfl] at hx1257_0); (try rw [Addr.add_zero'] at hx1257_0); replace p1257 := eq_true p1257; replace q1257 := eq_true q1257) | ((with_reducible refine gate_callee (f := 140) rfl ?_); refine goesL_ (some 22) rfl rfl Try.func140 (by kernel_rfl) rfl #[.string (rdOf ByteArray.empty t1254 0)] rfl (by (try simp only [List.map_toArray, List.map_cons, List.map_nil]); rfl) ?_; (with_reducible refine (impl_ParseInt.calls k (rdOf ByteArray.empty t1254 0) t1258 false _ A5.out).mono ?_); rintro e w61 ⟨rfl, hb⟩; refine ⟨_, rfl, ?_⟩; have n0_ := Aside0.mk (Kd.R_below HO1256.out hb); have n1_ := Aside0.mk (blk_below (g := gb1253) (o := .cells #[.int .i64 0, .int .i64 0, .int .i64 0] 60 (0, 0)) BK1253.out hb); have n2_ := Aside0.mk (below_step HB.out hb); clear HO1256; clear BK1253; clear HB; have HO1256 := n0_; have BK1253 := n1_; have HB := n2_; clear n0_ n1_ n2_; (try clear hb); have p1260 : 0 ≤ (1 : Int) := (by omega); have q1260 : 1 < (t1254.length : Int) := of_decide_eq_true (by (with_reducible assumption)); obtain ⟨ad1260, e1260, hx1260_0⟩ := Kd.at_string (Kd.R_reads' HO1256.out).2.2 1 p1260 q1260; obtain rfl : ad1257 = ad1260 := (by injection e1260); (try simp only [show (1 : Int).toNat = 1 from rfl, Nat.reduceMul, Nat.reduceEqDiff, Go.Addr.add, ↓reduceIte] at hx1260_0); have qi1260 : (1 < t1254.length) = True := eq_true (by omega); (try rw [show ((1 : Int)).toNat = 1 from rfl] at hx1260_0); replace p1260 := eq_true p1260; replace q1260 := eq_true q1260) | ((with_reducible refine gate_callee (f := 140) rfl ?_); refine goesL_ (some 29) rfl rfl Try.func140 (by kernel_rfl) rfl #[.string (rdOf ByteArray.empty t1254 1)] rfl (by (try simp only [List.map_toArray, List.map_cons, List.map_nil]); rfl) ?_; (with_reducible refine (impl_ParseInt.calls k (rdOf ByteArray.empty t1254 1) t1261 t1262 _ A7.out).mono ?_); rintro e w62 ⟨rfl, hb⟩; refine ⟨_, rfl, ?_⟩; have n0_ := Aside0.mk (Kd.R_below HO1256.out hb); have n1_ := Aside0.mk (blk_below (g := gb1253) (o := .cells #[.int .i64 0, .int .i64 0, .int .i64 0] 60 (0, 0)) BK1253.out hb); have n2_ := Aside0.mk (below_step HB.out hb); clear HO1256; clear BK1253; clear HB; have HO1256 := n0_; have BK1253 := n1_; have HB := n2_; clear n0_ n1_ n2_; (try clear hb); have p1263 : 0 ≤ (2 : Int) := (by omega); have q1263 : 2 < (t1254.length : Int) := of_decide_eq_true (by (with_reducible assumption)); obtain ⟨ad1263, e1263, hx1263_0⟩ := Kd.at_string (Kd.R_reads' HO1256.out).2.2 2 p1263 q1263; obtain rfl : ad1257 = ad1263 := (by injection e1263); (try simp only [show (2 : Int).toNat = 2 from rfl, Nat.reduceMul, Nat.reduceEqDiff, Go.Addr.add, ↓reduceIte] at hx1263_0); have qi1263 : (2 < t1254.length) = True := eq_true (by omega); (try rw [show ((2 : Int)).toNat = 2 from rfl] at hx1263_0); replace p1263 := eq_true p1263; replace q1263 := eq_true q1263) | ((with_reducible refine gate_callee (f := 140) rfl ?_); refine goesL_ (some 36) rfl rfl Try.func140 (by kernel_rfl) rfl #[.string (rdOf ByteArray.empty t1254 2)] rfl (by (try simp only [List.map_toArray, List.map_cons, List.map_nil]); rfl) ?_; (with_reducible refine (impl_ParseInt.calls k (rdOf ByteArray.empty t1254 2) t1264 t1265 _ A9.out).mono ?_); rintro e w63 ⟨rfl, hb⟩; refine ⟨_, rfl, ?_⟩; have n0_ := Aside0.mk (Kd.R_below HO1256.out hb); have n1_ := Aside0.mk (blk_below (g := gb1253) (o := .cells #[.int .i64 0, .int .i64 0, .int .i64 0] 60 (0, 0)) BK1253.out hb); have n2_ := Aside0.mk (below_step HB.out hb); clear HO1256; clear BK1253; clear HB; have HO1256 := n0_; have BK1253 := n1_; have HB := n2_; clear n0_ n1_ n2_; (try clear hb)) | ((with_reducible refine gate_dst (N := 11) rfl ?_); refine box_event ?hg (N := 11) ?hd (cs := #[.int .i64 0, .int .i64 0, .int .i64 0]) (t := 60) ?hr ?_; (case hd => rfl); (case hg => rfl); (case hr => (go_simp; done)); intro gb1266 hg w64 hbox hb; have n0_ := Aside0.mk (Kd.R_below HO1256.out hb); have n1_ := Aside0.mk (blk_below (g := gb1253) (o := .cells #[.int .i64 0, .int .i64 0, .int .i64 0] 60 (0, 0)) BK1253.out hb); have n2_ := Aside0.mk (below_step HB.out hb); have n3_ := Aside0.mk (hbox); have n4_ := Aside0.mk ((by rw [hg]; exact (below_size HB.out) : w.heap.size ≤ gb1266)); have n5_ := Aside0.mk ((by rw [hg]; exact (below_size HB.out) : w.heap.size ≤ gb1266)); have n6_ := Aside0.mk ((by rw [hg]; exact Nat.ne_of_lt (blk_lt (g := gb1253) (o := .cells #[.int .i64 0, .int .i64 0, .int .i64 0] 60 (0, 0)) BK1253.out) : gb1253 ≠ gb1266)); have n7_ := Aside0.mk ((by rw [hg]; exact Nat.ne_of_gt (blk_lt (g := gb1253) (o := .cells #[.int .i64 0, .int .i64 0, .int .i64 0] 60 (0, 0)) BK1253.out) : gb1266 ≠ gb1253)); clear HO1256; clear BK1253; clear HB; have HO1256 := n0_; have BK1253 := n1_; have HB := n2_; have BK1266 := n3_; have GW1266 := n4_; have GE1266 := n5_; have NB1253_1266 := n6_; have NB1266_1253 := n7_; clear n0_ n1_ n2_ n3_ n4_ n5_ n6_ n7_; clear hb hbox hg; have hnb65 := NB1266_1253.out; have hnc65 := NB1253_1266.out; have hcz66_0 : w64.cell? ⟨gb1266, 0, none⟩ = some (.int .i64 0) := (blk_cell BK1266.out 0).trans rfl; have hcz66_1 : w64.cell? ⟨gb1266, 1, none⟩ = some (.int .i64 0) := (blk_cell BK1266.out 1).trans rfl; have hcz66_2 : w64.cell? ⟨gb1266, 2, none⟩ = some (.int .i64 0) := (blk_cell BK1266.out 2).trans rfl; have hfz66_0 := blk_frozen BK1266.out 0; have hfz66_1 := blk_frozen BK1266.out 1; have hfz66_2 := blk_frozen BK1266.out 2; have hcz67_0 : w64.cell? ⟨gb1253, 0, none⟩ = some (.int .i64 0) := (blk_cell BK1253.out 0).trans rfl; have hcz67_1 : w64.cell? ⟨gb1253, 1, none⟩ = some (.int .i64 0) := (blk_cell BK1253.out 1).trans rfl; have hcz67_2 : w64.cell? ⟨gb1253, 2, none⟩ = some (.int .i64 0) := (blk_cell BK1253.out 2).trans rfl; have hfz67_0 := blk_frozen BK1253.out 0; have hfz67_1 := blk_frozen BK1253.out 1; have hfz67_2 := blk_frozen BK1253.out 2))
      refine bodyPost_ret (results_ct rfl _ _ gb1253 60 #[.int .i64 0, .int .i64 0, .int .i64 0] (0, 0) _ rfl (by refine blk_put (cs := #[.int .i64 0, .int .i64 0, .int .i64 0]) ?_ 2 _ rfl; refine blk_put (cs := #[.int .i64 0, .int .i64 0, .int .i64 0]) ?_ 1 _ rfl; refine blk_put (cs := #[.int .i64 0, .int .i64 0, .int .i64 0]) ?_ 0 _ rfl; refine blk_far ?_ NB1253_1266.out _; refine blk_far ?_ NB1253_1266.out _; refine blk_far ?_ NB1253_1266.out _; exact BK1253.out) Try.underlying60 rfl (by kernel_rfl)) rfl ?_
      exact ⟨rfl, by repeat ((with_reducible first | exact HB.out | refine below_set ?_ GE1253.out | refine below_set ?_ GE1266.out))⟩
    ·rw [if_neg c8] at H
     exact absurd H (by simp)
   ·rw [if_neg c6] at H
    exact absurd H (by simp)
  ·rw [if_neg c4] at H
   exact absurd H (by simp)
 ·rw [if_neg c3] at H
  have c3b0 : ((t1254.length : Int) == 3) = false := beq_eq_false_iff_ne.mpr c3
  have c3b1 : ((t1254.length : Int) != 3) = true := bne_iff_ne.mpr c3
  simp only [Option.some.injEq, Prod.mk.injEq] at H
  obtain ⟨rfl, rfl, rfl, rfl⟩ := H
  go_enter Try.func187, Try.ntmps187
  go_wp2_with (first | ((with_reducible refine gate_dst (N := 2) rfl ?_); refine box_event ?hg (N := 2) ?hd (cs := #[.int .i64 0, .int .i64 0, .int .i64 0]) (t := 60) ?hr ?_; (case hd => rfl); (case hg => rfl); (case hr => (go_simp; done)); intro gb1253 hg w68 hbox hb; have n0_ := Aside0.mk (below_step HB.out hb); have n1_ := Aside0.mk (hbox); have n2_ := Aside0.mk ((by rw [hg]; exact (below_size HB.out) : w.heap.size ≤ gb1253)); have n3_ := Aside0.mk ((by rw [hg]; exact (below_size HB.out) : w.heap.size ≤ gb1253)); clear HB; have HB := n0_; have BK1253 := n1_; have GW1253 := n2_; have GE1253 := n3_; clear n0_ n1_ n2_ n3_; clear hb hbox hg) | ((with_reducible refine gate_callee (f := 139) rfl ?_); refine goesL_ (some 13) rfl rfl Try.func139 (by kernel_rfl) rfl #[.string a0, .int .u8 46] rfl (by (try simp only [List.map_toArray, List.map_cons, List.map_nil]); rfl) ?_; (with_reducible refine (impl_cut.calls k a0 46 t1254 _ A2.out).mono ?_); rintro e w69 ⟨v1255, rfl, ho0, hb⟩; refine ⟨_, rfl, ?_⟩; have n0_ := Aside0.mk (Kd.R_lower ho0 (below_size HB.out)); have n1_ := Aside0.mk (blk_below (g := gb1253) (o := .cells #[.int .i64 0, .int .i64 0, .int .i64 0] 60 (0, 0)) BK1253.out hb); have n2_ := Aside0.mk (below_step HB.out hb); clear BK1253; clear HB; have HO1256 := n0_; have BK1253 := n1_; have HB := n2_; clear n0_ n1_ n2_; (try clear hb); (try clear ho0); obtain ⟨Ao70, co70, eo70⟩ := Kd.R_slice HO1256.out; subst eo70; have hcz71_0 : w69.cell? ⟨gb1253, 0, none⟩ = some (.int .i64 0) := (blk_cell BK1253.out 0).trans rfl; have hcz71_1 : w69.cell? ⟨gb1253, 1, none⟩ = some (.int .i64 0) := (blk_cell BK1253.out 1).trans rfl; have hcz71_2 : w69.cell? ⟨gb1253, 2, none⟩ = some (.int .i64 0) := (blk_cell BK1253.out 2).trans rfl; have hfz71_0 := blk_frozen BK1253.out 0; have hfz71_1 := blk_frozen BK1253.out 1; have hfz71_2 := blk_frozen BK1253.out 2))
  refine bodyPost_ret (results_ct rfl _ _ gb1253 60 #[.int .i64 0, .int .i64 0, .int .i64 0] (0, 0) _ rfl (by refine blk_put (cs := #[.int .i64 0, .int .i64 0, .int .i64 0]) ?_ 2 _ rfl; refine blk_put (cs := #[.int .i64 0, .int .i64 0, .int .i64 0]) ?_ 1 _ rfl; refine blk_put (cs := #[.int .i64 0, .int .i64 0, .int .i64 0]) ?_ 0 _ rfl; exact BK1253.out) Try.underlying60 rfl (by kernel_rfl)) rfl ?_
  exact ⟨rfl, by repeat ((with_reducible first | exact HB.out | refine below_set ?_ GE1253.out))⟩

def impl_ParseRows.l0 : Nat → List (S60) → List ByteArray → Int → Int → Option ((List (S60)) × Bool)
 | 0, _, _, _, _ => none
 | k + 1, x4, x13, x14, x15 => if x15 < x14 then (if 0 ≤ x15 then (if x15 < (x13.length : Int) then ((impl_ParseRow.f k (rdOf ByteArray.empty x13 x15)).bind fun bt1275 => (if bt1275.2.2.2 = true then (if x4.length < 5864062014805 then (impl_ParseRows.l0 k (x4 ++ [(⟨bt1275.1, bt1275.2.1, bt1275.2.2.1⟩ : S60)]) x13 x14 (wrap64 (x15 + 1))) else (none)) else (some (([] : List (S60)), false)))) else (none)) else (none)) else ((impl_AreValidRows.f k x4).bind fun t1283 => (if t1283 = true then (some (x4, true)) else (some (([] : List (S60)), false))))
def impl_ParseRows.f (k : Nat) (a0 : ByteArray) : Option ((List (S60)) × Bool) := if a0.toList = ([] : List UInt8) then (some (([] : List (S60)), true)) else ((impl_cut.f k a0 32).bind fun t1271 => (impl_ParseRows.l0 k (([] : List (S60))) t1271 (t1271.length : Int) 0))
theorem impl_ParseRows.calls (k : Nat) (a0 : ByteArray) (r1 : List (S60)) (r2 : Bool) (w : World) (h : impl_ParseRows.f k a0 = some (r1, r2)) :
  Calls Try.prog 141 #[.string a0] w fun e w' => ∃ v0_ : Value, e = .returned (.tuple #[v0_, .bool r2]) ∧ Kd.R k60 60 w' w.heap.size (fun _ => True) v0_ r1 ∧ Below w.heap.size w w' := by
 have hu60 := Try.underlying60
 have HB := Aside0.mk (Below.refl w.heap.size w)
 have H : (if a0.toList = ([] : List UInt8) then (some (([] : List (S60)), true)) else ((impl_cut.f k a0 32).bind fun t1271 => (impl_ParseRows.l0 k (([] : List (S60))) t1271 (t1271.length : Int) 0))) = some (r1, r2) := h
 clear h
 by_cases c2 : a0.toList = ([] : List UInt8)
 ·rw [if_pos c2] at H
  have c2b0 : (a0.toList == ([] : List UInt8)) = true := beq_iff_eq.mpr c2
  have c2b1 : (a0.toList != ([] : List UInt8)) = false := bne_eq_false_iff_eq.mpr c2
  clear c2
  simp only [Option.some.injEq, Prod.mk.injEq] at H
  obtain ⟨rfl, rfl⟩ := H
  go_enter Try.func141, Try.ntmps141
  go_wp2
  go_ret2
  exact ⟨_, rfl, by exact Kd.R_nil _ _ _ _ _, HB.out⟩
 ·rw [if_neg c2] at H
  have c2b0 : (a0.toList == ([] : List UInt8)) = false := beq_eq_false_iff_ne.mpr c2
  have c2b1 : (a0.toList != ([] : List UInt8)) = true := bne_iff_ne.mpr c2
  obtain ⟨y1268, hy1268⟩ : ∃ y_ : List (S60), y_ = (([] : List (S60))) := ⟨_, rfl⟩
  replace H : ((impl_cut.f k a0 32).bind fun t1271 => (impl_ParseRows.l0 k y1268 t1271 (t1271.length : Int) 0)) = some (r1, r2) := by (rw [hy1268]; with_reducible exact H)
  have Ny1268 := Aside0.mk hy1268
  clear hy1268
  replace H := Option.bind_eq_some_iff.mp H
  obtain ⟨t1271, A30, H⟩ := H
  have A3 := Aside0.mk A30
  clear A30
  have H' := Aside0.mk H
  clear H
  go_enter Try.func141, Try.ntmps141
  go_wp2_with (first | ((with_reducible refine gate_dst (N := 11) rfl ?_); refine Kd.R_lit k60 _ 60 ?hg (N := 11) ?hd (xs := ([] : List (S60))) (inner := []) (ok := fun _ => True) (okp := fun _ => True) ?hr ?hp (fun _ hk => hk) trivial (Below.refl _ _) (Nat.le_refl _) (by simp) ?_; (case hd => rfl); (case hg => rfl); (case hr => (go_simp; done)); (case hp => exact (Reps.none _ _)); intro v1269 w4 ho5 hb hg_ hnew_; clear hg_ hnew_; (rw [← Ny1268.out] at ho5); have n0_ := Aside0.mk (Kd.R_lower ho5 (below_size HB.out)); have n1_ := Aside0.mk (below_step HB.out hb); clear HB; have HO1270 := n0_; have HB := n1_; clear n0_ n1_; clear hb ho5) | ((with_reducible refine gate_callee (f := 139) rfl ?_); refine goesL_ (some 13) rfl rfl Try.func139 (by kernel_rfl) rfl #[.string a0, .int .u8 32] rfl (by (try simp only [List.map_toArray, List.map_cons, List.map_nil]); rfl) ?_; (with_reducible refine (impl_cut.calls k a0 32 t1271 _ A3.out).mono ?_); rintro e w6 ⟨v1272, rfl, ho0, hb⟩; refine ⟨_, rfl, ?_⟩; have n0_ := Aside0.mk (Kd.R_below HO1270.out hb); have n1_ := Aside0.mk (Kd.R_lower ho0 (below_size HB.out)); have n2_ := Aside0.mk (below_step HB.out hb); clear HO1270; clear HB; have HO1270 := n0_; have HO1273 := n1_; have HB := n2_; clear n0_ n1_ n2_; (try clear hb); (try clear ho0); obtain ⟨Ao7, co7, eo7⟩ := Kd.R_slice HO1273.out; subst eo7))
  go_loopg [4, 15] k (fun kq v4 v15 w' => ∃ (x4_1 : List (S60)) (x15_1 : Int), v15 = .int .i64 x15_1 ∧ Aside0 (impl_ParseRows.l0 kq x4_1 t1271 (t1271.length : Int) x15_1 = some (r1, r2)) ∧ Aside0 (kq ≤ k) ∧ Aside0 (Kd.R k60 60 w' w.heap.size (fun _ => True) v4 x4_1) ∧ Aside0 (Kd.R Kd.string 9 w' w.heap.size (fun _ => True) (.slice Ao7 t1271.length co7) t1271) ∧ Aside0 (Below w.heap.size w w'))
  case atStart => exact ⟨(y1268), (0), rfl, H', ⟨Nat.le_refl _⟩, ⟨HO1270.out⟩, ⟨HO1273.out⟩, ⟨HB.out⟩⟩
  case round =>
   clear H'
   try clear c2
   try clear c2b0
   try clear c2b1
   obtain ⟨x4_1, x15_1, rfl, HA, HK1, HO_4, HO_13, HB⟩ := hrel
   cases gk with
   | zero => exact absurd HA.out (by simp [impl_ParseRows.l0])
   | succ k1 =>
    have H := HA.out
    clear HA
    simp only [impl_ParseRows.l0] at H
    by_cases c8 : x15_1 < (t1271.length : Int)
    ·rw [if_pos c8] at H
     have c8b0 : decide (x15_1 < (t1271.length : Int)) = true := decide_eq_true c8
     clear c8
     by_cases c9 : 0 ≤ x15_1
     ·rw [if_pos c9] at H
      have c9b0 : decide (0 ≤ x15_1) = true := decide_eq_true c9
      clear c9
      by_cases c10 : x15_1 < (t1271.length : Int)
      ·rw [if_pos c10] at H
       have c10b0 : decide (x15_1 < (t1271.length : Int)) = true := decide_eq_true c10
       clear c10
       replace H := Option.bind_eq_some_iff.mp H
       obtain ⟨⟨t1275, t1276, t1277, t1278⟩, A110, H⟩ := H
       have A11 := Aside0.mk A110
       clear A110
       by_cases c12 : t1278 = true
       ·subst c12
        rw [if_pos rfl] at H
        by_cases c13 : x4_1.length < 5864062014805
        ·rw [if_pos c13] at H
         have LMc13 := Aside0.mk c13
         clear c13
         obtain ⟨y1280, hy1280⟩ : ∃ y_ : List (S60), y_ = (x4_1 ++ [(⟨t1275, t1276, t1277⟩ : S60)]) := ⟨_, rfl⟩
         replace H : (impl_ParseRows.l0 k1 y1280 t1271 (t1271.length : Int) (wrap64 (x15_1 + 1))) = some (r1, r2) := by (rw [hy1280]; with_reducible exact H)
         have Ny1280 := Aside0.mk hy1280
         clear hy1280
         have H' := Aside0.mk H
         clear H
         have p1274 : 0 ≤ (x15_1 : Int) := of_decide_eq_true (by (with_reducible assumption))
         have q1274 : x15_1 < (t1271.length : Int) := of_decide_eq_true (by (with_reducible assumption))
         obtain ⟨ad1274, e1274, hx1274_0⟩ := Kd.at_string (Kd.R_reads' HO_13.out).2.2 x15_1 p1274 q1274
         cases e1274
         replace p1274 := eq_true p1274
         replace q1274 := eq_true q1274
         go_wp2_with (first | ((with_reducible refine gate_callee (f := 187) rfl ?_); refine goesL_ (some 21) rfl rfl Try.func187 (by kernel_rfl) rfl #[.string (rdOf ByteArray.empty t1271 x15_1)] rfl (by (try simp only [List.map_toArray, List.map_cons, List.map_nil]); rfl) ?_; (with_reducible refine (impl_ParseRow.calls k1 (rdOf ByteArray.empty t1271 x15_1) t1275 t1276 t1277 true _ A11.out).mono ?_); rintro e w14 ⟨rfl, hb⟩; refine ⟨_, rfl, ?_⟩; have n0_ := Aside0.mk (Kd.R_below HO_4.out hb); have n1_ := Aside0.mk (Kd.R_below HO_13.out hb); have n2_ := Aside0.mk (below_step HB.out hb); clear HO_4; clear HO_13; clear HB; have HO_4 := n0_; have HO_13 := n1_; have HB := n2_; clear n0_ n1_ n2_; (try clear hb)) | ((with_reducible refine gate_dst (N := 7) rfl ?_); refine box_event ?hg (N := 7) ?hd (cs := #[.int .i64 0, .int .i64 0, .int .i64 0]) (t := 60) ?hr ?_; (case hd => rfl); (case hg => rfl); (case hr => (go_simp; done)); intro gb1279 hg w15 hbox hb; have n0_ := Aside0.mk (Kd.R_below (Kd.R_elderB HO_4.out gb1279 (Nat.le_of_eq hg.symm)) hb); have n1_ := Aside0.mk (Kd.R_below HO_13.out hb); have n2_ := Aside0.mk (below_step HB.out hb); have n3_ := Aside0.mk (hbox); have n4_ := Aside0.mk ((by rw [hg]; exact (below_size HB.out) : w.heap.size ≤ gb1279)); have n5_ := Aside0.mk ((by rw [hg]; exact (below_size HB.out) : w.heap.size ≤ gb1279)); clear HO_4; clear HO_13; clear HB; have HO_4 := n0_; have HO_13 := n1_; have HB := n2_; have BK1279 := n3_; have GW1279 := n4_; have GE1279 := n5_; clear n0_ n1_ n2_ n3_ n4_ n5_; clear hb hbox hg; have hcz16_0 : w15.cell? ⟨gb1279, 0, none⟩ = some (.int .i64 0) := (blk_cell BK1279.out 0).trans rfl; have hcz16_1 : w15.cell? ⟨gb1279, 1, none⟩ = some (.int .i64 0) := (blk_cell BK1279.out 1).trans rfl; have hcz16_2 : w15.cell? ⟨gb1279, 2, none⟩ = some (.int .i64 0) := (blk_cell BK1279.out 2).trans rfl; have hfz16_0 := blk_frozen BK1279.out 0; have hfz16_1 := blk_frozen BK1279.out 1; have hfz16_2 := blk_frozen BK1279.out 2) | ((with_reducible refine gate_builtin (b := .append) (xs := #[.tmp 26, .tmp 28]) rfl ?_); at_builtin; refine Kd.R_append k60 (w0 := w) w.heap.size rfl (.tmp 26) (.tmp 28) 24 60 (.agg #[(.int .i64 0), (.int .i64 0), (.int .i64 0)]) 24 rfl Try.underlying24 info60 rfl (by decide) (by omega) u4 x4_1 (⟨t1275, t1276, t1277⟩ : S60) [.int .i64 t1275, .int .i64 t1276, .int .i64 t1277] (fun k_ => k_ ≠ gb1279) (fun _ => False) rfl (by (go_simp; done)) ?aP (fun _ hk => hk.elim) ?aF ?aO ?aB ?aS ?aL ?_; (case aP => exact k60_mkM _ _ _ (⟨t1275, t1276, t1277⟩ : S60)); (case aB => exact (by repeat (with_reducible first | exact HB.out | refine below_set ?_ GE1279.out))); (case aF => exact (fun k_ hk => Kd.freshB (g := gb1279) (o := .cells #[.int .i64 t1275, .int .i64 t1276, .int .i64 t1277] 60 (0, 0)) (by refine blk_put (cs := #[.int .i64 t1275, .int .i64 t1276, .int .i64 0]) ?_ 2 _ rfl; refine blk_put (cs := #[.int .i64 t1275, .int .i64 0, .int .i64 0]) ?_ 1 _ rfl; refine blk_put (cs := #[.int .i64 0, .int .i64 0, .int .i64 0]) ?_ 0 _ rfl; exact BK1279.out) k_ hk)); (case aO => exact (by exact Kd.R_mono (Kd.R_far (p := ⟨gb1279, 2, none⟩) (Kd.R_far (p := ⟨gb1279, 1, none⟩) (Kd.R_far (p := ⟨gb1279, 0, none⟩) (Kd.R_mono HO_4.out (fun k_ hk => (⟨hk, hk.2⟩ : _ ∧ k_ ≠ gb1279))) (fun _ hk => hk.2) (.int .i64 t1275)) (fun _ hk => hk.2) (.int .i64 t1276)) (fun _ hk => hk.2) (.int .i64 t1277)) (fun _ hk => hk.1.2))); (case aS => exact (below_size (by repeat (with_reducible first | exact HB.out | refine below_set ?_ GE1279.out)))); (case aL => have := LMc13.out; omega); intro v1281 w17 ho hb hg hat; rw [← Ny1280.out] at ho; have n0_ := Aside0.mk (Kd.R_over' (by exact (Kd.R_mono (Kd.R_far (p := ⟨gb1279, 2, none⟩) (Kd.R_far (p := ⟨gb1279, 1, none⟩) (Kd.R_far (p := ⟨gb1279, 0, none⟩) (Kd.R_types HO_13.out BK1279.out (by decide)) (fun _ hk => hk.2) (.int .i64 t1275)) (fun _ hk => hk.2) (.int .i64 t1276)) (fun _ hk => hk.2) (.int .i64 t1277)) (fun _ h_ => h_.1))) (Kd.R_typed (by exact (Kd.R_mono (Kd.R_far (p := ⟨gb1279, 2, none⟩) (Kd.R_far (p := ⟨gb1279, 1, none⟩) (Kd.R_far (p := ⟨gb1279, 0, none⟩) (Kd.R_mono HO_4.out (fun k_ hk => (⟨hk, hk.2⟩ : _ ∧ k_ ≠ gb1279))) (fun _ hk => hk.2) (.int .i64 t1275)) (fun _ hk => hk.2) (.int .i64 t1276)) (fun _ hk => hk.2) (.int .i64 t1277)) (fun _ h_ => h_.1)))) (by decide) hg); have n1_ := Aside0.mk (blk_grown (g := gb1279) (o := .cells #[.int .i64 t1275, .int .i64 t1276, .int .i64 t1277] 60 (0, 0)) (by refine blk_put (cs := #[.int .i64 t1275, .int .i64 t1276, .int .i64 0]) ?_ 2 _ rfl; refine blk_put (cs := #[.int .i64 t1275, .int .i64 0, .int .i64 0]) ?_ 1 _ rfl; refine blk_put (cs := #[.int .i64 0, .int .i64 0, .int .i64 0]) ?_ 0 _ rfl; exact BK1279.out) hg (Kd.R_away HO_4.out (fun _ hk => hk.2))); have n2_ := Aside0.mk (hb); have n3_ := Aside0.mk (ho); clear HO_13; clear BK1279; clear HB; clear HO_4; have HO_13 := n0_; have BK1279 := n1_; have HB := n2_; have HO1282 := n3_; clear n0_ n1_ n2_ n3_; clear ho hb hg hat))
         go_roundg k1
         case measure => have := HK1.out; omega
         case rel => exact ⟨(y1280), (wrap64 (x15_1 + 1)), rfl, H', ⟨by have := HK1.out; omega⟩, ⟨by exact Kd.R_mono HO1282.out (fun _ hk => trivial)⟩, ⟨HO_13.out⟩, ⟨HB.out⟩⟩
        ·rw [if_neg c13] at H
         exact absurd H (by simp)
       ·replace c12 := Bool.eq_false_iff.mpr c12
        subst c12
        rw [if_neg (show ¬ (false = true) by decide)] at H
        simp only [Option.some.injEq, Prod.mk.injEq] at H
        obtain ⟨rfl, rfl⟩ := H
        have p1274 : 0 ≤ (x15_1 : Int) := of_decide_eq_true (by (with_reducible assumption))
        have q1274 : x15_1 < (t1271.length : Int) := of_decide_eq_true (by (with_reducible assumption))
        obtain ⟨ad1274, e1274, hx1274_0⟩ := Kd.at_string (Kd.R_reads' HO_13.out).2.2 x15_1 p1274 q1274
        cases e1274
        replace p1274 := eq_true p1274
        replace q1274 := eq_true q1274
        go_wp2_with (first | ((with_reducible refine gate_callee (f := 187) rfl ?_); refine goesL_ (some 21) rfl rfl Try.func187 (by kernel_rfl) rfl #[.string (rdOf ByteArray.empty t1271 x15_1)] rfl (by (try simp only [List.map_toArray, List.map_cons, List.map_nil]); rfl) ?_; (with_reducible refine (impl_ParseRow.calls k1 (rdOf ByteArray.empty t1271 x15_1) t1275 t1276 t1277 false _ A11.out).mono ?_); rintro e w18 ⟨rfl, hb⟩; refine ⟨_, rfl, ?_⟩; have n0_ := Aside0.mk (Kd.R_below HO_4.out hb); have n1_ := Aside0.mk (Kd.R_below HO_13.out hb); have n2_ := Aside0.mk (below_step HB.out hb); clear HO_4; clear HO_13; clear HB; have HO_4 := n0_; have HO_13 := n1_; have HB := n2_; clear n0_ n1_ n2_; (try clear hb)) | ((with_reducible refine gate_dst (N := 7) rfl ?_); refine box_event ?hg (N := 7) ?hd (cs := #[.int .i64 0, .int .i64 0, .int .i64 0]) (t := 60) ?hr ?_; (case hd => rfl); (case hg => rfl); (case hr => (go_simp; done)); intro gb1279 hg w19 hbox hb; have n0_ := Aside0.mk (Kd.R_below (Kd.R_elderB HO_4.out gb1279 (Nat.le_of_eq hg.symm)) hb); have n1_ := Aside0.mk (Kd.R_below HO_13.out hb); have n2_ := Aside0.mk (below_step HB.out hb); have n3_ := Aside0.mk (hbox); have n4_ := Aside0.mk ((by rw [hg]; exact (below_size HB.out) : w.heap.size ≤ gb1279)); have n5_ := Aside0.mk ((by rw [hg]; exact (below_size HB.out) : w.heap.size ≤ gb1279)); clear HO_4; clear HO_13; clear HB; have HO_4 := n0_; have HO_13 := n1_; have HB := n2_; have BK1279 := n3_; have GW1279 := n4_; have GE1279 := n5_; clear n0_ n1_ n2_ n3_ n4_ n5_; clear hb hbox hg; have hcz20_0 : w19.cell? ⟨gb1279, 0, none⟩ = some (.int .i64 0) := (blk_cell BK1279.out 0).trans rfl; have hcz20_1 : w19.cell? ⟨gb1279, 1, none⟩ = some (.int .i64 0) := (blk_cell BK1279.out 1).trans rfl; have hcz20_2 : w19.cell? ⟨gb1279, 2, none⟩ = some (.int .i64 0) := (blk_cell BK1279.out 2).trans rfl; have hfz20_0 := blk_frozen BK1279.out 0; have hfz20_1 := blk_frozen BK1279.out 1; have hfz20_2 := blk_frozen BK1279.out 2))
        go_ret2
        exact ⟨_, rfl, by exact Kd.R_nil _ _ _ _ _, by repeat ((with_reducible first | exact HB.out | refine below_set ?_ GE1279.out))⟩
      ·rw [if_neg c10] at H
       exact absurd H (by simp)
     ·rw [if_neg c9] at H
      exact absurd H (by simp)
    ·rw [if_neg c8] at H
     have c8b0 : decide (x15_1 < (t1271.length : Int)) = false := decide_eq_false c8
     clear c8
     replace H := Option.bind_eq_some_iff.mp H
     obtain ⟨t1283, A210, H⟩ := H
     have A21 := Aside0.mk A210
     clear A210
     by_cases c22 : t1283 = true
     ·subst c22
      rw [if_pos rfl] at H
      simp only [Option.some.injEq, Prod.mk.injEq] at H
      obtain ⟨rfl, rfl⟩ := H
      obtain ⟨Ao23, co23, eo23⟩ := Kd.R_slice HO_4.out
      subst eo23
      go_wp2_with (((with_reducible refine gate_callee (f := 133) rfl ?_); refine goesL_ (some 32) rfl rfl Try.func133 (by kernel_rfl) rfl #[.slice Ao23 x4_1.length co23] rfl (by (try simp only [List.map_toArray, List.map_cons, List.map_nil]); rfl) ?_; (with_reducible refine (impl_AreValidRows.calls k1 _ _ x4_1 true _ ?side1 ?side2 A21.out).mono ?_); (case side1 => repeat (exact (Kd.R_reads' HO_4.out).2.2)); (case side2 => exact (Kd.R_reads' HO_4.out).2.1); rintro e w24 ⟨rfl, hb⟩; refine ⟨_, rfl, ?_⟩; have n0_ := Aside0.mk (Kd.R_below HO_4.out hb); have n1_ := Aside0.mk (Kd.R_below HO_13.out hb); have n2_ := Aside0.mk (below_step HB.out hb); clear HO_4; clear HO_13; clear HB; have HO_4 := n0_; have HO_13 := n1_; have HB := n2_; clear n0_ n1_ n2_; (try clear hb)))
      go_ret2
      exact ⟨_, rfl, HO_4.out, HB.out⟩
     ·replace c22 := Bool.eq_false_iff.mpr c22
      subst c22
      rw [if_neg (show ¬ (false = true) by decide)] at H
      simp only [Option.some.injEq, Prod.mk.injEq] at H
      obtain ⟨rfl, rfl⟩ := H
      obtain ⟨Ao25, co25, eo25⟩ := Kd.R_slice HO_4.out
      subst eo25
      go_wp2_with (((with_reducible refine gate_callee (f := 133) rfl ?_); refine goesL_ (some 32) rfl rfl Try.func133 (by kernel_rfl) rfl #[.slice Ao25 x4_1.length co25] rfl (by (try simp only [List.map_toArray, List.map_cons, List.map_nil]); rfl) ?_; (with_reducible refine (impl_AreValidRows.calls k1 _ _ x4_1 false _ ?side1 ?side2 A21.out).mono ?_); (case side1 => repeat (exact (Kd.R_reads' HO_4.out).2.2)); (case side2 => exact (Kd.R_reads' HO_4.out).2.1); rintro e w26 ⟨rfl, hb⟩; refine ⟨_, rfl, ?_⟩; have n0_ := Aside0.mk (Kd.R_below HO_4.out hb); have n1_ := Aside0.mk (Kd.R_below HO_13.out hb); have n2_ := Aside0.mk (below_step HB.out hb); clear HO_4; clear HO_13; clear HB; have HO_4 := n0_; have HO_13 := n1_; have HB := n2_; clear n0_ n1_ n2_; (try clear hb)))
      go_ret2
      exact ⟨_, rfl, by exact Kd.R_nil _ _ _ _ _, HB.out⟩

def impl_ParseTask.l0 : Nat → ByteArray → List ByteArray → Bool → Bool → Bool → Bool → Int → Int → Int → List (S60) → List (S60) → List Bool → Int → Option (Int × (List (S60)) × (List (S60)) × List Bool × Int × Bool)
 | 0, _, _, _, _, _, _, _, _, _, _, _, _, _ => none
 | k + 1, x0, x4, x6, x8, x10, x12, x57, x58, x1305000, x1305001, x1305002, x1305003, x1305004 => if x58 < x57 then (if 3 < (x4.length : Int) then (if 0 ≤ x58 then (if x58 < ((rdOf ByteArray.empty x4 3).size : Int) then (if x1305003.length < 140737488355328 then (impl_ParseTask.l0 k x0 x4 x6 x8 x10 x12 x57 (wrap64 (x58 + 1)) x1305000 x1305001 x1305002 (x1305003 ++ [((bt (rdOf ByteArray.empty x4 3) x58) == 49)]) x1305004) else (none)) else (none)) else (none)) else (none)) else (if x6 = true then (if x8 = true then (if x10 = true then (if x12 = true then ((impl_IsValidTask.f k x1305000 x1305001 x1305002 x1305003 x1305004).bind fun t1310 => (if t1310 = true then ((impl_FormatTask.f k x1305000 x1305001 x1305002 x1305003 x1305004).bind fun t1311 => (if t1311.toList = x0.toList then (some (x1305000, x1305001, x1305002, x1305003, x1305004, true)) else (some (0, ([] : List (S60)), ([] : List (S60)), ([] : List Bool), 0, false)))) else (some (0, ([] : List (S60)), ([] : List (S60)), ([] : List Bool), 0, false)))) else (some (0, ([] : List (S60)), ([] : List (S60)), ([] : List Bool), 0, false))) else (some (0, ([] : List (S60)), ([] : List (S60)), ([] : List Bool), 0, false))) else (some (0, ([] : List (S60)), ([] : List (S60)), ([] : List Bool), 0, false))) else (some (0, ([] : List (S60)), ([] : List (S60)), ([] : List Bool), 0, false)))
def impl_ParseTask.f (k : Nat) (a0 : ByteArray) : Option (Int × (List (S60)) × (List (S60)) × List Bool × Int × Bool) := (impl_cut.f k a0 59).bind fun t1285 => (if (t1285.length : Int) = 5 then (if 0 < (t1285.length : Int) then ((impl_ParseInt.f k (rdOf ByteArray.empty t1285 0)).bind fun bt1289 => (if 1 < (t1285.length : Int) then ((impl_ParseRows.f k (rdOf ByteArray.empty t1285 1)).bind fun bt1292 => (if 2 < (t1285.length : Int) then ((impl_ParseRows.f k (rdOf ByteArray.empty t1285 2)).bind fun bt1297 => (if 4 < (t1285.length : Int) then ((impl_ParseInt.f k (rdOf ByteArray.empty t1285 4)).bind fun bt1302 => (if 3 < (t1285.length : Int) then (impl_ParseTask.l0 k a0 t1285 bt1289.2 bt1292.2 bt1297.2 bt1302.2 ((rdOf ByteArray.empty t1285 3).size : Int) 0 bt1289.1 bt1292.1 bt1297.1 ([] : List Bool) bt1302.1) else (none))) else (none))) else (none))) else (none))) else (none)) else (some (0, ([] : List (S60)), ([] : List (S60)), ([] : List Bool), 0, false)))
def impl_ParseTask.T12 : Bool × List (List Nat × List Nat) := (true, [([], []), ([0], [0]), ([], []), ([2], [2]), ([3], [3]), ([], []), ([4, 5], [4, 5]), ([6], [6]), ([7], [7]), ([1, 8], [1, 8]), ([0, 1, 2, 3, 4, 5, 6, 7, 8, 9], []), ([10, 9, 9, 0, 1, 2, 3, 4, 5, 6, 7, 8, 9], [9, 10])])
def impl_ParseTask.B12 : List Nat := [0, 1, 0, 4, 12, 0, 60, 124, 252, 511, 1023, 2047]
theorem impl_ParseTask.tab12 : rtab .any (opsOf Try.f41 12) = impl_ParseTask.T12 := by kernel_rfl
theorem impl_ParseTask.bits12 : waitsOk impl_ParseTask.T12.2 impl_ParseTask.B12 = true := by kernel_rfl
theorem impl_ParseTask.calls (k : Nat) (a0 : ByteArray) (r1 : Int) (r2 : List (S60)) (r3 : List (S60)) (r4 : List Bool) (r5 : Int) (r6 : Bool) (w : World) (h : impl_ParseTask.f k a0 = some (r1, r2, r3, r4, r5, r6)) :
  Calls Try.prog 41 #[.string a0] w fun e w' => ∃ v1_ v2_ v3_ : Value, e = .returned (.tuple #[.agg #[.int .i64 r1, v1_, v2_, v3_, .int .i64 r5], .bool r6]) ∧ Kd.R k60 60 w' w.heap.size (fun k_ => some k_ ≠ (v2_ : Value).ownBlock) v1_ r2 ∧ Kd.R k60 60 w' w.heap.size (fun k_ => some k_ ≠ (v1_ : Value).ownBlock) v2_ r3 ∧ Kd.R Kd.bool 4 w' w.heap.size (fun _ => True) v3_ r4 ∧ Below w.heap.size w w' := by
 have hu40 := Try.underlying40
 have HB := Aside0.mk (Below.refl w.heap.size w)
 have H : ((impl_cut.f k a0 59).bind fun t1285 => (if (t1285.length : Int) = 5 then (if 0 < (t1285.length : Int) then ((impl_ParseInt.f k (rdOf ByteArray.empty t1285 0)).bind fun bt1289 => (if 1 < (t1285.length : Int) then ((impl_ParseRows.f k (rdOf ByteArray.empty t1285 1)).bind fun bt1292 => (if 2 < (t1285.length : Int) then ((impl_ParseRows.f k (rdOf ByteArray.empty t1285 2)).bind fun bt1297 => (if 4 < (t1285.length : Int) then ((impl_ParseInt.f k (rdOf ByteArray.empty t1285 4)).bind fun bt1302 => (if 3 < (t1285.length : Int) then (impl_ParseTask.l0 k a0 t1285 bt1289.2 bt1292.2 bt1297.2 bt1302.2 ((rdOf ByteArray.empty t1285 3).size : Int) 0 bt1289.1 bt1292.1 bt1297.1 ([] : List Bool) bt1302.1) else (none))) else (none))) else (none))) else (none))) else (none)) else (some (0, ([] : List (S60)), ([] : List (S60)), ([] : List Bool), 0, false)))) = some (r1, r2, r3, r4, r5, r6) := h
 clear h
 replace H := Option.bind_eq_some_iff.mp H
 obtain ⟨t1285, A20, H⟩ := H
 have A2 := Aside0.mk A20
 clear A20
 by_cases c3 : (t1285.length : Int) = 5
 ·rw [if_pos c3] at H
  have c3b0 : ((t1285.length : Int) == 5) = true := beq_iff_eq.mpr c3
  have c3b1 : ((t1285.length : Int) != 5) = false := bne_eq_false_iff_eq.mpr c3
  clear c3
  by_cases c4 : 0 < (t1285.length : Int)
  ·rw [if_pos c4] at H
   have c4b0 : decide (0 < (t1285.length : Int)) = true := decide_eq_true c4
   have c4b1 : decide (0 < t1285.length) = true := decide_eq_true (by omega)
   clear c4
   replace H := Option.bind_eq_some_iff.mp H
   obtain ⟨⟨t1289, t1290⟩, A50, H⟩ := H
   have A5 := Aside0.mk A50
   clear A50
   by_cases c6 : 1 < (t1285.length : Int)
   ·rw [if_pos c6] at H
    have c6b0 : decide (1 < (t1285.length : Int)) = true := decide_eq_true c6
    have c6b1 : decide (1 < t1285.length) = true := decide_eq_true (by omega)
    clear c6
    replace H := Option.bind_eq_some_iff.mp H
    obtain ⟨⟨t1292, t1293⟩, A70, H⟩ := H
    have A7 := Aside0.mk A70
    clear A70
    by_cases c8 : 2 < (t1285.length : Int)
    ·rw [if_pos c8] at H
     have c8b0 : decide (2 < (t1285.length : Int)) = true := decide_eq_true c8
     have c8b1 : decide (2 < t1285.length) = true := decide_eq_true (by omega)
     clear c8
     replace H := Option.bind_eq_some_iff.mp H
     obtain ⟨⟨t1297, t1298⟩, A90, H⟩ := H
     have A9 := Aside0.mk A90
     clear A90
     by_cases c10 : 4 < (t1285.length : Int)
     ·rw [if_pos c10] at H
      have c10b0 : decide (4 < (t1285.length : Int)) = true := decide_eq_true c10
      have c10b1 : decide (4 < t1285.length) = true := decide_eq_true (by omega)
      clear c10
      replace H := Option.bind_eq_some_iff.mp H
      obtain ⟨⟨t1302, t1303⟩, A110, H⟩ := H
      have A11 := Aside0.mk A110
      clear A110
      by_cases c12 : 3 < (t1285.length : Int)
      ·rw [if_pos c12] at H
       have c12b0 : decide (3 < (t1285.length : Int)) = true := decide_eq_true c12
       have c12b1 : decide (3 < t1285.length) = true := decide_eq_true (by omega)
       clear c12
       have H' := Aside0.mk H
       clear H
       go_enter Try.func41, Try.ntmps41
       go_wp2_with (first | ((with_reducible refine gate_dst (N := 2) rfl ?_); refine box_event ?hg (N := 2) ?hd (cs := #[.int .i64 0, .slice none 0 0, .slice none 0 0, .slice none 0 0, .int .i64 0]) (t := 40) ?hr ?_; (case hd => rfl); (case hg => rfl); (case hr => (go_simp; done)); intro gb1284 hg w13 hbox hb; have n0_ := Aside0.mk (below_step HB.out hb); have n1_ := Aside0.mk (hbox); have n2_ := Aside0.mk ((by rw [hg]; exact (below_size HB.out) : w.heap.size ≤ gb1284)); have n3_ := Aside0.mk ((by rw [hg]; exact (below_size HB.out) : w.heap.size ≤ gb1284)); clear HB; have HB := n0_; have BK1284 := n1_; have GW1284 := n2_; have GE1284 := n3_; clear n0_ n1_ n2_ n3_; clear hb hbox hg) | ((with_reducible refine gate_callee (f := 139) rfl ?_); refine goesL_ (some 16) rfl rfl Try.func139 (by kernel_rfl) rfl #[.string a0, .int .u8 59] rfl (by (try simp only [List.map_toArray, List.map_cons, List.map_nil]); rfl) ?_; (with_reducible refine (impl_cut.calls k a0 59 t1285 _ A2.out).mono ?_); rintro e w14 ⟨v1286, rfl, ho0, hb⟩; refine ⟨_, rfl, ?_⟩; have n0_ := Aside0.mk (Kd.R_lower ho0 (below_size HB.out)); have n1_ := Aside0.mk (blk_below (g := gb1284) (o := .cells #[.int .i64 0, .slice none 0 0, .slice none 0 0, .slice none 0 0, .int .i64 0] 40 (0, 0)) BK1284.out hb); have n2_ := Aside0.mk (below_step HB.out hb); clear BK1284; clear HB; have HO1287 := n0_; have BK1284 := n1_; have HB := n2_; clear n0_ n1_ n2_; (try clear hb); (try clear ho0); obtain ⟨Ao15, co15, eo15⟩ := Kd.R_slice HO1287.out; subst eo15; have p1288 : 0 ≤ (0 : Int) := (by omega); have q1288 : 0 < (t1285.length : Int) := of_decide_eq_true (by (with_reducible assumption)); obtain ⟨ad1288, e1288, hx1288_0⟩ := Kd.at_string (Kd.R_reads' HO1287.out).2.2 0 p1288 q1288; cases e1288; have qi1288 : (0 < t1285.length) = True := eq_true (by omega); (try rw [show ((0 : Int)).toNat = 0 from rfl] at hx1288_0); (try rw [Addr.add_zero'] at hx1288_0); replace p1288 := eq_true p1288; replace q1288 := eq_true q1288) | ((with_reducible refine gate_callee (f := 140) rfl ?_); refine goesL_ (some 25) rfl rfl Try.func140 (by kernel_rfl) rfl #[.string (rdOf ByteArray.empty t1285 0)] rfl (by (try simp only [List.map_toArray, List.map_cons, List.map_nil]); rfl) ?_; (with_reducible refine (impl_ParseInt.calls k (rdOf ByteArray.empty t1285 0) t1289 t1290 _ A5.out).mono ?_); rintro e w16 ⟨rfl, hb⟩; refine ⟨_, rfl, ?_⟩; have n0_ := Aside0.mk (Kd.R_below HO1287.out hb); have n1_ := Aside0.mk (blk_below (g := gb1284) (o := .cells #[.int .i64 0, .slice none 0 0, .slice none 0 0, .slice none 0 0, .int .i64 0] 40 (0, 0)) BK1284.out hb); have n2_ := Aside0.mk (below_step HB.out hb); clear HO1287; clear BK1284; clear HB; have HO1287 := n0_; have BK1284 := n1_; have HB := n2_; clear n0_ n1_ n2_; (try clear hb); have p1291 : 0 ≤ (1 : Int) := (by omega); have q1291 : 1 < (t1285.length : Int) := of_decide_eq_true (by (with_reducible assumption)); obtain ⟨ad1291, e1291, hx1291_0⟩ := Kd.at_string (Kd.R_reads' HO1287.out).2.2 1 p1291 q1291; obtain rfl : ad1288 = ad1291 := (by injection e1291); (try simp only [show (1 : Int).toNat = 1 from rfl, Nat.reduceMul, Nat.reduceEqDiff, Go.Addr.add, ↓reduceIte] at hx1291_0); have qi1291 : (1 < t1285.length) = True := eq_true (by omega); (try rw [show ((1 : Int)).toNat = 1 from rfl] at hx1291_0); replace p1291 := eq_true p1291; replace q1291 := eq_true q1291) | ((with_reducible refine gate_callee (f := 141) rfl ?_); refine goesL_ (some 32) rfl rfl Try.func141 (by kernel_rfl) rfl #[.string (rdOf ByteArray.empty t1285 1)] rfl (by (try simp only [List.map_toArray, List.map_cons, List.map_nil]); rfl) ?_; (with_reducible refine (impl_ParseRows.calls k (rdOf ByteArray.empty t1285 1) t1292 t1293 _ A7.out).mono ?_); rintro e w17 ⟨v1294, rfl, ho0, hb⟩; refine ⟨_, rfl, ?_⟩; have n0_ := Aside0.mk (Kd.R_below HO1287.out hb); have n1_ := Aside0.mk (Kd.R_lower ho0 (below_size HB.out)); have n2_ := Aside0.mk (blk_below (g := gb1284) (o := .cells #[.int .i64 0, .slice none 0 0, .slice none 0 0, .slice none 0 0, .int .i64 0] 40 (0, 0)) BK1284.out hb); have n3_ := Aside0.mk (below_step HB.out hb); clear HO1287; clear BK1284; clear HB; have HO1287 := n0_; have HO1295 := n1_; have BK1284 := n2_; have HB := n3_; clear n0_ n1_ n2_ n3_; (try clear hb); (try clear ho0); have p1296 : 0 ≤ (2 : Int) := (by omega); have q1296 : 2 < (t1285.length : Int) := of_decide_eq_true (by (with_reducible assumption)); obtain ⟨ad1296, e1296, hx1296_0⟩ := Kd.at_string (Kd.R_reads' HO1287.out).2.2 2 p1296 q1296; obtain rfl : ad1288 = ad1296 := (by injection e1296); (try simp only [show (2 : Int).toNat = 2 from rfl, Nat.reduceMul, Nat.reduceEqDiff, Go.Addr.add, ↓reduceIte] at hx1296_0); have qi1296 : (2 < t1285.length) = True := eq_true (by omega); (try rw [show ((2 : Int)).toNat = 2 from rfl] at hx1296_0); replace p1296 := eq_true p1296; replace q1296 := eq_true q1296) | ((with_reducible refine gate_callee (f := 141) rfl ?_); refine goesL_ (some 39) rfl rfl Try.func141 (by kernel_rfl) rfl #[.string (rdOf ByteArray.empty t1285 2)] rfl (by (try simp only [List.map_toArray, List.map_cons, List.map_nil]); rfl) ?_; (with_reducible refine (impl_ParseRows.calls k (rdOf ByteArray.empty t1285 2) t1297 t1298 _ A9.out).mono ?_); rintro e w18 ⟨v1299, rfl, ho0, hb⟩; refine ⟨_, rfl, ?_⟩; have n0_ := Aside0.mk (Kd.R_below HO1287.out hb); have n1_ := Aside0.mk (Kd.R_elder' HO1295.out (Kd.R_base ho0) hb); have n2_ := Aside0.mk (Kd.R_lower (Kd.R_new' ho0 (Kd.R_lt HO1295.out)) (below_size HB.out)); have n3_ := Aside0.mk (blk_below (g := gb1284) (o := .cells #[.int .i64 0, .slice none 0 0, .slice none 0 0, .slice none 0 0, .int .i64 0] 40 (0, 0)) BK1284.out hb); have n4_ := Aside0.mk (below_step HB.out hb); clear HO1287; clear HO1295; clear BK1284; clear HB; have HO1287 := n0_; have HO1295 := n1_; have HO1300 := n2_; have BK1284 := n3_; have HB := n4_; clear n0_ n1_ n2_ n3_ n4_; (try clear hb); (try clear ho0); have p1301 : 0 ≤ (4 : Int) := (by omega); have q1301 : 4 < (t1285.length : Int) := of_decide_eq_true (by (with_reducible assumption)); obtain ⟨ad1301, e1301, hx1301_0⟩ := Kd.at_string (Kd.R_reads' HO1287.out).2.2 4 p1301 q1301; obtain rfl : ad1288 = ad1301 := (by injection e1301); (try simp only [show (4 : Int).toNat = 4 from rfl, Nat.reduceMul, Nat.reduceEqDiff, Go.Addr.add, ↓reduceIte] at hx1301_0); have qi1301 : (4 < t1285.length) = True := eq_true (by omega); (try rw [show ((4 : Int)).toNat = 4 from rfl] at hx1301_0); replace p1301 := eq_true p1301; replace q1301 := eq_true q1301) | ((with_reducible refine gate_callee (f := 140) rfl ?_); refine goesL_ (some 46) rfl rfl Try.func140 (by kernel_rfl) rfl #[.string (rdOf ByteArray.empty t1285 4)] rfl (by (try simp only [List.map_toArray, List.map_cons, List.map_nil]); rfl) ?_; (with_reducible refine (impl_ParseInt.calls k (rdOf ByteArray.empty t1285 4) t1302 t1303 _ A11.out).mono ?_); rintro e w19 ⟨rfl, hb⟩; refine ⟨_, rfl, ?_⟩; have n0_ := Aside0.mk (Kd.R_below HO1287.out hb); have n1_ := Aside0.mk (Kd.R_below HO1295.out hb); have n2_ := Aside0.mk (Kd.R_below HO1300.out hb); have n3_ := Aside0.mk (blk_below (g := gb1284) (o := .cells #[.int .i64 0, .slice none 0 0, .slice none 0 0, .slice none 0 0, .int .i64 0] 40 (0, 0)) BK1284.out hb); have n4_ := Aside0.mk (below_step HB.out hb); clear HO1287; clear HO1295; clear HO1300; clear BK1284; clear HB; have HO1287 := n0_; have HO1295 := n1_; have HO1300 := n2_; have BK1284 := n3_; have HB := n4_; clear n0_ n1_ n2_ n3_ n4_; (try clear hb); obtain ⟨Ao20, co20, eo20⟩ := Kd.R_slice HO1300.out; subst eo20; obtain ⟨Ao21, co21, eo21⟩ := Kd.R_slice HO1295.out; subst eo21) | ((with_reducible refine gate_dst (N := 13) rfl ?_); refine box_event ?hg (N := 13) ?hd (cs := #[.int .i64 0, .slice none 0 0, .slice none 0 0, .slice none 0 0, .int .i64 0]) (t := 40) ?hr ?_; (case hd => rfl); (case hg => rfl); (case hr => (go_simp; done)); intro gb1304 hg w22 hbox hb; have n0_ := Aside0.mk (Kd.R_below HO1287.out hb); have n1_ := Aside0.mk (Kd.R_below HO1295.out hb); have n2_ := Aside0.mk (Kd.R_below HO1300.out hb); have n3_ := Aside0.mk (blk_below (g := gb1284) (o := .cells #[.int .i64 0, .slice none 0 0, .slice none 0 0, .slice none 0 0, .int .i64 0] 40 (0, 0)) BK1284.out hb); have n4_ := Aside0.mk (below_step HB.out hb); have n5_ := Aside0.mk (hbox); have n6_ := Aside0.mk ((by rw [hg]; exact (below_size HB.out) : w.heap.size ≤ gb1304)); have n7_ := Aside0.mk ((by rw [hg]; exact (below_size HB.out) : w.heap.size ≤ gb1304)); have n8_ := Aside0.mk ((by rw [hg]; exact Nat.ne_of_lt (blk_lt (g := gb1284) (o := .cells #[.int .i64 0, .slice none 0 0, .slice none 0 0, .slice none 0 0, .int .i64 0] 40 (0, 0)) BK1284.out) : gb1284 ≠ gb1304)); have n9_ := Aside0.mk ((by rw [hg]; exact Nat.ne_of_gt (blk_lt (g := gb1284) (o := .cells #[.int .i64 0, .slice none 0 0, .slice none 0 0, .slice none 0 0, .int .i64 0] 40 (0, 0)) BK1284.out) : gb1304 ≠ gb1284)); clear HO1287; clear HO1295; clear HO1300; clear BK1284; clear HB; have HO1287 := n0_; have HO1295 := n1_; have HO1300 := n2_; have BK1284 := n3_; have HB := n4_; have BK1304 := n5_; have GW1304 := n6_; have GE1304 := n7_; have NB1284_1304 := n8_; have NB1304_1284 := n9_; clear n0_ n1_ n2_ n3_ n4_ n5_ n6_ n7_ n8_ n9_; clear hb hbox hg; have hnb23 := NB1304_1284.out; have hnc23 := NB1284_1304.out; have hcz24_0 : w22.cell? ⟨gb1304, 0, none⟩ = some (.int .i64 0) := (blk_cell BK1304.out 0).trans rfl; have hcz24_1 : w22.cell? ⟨gb1304, 1, none⟩ = some (.slice none 0 0) := (blk_cell BK1304.out 1).trans rfl; have hcz24_2 : w22.cell? ⟨gb1304, 2, none⟩ = some (.slice none 0 0) := (blk_cell BK1304.out 2).trans rfl; have hcz24_3 : w22.cell? ⟨gb1304, 3, none⟩ = some (.slice none 0 0) := (blk_cell BK1304.out 3).trans rfl; have hcz24_4 : w22.cell? ⟨gb1304, 4, none⟩ = some (.int .i64 0) := (blk_cell BK1304.out 4).trans rfl; have hfz24_0 := blk_frozen BK1304.out 0; have hfz24_1 := blk_frozen BK1304.out 1; have hfz24_2 := blk_frozen BK1304.out 2; have hfz24_3 := blk_frozen BK1304.out 3; have hfz24_4 := blk_frozen BK1304.out 4; have p1305 : 0 ≤ (3 : Int) := (by omega); have q1305 : 3 < (t1285.length : Int) := of_decide_eq_true (by (with_reducible assumption)); obtain ⟨ad1305, e1305, hx1305_0⟩ := Kd.at_string (Kd.R_reads' HO1287.out).2.2 3 p1305 q1305; obtain rfl : ad1288 = ad1305 := (by injection e1305); (try simp only [show (3 : Int).toNat = 3 from rfl, Nat.reduceMul, Nat.reduceEqDiff, Go.Addr.add, ↓reduceIte] at hx1305_0); have qi1305 : (3 < t1285.length) = True := eq_true (by omega); (try rw [show ((3 : Int)).toNat = 3 from rfl] at hx1305_0); have hn1305_0 : ad1288.block ≠ gb1304 := Kd.own_blk (Kd.R_ne HO1287.out BK1304.out (by decide)); have hn1305_1 : ad1288.block ≠ gb1304 := Kd.own_blk (Kd.R_ne HO1287.out BK1304.out (by decide)); have hn1305_2 : ad1288.block ≠ gb1304 := Kd.own_blk (Kd.R_ne HO1287.out BK1304.out (by decide)); have hn1305_3 : ad1288.block ≠ gb1304 := Kd.own_blk (Kd.R_ne HO1287.out BK1304.out (by decide)); have hn1305_4 : ad1288.block ≠ gb1304 := Kd.own_blk (Kd.R_ne HO1287.out BK1304.out (by decide)); replace hx1305_0 := (cell_far (p := ⟨gb1304, 0, none⟩) (by exact hn1305_0) (.int .i64 t1289)).trans hx1305_0; replace hx1305_0 := (cell_far (p := ⟨gb1304, 1, none⟩) (by exact hn1305_1) (.slice Ao21 t1292.length co21)).trans hx1305_0; replace hx1305_0 := (cell_far (p := ⟨gb1304, 2, none⟩) (by exact hn1305_2) (.slice Ao20 t1297.length co20)).trans hx1305_0; replace hx1305_0 := (cell_far (p := ⟨gb1304, 3, none⟩) (by exact hn1305_3) (.slice none 0 0)).trans hx1305_0; replace hx1305_0 := (cell_far (p := ⟨gb1304, 4, none⟩) (by exact hn1305_4) (.int .i64 t1302)).trans hx1305_0; clear hn1305_0; clear hn1305_1; clear hn1305_2; clear hn1305_3; clear hn1305_4; replace p1305 := eq_true p1305; replace q1305 := eq_true q1305))
       go_loopg [58] k (fun kq v58 w' => ∃ (x58_1 : Int) (x1305003_1 : List Bool) (u1305003 : Value), v58 = .int .i64 x58_1 ∧ Aside0 (impl_ParseTask.l0 kq a0 t1285 t1290 t1293 t1298 t1303 ((rdOf ByteArray.empty t1285 3).size : Int) x58_1 t1289 t1292 t1297 x1305003_1 t1302 = some (r1, r2, r3, r4, r5, r6)) ∧ Aside0 (kq ≤ k) ∧ Aside0 (Kd.R Kd.string 9 w' w.heap.size (fun _ => True) (.slice (some ad1288) t1285.length co15) t1285) ∧ Aside0 (Kd.R k60 60 w' w.heap.size (fun k_ => some k_ ≠ ((.slice Ao20 t1297.length co20) : Value).ownBlock) (.slice Ao21 t1292.length co21) t1292) ∧ Aside0 (Kd.R k60 60 w' w.heap.size (fun k_ => some k_ ≠ ((.slice Ao21 t1292.length co21) : Value).ownBlock) (.slice Ao20 t1297.length co20) t1297) ∧ Aside0 (Kd.R Kd.bool 4 w' w.heap.size (fun _ => True) u1305003 x1305003_1) ∧ Aside0 (w'.heap[gb1284]? = some (.cells #[.int .i64 0, (.slice none 0 0), (.slice none 0 0), (.slice none 0 0), .int .i64 0] 40 (0, 0))) ∧ Aside0 (w'.heap[gb1304]? = some (.cells #[.int .i64 t1289, (.slice Ao21 t1292.length co21), (.slice Ao20 t1297.length co20), u1305003, .int .i64 t1302] 40 (0, 0))) ∧ Aside0 (Below w.heap.size w w'))
       case atStart => exact ⟨(0), (([] : List Bool)), (.slice none 0 0), rfl, H', ⟨Nat.le_refl _⟩, ⟨by exact Kd.R_mono (Kd.R_far (p := ⟨gb1304, 4, none⟩) (Kd.R_far (p := ⟨gb1304, 3, none⟩) (Kd.R_far (p := ⟨gb1304, 2, none⟩) (Kd.R_far (p := ⟨gb1304, 1, none⟩) (Kd.R_far (p := ⟨gb1304, 0, none⟩) (Kd.R_types HO1287.out BK1304.out (by decide)) (fun _ hk => hk.2) (.int .i64 t1289)) (fun _ hk => hk.2) (.slice Ao21 t1292.length co21)) (fun _ hk => hk.2) (.slice Ao20 t1297.length co20)) (fun _ hk => hk.2) (.slice none 0 0)) (fun _ hk => hk.2) (.int .i64 t1302)) (fun _ hk => trivial)⟩, ⟨by exact Kd.R_mono (Kd.R_far (p := ⟨gb1304, 4, none⟩) (Kd.R_far (p := ⟨gb1304, 3, none⟩) (Kd.R_far (p := ⟨gb1304, 2, none⟩) (Kd.R_far (p := ⟨gb1304, 1, none⟩) (Kd.R_far (p := ⟨gb1304, 0, none⟩) (Kd.R_types HO1295.out BK1304.out (by decide)) (fun _ hk => hk.2) (.int .i64 t1289)) (fun _ hk => hk.2) (.slice Ao21 t1292.length co21)) (fun _ hk => hk.2) (.slice Ao20 t1297.length co20)) (fun _ hk => hk.2) (.slice none 0 0)) (fun _ hk => hk.2) (.int .i64 t1302)) (fun _ hk => hk.1.2)⟩, ⟨by exact Kd.R_mono (Kd.R_far (p := ⟨gb1304, 4, none⟩) (Kd.R_far (p := ⟨gb1304, 3, none⟩) (Kd.R_far (p := ⟨gb1304, 2, none⟩) (Kd.R_far (p := ⟨gb1304, 1, none⟩) (Kd.R_far (p := ⟨gb1304, 0, none⟩) (Kd.R_types HO1300.out BK1304.out (by decide)) (fun _ hk => hk.2) (.int .i64 t1289)) (fun _ hk => hk.2) (.slice Ao21 t1292.length co21)) (fun _ hk => hk.2) (.slice Ao20 t1297.length co20)) (fun _ hk => hk.2) (.slice none 0 0)) (fun _ hk => hk.2) (.int .i64 t1302)) (fun _ hk => hk.1.2)⟩, ⟨by exact Kd.R_nil _ _ _ _ _⟩, ⟨by refine blk_far ?_ NB1284_1304.out _; refine blk_far ?_ NB1284_1304.out _; refine blk_far ?_ NB1284_1304.out _; refine blk_far ?_ NB1284_1304.out _; refine blk_far ?_ NB1284_1304.out _; exact BK1284.out⟩, ⟨by refine blk_put (cs := #[.int .i64 t1289, .slice Ao21 t1292.length co21, .slice Ao20 t1297.length co20, .slice none 0 0, .int .i64 0]) ?_ 4 _ rfl; refine blk_put (cs := #[.int .i64 t1289, .slice Ao21 t1292.length co21, .slice Ao20 t1297.length co20, .slice none 0 0, .int .i64 0]) ?_ 3 _ rfl; refine blk_put (cs := #[.int .i64 t1289, .slice Ao21 t1292.length co21, .slice none 0 0, .slice none 0 0, .int .i64 0]) ?_ 2 _ rfl; refine blk_put (cs := #[.int .i64 t1289, .slice none 0 0, .slice none 0 0, .slice none 0 0, .int .i64 0]) ?_ 1 _ rfl; refine blk_put (cs := #[.int .i64 0, .slice none 0 0, .slice none 0 0, .slice none 0 0, .int .i64 0]) ?_ 0 _ rfl; exact BK1304.out⟩, ⟨by repeat ((with_reducible first | exact HB.out | refine below_set ?_ GE1304.out))⟩⟩
       case round =>
        clear H'
        try clear c3b0
        try clear c3b1
        try clear c4b0
        try clear c4b1
        try clear c6b0
        try clear c6b1
        try clear c8b0
        try clear c8b1
        try clear c10b0
        try clear c10b1
        try clear c12b0
        try clear c12b1
        try clear hcz24_0
        try clear hcz24_1
        try clear hcz24_2
        try clear hcz24_3
        try clear hcz24_4
        try clear hfz24_0
        try clear hfz24_1
        try clear hfz24_2
        try clear hfz24_3
        try clear hfz24_4
        try clear hx1288_0
        try clear hx1291_0
        try clear hx1296_0
        try clear hx1301_0
        try clear hx1305_0
        try clear p1288
        try clear p1291
        try clear p1296
        try clear p1301
        try clear p1305
        try clear q1288
        try clear q1291
        try clear q1296
        try clear q1301
        try clear q1305
        obtain ⟨x58_1, x1305003_1, u1305003, rfl, HA, HK1, HO_4, HO_1305001, HO_1305002, HO_1305003, BK1284, BK1304, HB⟩ := hrel
        cases gk with
        | zero => exact absurd HA.out (by simp [impl_ParseTask.l0])
        | succ k1 =>
         have H := HA.out
         clear HA
         simp only [impl_ParseTask.l0] at H
         by_cases c25 : x58_1 < ((rdOf ByteArray.empty t1285 3).size : Int)
         ·rw [if_pos c25] at H
          have c25b0 : decide (x58_1 < ((rdOf ByteArray.empty t1285 3).size : Int)) = true := decide_eq_true c25
          clear c25
          by_cases c26 : 3 < (t1285.length : Int)
          ·rw [if_pos c26] at H
           have c26b0 : decide (3 < (t1285.length : Int)) = true := decide_eq_true c26
           have c26b1 : decide (3 < t1285.length) = true := decide_eq_true (by omega)
           clear c26
           by_cases c27 : 0 ≤ x58_1
           ·rw [if_pos c27] at H
            have c27b0 : decide (0 ≤ x58_1) = true := decide_eq_true c27
            clear c27
            by_cases c28 : x58_1 < ((rdOf ByteArray.empty t1285 3).size : Int)
            ·rw [if_pos c28] at H
             have c28b0 : decide (x58_1 < ((rdOf ByteArray.empty t1285 3).size : Int)) = true := decide_eq_true c28
             clear c28
             by_cases c30 : x1305003_1.length < 140737488355328
             ·rw [if_pos c30] at H
              have LMc30 := Aside0.mk c30
              clear c30
              obtain ⟨y1307, hy1307⟩ : ∃ y_ : List Bool, y_ = (x1305003_1 ++ [((bt (rdOf ByteArray.empty t1285 3) x58_1) == 49)]) := ⟨_, rfl⟩
              replace H : (impl_ParseTask.l0 k1 a0 t1285 t1290 t1293 t1298 t1303 ((rdOf ByteArray.empty t1285 3).size : Int) (wrap64 (x58_1 + 1)) t1289 t1292 t1297 y1307 t1302) = some (r1, r2, r3, r4, r5, r6) := by (rw [hy1307]; with_reducible exact H)
              have Ny1307 := Aside0.mk hy1307
              clear hy1307
              have H' := Aside0.mk H
              clear H
              try go_wp2
              have n0_ := Aside0.mk (Kd.R_drew HO_4.out)
              have n1_ := Aside0.mk (Kd.R_drew HO_1305001.out)
              have n2_ := Aside0.mk (Kd.R_drew HO_1305002.out)
              have n3_ := Aside0.mk (Kd.R_drew HO_1305003.out)
              have n4_ := Aside0.mk (blk_drew BK1284.out)
              have n5_ := Aside0.mk (blk_drew BK1304.out)
              have n6_ := Aside0.mk (below_drew1 HB.out)
              clear HO_4
              clear HO_1305001
              clear HO_1305002
              clear HO_1305003
              clear BK1284
              clear BK1304
              clear HB
              have HO_4 := n0_
              have HO_1305001 := n1_
              have HO_1305002 := n2_
              have HO_1305003 := n3_
              have BK1284 := n4_
              have BK1304 := n5_
              have HB := n6_
              clear n0_ n1_ n2_ n3_ n4_ n5_ n6_
              have p1306 : 0 ≤ (3 : Int) := (by omega)
              have q1306 : 3 < (t1285.length : Int) := of_decide_eq_true (by (with_reducible assumption))
              obtain ⟨ad1306, e1306, hx1306_0⟩ := Kd.at_string (Kd.R_reads' HO_4.out).2.2 3 p1306 q1306
              obtain rfl : ad1288 = ad1306 := (by injection e1306)
              (try simp only [show (3 : Int).toNat = 3 from rfl, Nat.reduceMul, Nat.reduceEqDiff, Go.Addr.add, ↓reduceIte] at hx1306_0)
              have qi1306 : (3 < t1285.length) = True := eq_true (by omega)
              (try rw [show ((3 : Int)).toNat = 3 from rfl] at hx1306_0)
              replace p1306 := eq_true p1306
              replace q1306 := eq_true q1306
              have p29 : 0 ≤ (x58_1 : Int) := of_decide_eq_true (by (with_reducible assumption))
              have q29 : x58_1 < ((rdOf ByteArray.empty t1285 3).size : Int) := of_decide_eq_true (by (with_reducible assumption))
              have hx29 := bt_at (rdOf ByteArray.empty t1285 3) x58_1
              replace p29 := eq_true p29
              replace q29 := eq_true q29
              refine start_ (n := 12) (S := fun w' => w'.cell? ⟨gb1304, 0, none⟩ = some (.int .i64 t1289) ∧ w'.cell? ⟨gb1304, 1, none⟩ = some (.slice Ao21 t1292.length co21) ∧ w'.cell? ⟨gb1304, 2, none⟩ = some (.slice Ao20 t1297.length co20) ∧ w'.cell? ⟨gb1304, 3, none⟩ = some (u1305003) ∧ w'.cell? ⟨gb1304, 4, none⟩ = some (.int .i64 t1302) ∧ w'.cell? ⟨ad1288.block, ad1288.off + 3, none⟩ = some (.string (rdOf ByteArray.empty t1285 3))) (ds := [9, 11]) #[false, false, false, false, false, false, false, false, false, false, false, false] (by kernel_rfl) rfl rfl ⟨(blk_cell BK1304.out 0).trans rfl, (blk_cell BK1304.out 1).trans rfl, (blk_cell BK1304.out 2).trans rfl, (blk_cell BK1304.out 3).trans rfl, (blk_cell BK1304.out 4).trans rfl, hx1306_0⟩ (fun hHeld => ?_); refine with_tabW impl_ParseTask.tab12 impl_ParseTask.bits12 (fun HT_ HW_ => ?_)
              generalize wr.drew = w31 at HO_4 HO_1305001 HO_1305002 HO_1305003 BK1284 BK1304 HB hx1306_0 hHeld ⊢
              refine pure_ (i := 0) (N := some 61) (v := ?_) (a' := ?_) #[true, false, false, false, false, false, false, false, false, false, false, false] rfl rfl (any_of HT_.out (by kernel_rfl)) (fun _ _ _ h => h) (Or.inl ⟨rfl, ?_⟩) ?_ ?_
              rotate_left
              ·intro w'
               go_simp
               with_reducible rfl
              rotate_left
              ·simp only [Act.put, List.setIfInBounds_toArray, List.set_cons_zero, List.set_cons_succ, i64_w, i32_w]
               rfl
              refine pure_ (i := 2) (N := some 63) (v := ?_) (a' := ?_) #[true, false, true, false, false, false, false, false, false, false, false, false] rfl rfl (any_of HT_.out (by kernel_rfl)) (fun _ _ _ h => h) (Or.inl ⟨rfl, ?_⟩) ?_ ?_
              rotate_left
              ·intro w'
               go_simp
               with_reducible rfl
              rotate_left
              ·simp only [Act.put, List.setIfInBounds_toArray, List.set_cons_zero, List.set_cons_succ, i64_w, i32_w]
               rfl
              refine pure_ (i := 3) (N := some 64) (v := ?_) (a' := ?_) #[true, false, true, true, false, false, false, false, false, false, false, false] rfl rfl (any_of HT_.out (by kernel_rfl)) (fun _ _ _ h => h) (Or.inl ⟨rfl, ?_⟩) ?_ ?_
              rotate_left
              ·intro w'
               go_simp
               with_reducible rfl
              rotate_left
              ·simp only [Act.put, List.setIfInBounds_toArray, List.set_cons_zero, List.set_cons_succ, i64_w, i32_w]
               rfl
              refine pure_ (i := 5) (N := some 66) (v := ?_) (a' := ?_) #[true, false, true, true, false, true, false, false, false, false, false, false] rfl rfl (any_of HT_.out (by kernel_rfl)) (fun _ _ _ h => h) (Or.inl ⟨rfl, ?_⟩) ?_ ?_
              rotate_left
              ·intro w'
               go_simp
               with_reducible rfl
              rotate_left
              ·simp only [Act.put, List.setIfInBounds_toArray, List.set_cons_zero, List.set_cons_succ, i64_w, i32_w]
               rfl
              refine take_ (i := 1) (N := some 62) (v := ?_) (a' := ?_) #[true, true, true, true, false, true, false, false, false, false, false, false] rfl rfl (take_ofW HT_.out HW_.out (by kernel_rfl)) (fun _ _ _ h => h) (Or.inl ⟨rfl, ?_⟩) hHeld ?_ ?_
              rotate_left
              ·rintro w' ⟨s0, s1, s2, s3, s4, s5⟩
               go_simp
               with_reducible rfl
              rotate_left
              ·simp only [Act.put, List.setIfInBounds_toArray, List.set_cons_zero, List.set_cons_succ, i64_w, i32_w]
               rfl
              refine take_ (i := 4) (N := some 65) (v := ?_) (a' := ?_) #[true, true, true, true, true, true, false, false, false, false, false, false] rfl rfl (take_ofW HT_.out HW_.out (by kernel_rfl)) (fun _ _ _ h => h) (Or.inl ⟨rfl, ?_⟩) hHeld ?_ ?_
              rotate_left
              ·rintro w' ⟨s0, s1, s2, s3, s4, s5⟩
               go_simp
               with_reducible rfl
              rotate_left
              ·simp only [Act.put, List.setIfInBounds_toArray, List.set_cons_zero, List.set_cons_succ, i64_w, i32_w]
               rfl
              refine take_ (i := 6) (N := some 67) (v := ?_) (a' := ?_) #[true, true, true, true, true, true, true, false, false, false, false, false] rfl rfl (take_ofW HT_.out HW_.out (by kernel_rfl)) (fun _ _ _ h => h) (Or.inl ⟨rfl, ?_⟩) hHeld ?_ ?_
              rotate_left
              ·rintro w' ⟨s0, s1, s2, s3, s4, s5⟩
               go_simp
               with_reducible rfl
              rotate_left
              ·simp only [Act.put, List.setIfInBounds_toArray, List.set_cons_zero, List.set_cons_succ, i64_w, i32_w]
               rfl
              refine pure_ (i := 7) (N := some 68) (v := ?_) (a' := ?_) #[true, true, true, true, true, true, true, true, false, false, false, false] rfl rfl (any_of HT_.out (by kernel_rfl)) (fun _ _ _ h => h) (Or.inl ⟨rfl, ?_⟩) ?_ ?_
              rotate_left
              ·intro w'
               go_simp
               with_reducible rfl
              rotate_left
              ·simp only [Act.put, List.setIfInBounds_toArray, List.set_cons_zero, List.set_cons_succ, i64_w, i32_w]
               rfl
              refine one_ (i := 8) (N := some 69) #[true, true, true, true, true, true, true, true, true, false, false, false] rfl rfl (one_of HT_.out (by kernel_rfl)) (by decide) (fun K hK => ?_)
              refine value_ (w1 := ?_) (v := ?_) rfl rfl ?_ ?_
              rotate_left 2
              ·go_simp
               constructor
               ·rfl
               ·rfl
              refine hK.out _ _ ⟨(blk_cell (blk_alloc BK1304.out _) 0).trans rfl, (blk_cell (blk_alloc BK1304.out _) 1).trans rfl, (blk_cell (blk_alloc BK1304.out _) 2).trans rfl, (blk_cell (blk_alloc BK1304.out _) 3).trans rfl, (blk_cell (blk_alloc BK1304.out _) 4).trans rfl, (World.cell?_alloc_lt _ _ _ (World.block_lt_of_cell? _ _ (hHeld.2.2.2.2.2))).trans (hHeld.2.2.2.2.2)⟩ (fun hHeld => ?_)
              clear hK K
              refine norm_ (a' := ?_) ?_ ?_
              rotate_left
              ·show Act.put _ (some 69) _ = _
               simp only [Act.put, List.setIfInBounds_toArray, List.set_cons_zero, List.set_cons_succ, i64_w, i32_w]
               rfl
              refine last_ (i := 9) (N := some 70) #[true, true, true, true, true, true, true, true, true, true, false, false] rfl rfl (one_of HT_.out (by kernel_rfl)) (by decide) (fun K hK => ?_)
              refine Kd.R_append_step Kd.bool (w0 := w) w.heap.size rfl (.tmp 62) (.tmp 69) 38 4 (.bool false) 1 rfl Try.underlying38 info4 rfl (by decide) (by omega) u1305003 x1305003_1 ((bt (rdOf ByteArray.empty t1285 3) x58_1) == 49) [.bool ((bt (rdOf ByteArray.empty t1285 3) x58_1) == 49)] (fun _ => True) (fun _ => False) rfl rfl ?aP (fun _ hk => hk.elim) ?aF ?aO ?aB ?aS ?aL ?_
              (case aP => exact rfl)
              (case aB => exact HB.out)
              (case aF => exact (fun _ _ => trivial))
              (case aO => exact HO_1305003.out)
              (case aS => exact (below_size HB.out))
              (case aL => have := LMc30.out; omega)
              intro v1308 w32 ho hb hg hat
              rw [← Ny1307.out] at ho
              have n0_ := Aside0.mk (Kd.R_over' HO_4.out (Kd.R_typed HO_1305003.out) (by decide) hg)
              have n1_ := Aside0.mk (Kd.R_over' HO_1305001.out (Kd.R_typed HO_1305003.out) (by decide) hg)
              have n2_ := Aside0.mk (Kd.R_over' HO_1305002.out (Kd.R_typed HO_1305003.out) (by decide) hg)
              have n3_ := Aside0.mk (blk_grown (g := gb1284) (o := .cells #[.int .i64 0, .slice none 0 0, .slice none 0 0, .slice none 0 0, .int .i64 0] 40 (0, 0)) BK1284.out hg (Kd.R_ne HO_1305003.out BK1284.out (by decide)))
              have n4_ := Aside0.mk (blk_grown (g := gb1304) (o := .cells #[.int .i64 t1289, .slice Ao21 t1292.length co21, .slice Ao20 t1297.length co20, u1305003, .int .i64 t1302] 40 (0, 0)) BK1304.out hg (Kd.R_ne HO_1305003.out BK1304.out (by decide)))
              have n5_ := Aside0.mk (hb)
              have n6_ := Aside0.mk (ho)
              clear HO_4
              clear HO_1305001
              clear HO_1305002
              clear BK1284
              clear BK1304
              clear HB
              clear HO_1305003
              have HO_4 := n0_
              have HO_1305001 := n1_
              have HO_1305002 := n2_
              have BK1284 := n3_
              have BK1304 := n4_
              have HB := n5_
              have HO1309 := n6_
              clear n0_ n1_ n2_ n3_ n4_ n5_ n6_
              clear ho hb hg hat
              obtain ⟨Ao33, co33, eo33⟩ := Kd.R_slice HO1309.out
              (subst eo33)
              refine hK.out _ _ ?_
              clear hK K
              refine norm_ (a' := ?_) ?_ ?_
              rotate_left
              ·show Act.put _ (some 70) _ = _
               simp only [Act.put, List.setIfInBounds_toArray, List.set_cons_zero, List.set_cons_succ, i64_w, i32_w]
               rfl
              refine pure_ (i := 10) (N := some 71) (v := ?_) (a' := ?_) #[true, true, true, true, true, true, true, true, true, true, true, false] rfl rfl (any_of HT_.out (by kernel_rfl)) (fun _ _ _ h => h) (Or.inl ⟨rfl, ?_⟩) ?_ ?_
              rotate_left
              ·intro w'
               go_simp
               with_reducible rfl
              rotate_left
              ·simp only [Act.put, List.setIfInBounds_toArray, List.set_cons_zero, List.set_cons_succ, i64_w, i32_w]
               rfl
              refine last_ (i := 11) (N := none) #[true, true, true, true, true, true, true, true, true, true, true, true] rfl rfl (one_of HT_.out (by kernel_rfl)) (by decide) (fun K hK => ?_)
              have hs34 : w32.cell? ⟨gb1304, 3, none⟩ = some (u1305003) := (blk_cell BK1304.out 3).trans rfl
              have hfs34 := blk_frozen BK1304.out 3
              have hns34_0 := NB1284_1304.out
              have hms34_0 := NB1304_1284.out
              refine skip_ (w1 := ?_) rfl rfl ?_ ?_
              rotate_left
              ·go_simp
               rfl
              refine hK.out _ _ ?_
              clear hK K
              refine done_ (done_of HT_.out (by kernel_rfl)) ?_
              try go_wp2
              go_roundg k1
              case measure => have := HK1.out; omega
              case rel => exact ⟨(wrap64 (x58_1 + 1)), (y1307), (.slice Ao33 y1307.length co33), rfl, H', ⟨by have := HK1.out; omega⟩, ⟨by exact Kd.R_mono (Kd.R_far (p := ⟨gb1304, 3, none⟩) (Kd.R_types HO_4.out BK1304.out (by decide)) (fun _ hk => hk.2) (.slice Ao33 y1307.length co33)) (fun _ hk => trivial)⟩, ⟨by exact Kd.R_mono (Kd.R_far (p := ⟨gb1304, 3, none⟩) (Kd.R_types HO_1305001.out BK1304.out (by decide)) (fun _ hk => hk.2) (.slice Ao33 y1307.length co33)) (fun _ hk => hk.1)⟩, ⟨by exact Kd.R_mono (Kd.R_far (p := ⟨gb1304, 3, none⟩) (Kd.R_types HO_1305002.out BK1304.out (by decide)) (fun _ hk => hk.2) (.slice Ao33 y1307.length co33)) (fun _ hk => hk.1)⟩, ⟨by exact Kd.R_mono (Kd.R_far (p := ⟨gb1304, 3, none⟩) (Kd.R_types HO1309.out BK1304.out (by decide)) (fun _ hk => hk.2) (.slice Ao33 y1307.length co33)) (fun _ hk => trivial)⟩, ⟨by refine blk_far ?_ NB1284_1304.out _; exact BK1284.out⟩, ⟨by refine blk_put (cs := #[.int .i64 t1289, .slice Ao21 t1292.length co21, .slice Ao20 t1297.length co20, u1305003, .int .i64 t1302]) ?_ 3 _ rfl; exact BK1304.out⟩, ⟨by repeat ((with_reducible first | exact HB.out | refine below_set ?_ GE1304.out))⟩⟩
             ·rw [if_neg c30] at H
              exact absurd H (by simp)
            ·rw [if_neg c28] at H
             exact absurd H (by simp)
           ·rw [if_neg c27] at H
            exact absurd H (by simp)
          ·rw [if_neg c26] at H
           exact absurd H (by simp)
         ·rw [if_neg c25] at H
          have c25b0 : decide (x58_1 < ((rdOf ByteArray.empty t1285 3).size : Int)) = false := decide_eq_false c25
          clear c25
          by_cases c35 : t1290 = true
          ·subst c35
           rw [if_pos rfl] at H
           by_cases c36 : t1293 = true
           ·subst c36
            rw [if_pos rfl] at H
            by_cases c37 : t1298 = true
            ·subst c37
             rw [if_pos rfl] at H
             by_cases c38 : t1303 = true
             ·subst c38
              rw [if_pos rfl] at H
              replace H := Option.bind_eq_some_iff.mp H
              obtain ⟨t1310, A390, H⟩ := H
              have A39 := Aside0.mk A390
              clear A390
              by_cases c40 : t1310 = true
              ·subst c40
               rw [if_pos rfl] at H
               replace H := Option.bind_eq_some_iff.mp H
               obtain ⟨t1311, A410, H⟩ := H
               have A41 := Aside0.mk A410
               clear A410
               by_cases c42 : t1311.toList = a0.toList
               ·rw [if_pos c42] at H
                have c42b0 : (t1311.toList == a0.toList) = true := beq_iff_eq.mpr c42
                have c42b1 : (t1311.toList != a0.toList) = false := bne_eq_false_iff_eq.mpr c42
                clear c42
                simp only [Option.some.injEq, Prod.mk.injEq] at H
                obtain ⟨rfl, rfl, rfl, rfl, rfl, rfl⟩ := H
                have hnb43 := NB1304_1284.out
                have hnc43 := NB1284_1304.out
                have hcz44_0 : wr.cell? ⟨gb1304, 0, none⟩ = some (.int .i64 t1289) := (blk_cell BK1304.out 0).trans rfl
                have hcz44_1 : wr.cell? ⟨gb1304, 1, none⟩ = some (.slice Ao21 t1292.length co21) := (blk_cell BK1304.out 1).trans rfl
                have hcz44_2 : wr.cell? ⟨gb1304, 2, none⟩ = some (.slice Ao20 t1297.length co20) := (blk_cell BK1304.out 2).trans rfl
                have hcz44_3 : wr.cell? ⟨gb1304, 3, none⟩ = some (u1305003) := (blk_cell BK1304.out 3).trans rfl
                have hcz44_4 : wr.cell? ⟨gb1304, 4, none⟩ = some (.int .i64 t1302) := (blk_cell BK1304.out 4).trans rfl
                have hfz44_0 := blk_frozen BK1304.out 0
                have hfz44_1 := blk_frozen BK1304.out 1
                have hfz44_2 := blk_frozen BK1304.out 2
                have hfz44_3 := blk_frozen BK1304.out 3
                have hfz44_4 := blk_frozen BK1304.out 4
                obtain ⟨Ao45, co45, eo45⟩ := Kd.R_slice HO_1305003.out
                subst eo45
                go_wp2_with (first | (go_at_call 39; (with_reducible refine (impl_IsValidTask.calls k1 t1289 _ _ t1292 _ _ t1297 _ _ x1305003_1 t1302 true _ ?side1 ?side2 ?side3 ?side4 ?side5 ?side6 A39.out).mono ?_); (case side1 => repeat (exact (Kd.R_reads' HO_1305001.out).2.2)); (case side2 => exact (Kd.R_reads' HO_1305001.out).2.1); (case side3 => repeat (exact (Kd.R_reads' HO_1305002.out).2.2)); (case side4 => exact (Kd.R_reads' HO_1305002.out).2.1); (case side5 => repeat (exact (Kd.R_reads' HO_1305003.out).2.2)); (case side6 => exact (Kd.R_reads' HO_1305003.out).2.1); rintro e w46 ⟨rfl, hb⟩; have n0_ := Aside0.mk (Kd.R_below HO_4.out hb); have n1_ := Aside0.mk (Kd.R_below HO_1305001.out hb); have n2_ := Aside0.mk (Kd.R_below HO_1305002.out hb); have n3_ := Aside0.mk (Kd.R_below HO_1305003.out hb); have n4_ := Aside0.mk (blk_below (g := gb1284) (o := .cells #[.int .i64 0, .slice none 0 0, .slice none 0 0, .slice none 0 0, .int .i64 0] 40 (0, 0)) BK1284.out hb); have n5_ := Aside0.mk (blk_below (g := gb1304) (o := .cells #[.int .i64 t1289, .slice Ao21 t1292.length co21, .slice Ao20 t1297.length co20, .slice Ao45 x1305003_1.length co45, .int .i64 t1302] 40 (0, 0)) BK1304.out hb); have n6_ := Aside0.mk (below_step HB.out hb); clear HO_4; clear HO_1305001; clear HO_1305002; clear HO_1305003; clear BK1284; clear BK1304; clear HB; have HO_4 := n0_; have HO_1305001 := n1_; have HO_1305002 := n2_; have HO_1305003 := n3_; have BK1284 := n4_; have BK1304 := n5_; have HB := n6_; clear n0_ n1_ n2_ n3_ n4_ n5_ n6_; (try clear hb); have hcz47_0 : w46.cell? ⟨gb1304, 0, none⟩ = some (.int .i64 t1289) := (blk_cell BK1304.out 0).trans rfl; have hcz47_1 : w46.cell? ⟨gb1304, 1, none⟩ = some (.slice Ao21 t1292.length co21) := (blk_cell BK1304.out 1).trans rfl; have hcz47_2 : w46.cell? ⟨gb1304, 2, none⟩ = some (.slice Ao20 t1297.length co20) := (blk_cell BK1304.out 2).trans rfl; have hcz47_3 : w46.cell? ⟨gb1304, 3, none⟩ = some (.slice Ao45 x1305003_1.length co45) := (blk_cell BK1304.out 3).trans rfl; have hcz47_4 : w46.cell? ⟨gb1304, 4, none⟩ = some (.int .i64 t1302) := (blk_cell BK1304.out 4).trans rfl; have hfz47_0 := blk_frozen BK1304.out 0; have hfz47_1 := blk_frozen BK1304.out 1; have hfz47_2 := blk_frozen BK1304.out 2; have hfz47_3 := blk_frozen BK1304.out 3; have hfz47_4 := blk_frozen BK1304.out 4) | (go_at_call 57; (with_reducible refine (impl_FormatTask.calls k1 t1289 _ _ t1292 _ _ t1297 _ _ x1305003_1 t1302 t1311 _ ?side1 ?side2 ?side3 ?side4 ?side5 ?side6 A41.out).mono ?_); (case side1 => repeat (exact (Kd.R_reads' HO_1305001.out).2.2)); (case side2 => exact (Kd.R_reads' HO_1305001.out).2.1); (case side3 => repeat (exact (Kd.R_reads' HO_1305002.out).2.2)); (case side4 => exact (Kd.R_reads' HO_1305002.out).2.1); (case side5 => repeat (exact (Kd.R_reads' HO_1305003.out).2.2)); (case side6 => exact (Kd.R_reads' HO_1305003.out).2.1); rintro e w48 ⟨rfl, hb⟩; have n0_ := Aside0.mk (Kd.R_below HO_4.out hb); have n1_ := Aside0.mk (Kd.R_below HO_1305001.out hb); have n2_ := Aside0.mk (Kd.R_below HO_1305002.out hb); have n3_ := Aside0.mk (Kd.R_below HO_1305003.out hb); have n4_ := Aside0.mk (blk_below (g := gb1284) (o := .cells #[.int .i64 0, .slice none 0 0, .slice none 0 0, .slice none 0 0, .int .i64 0] 40 (0, 0)) BK1284.out hb); have n5_ := Aside0.mk (blk_below (g := gb1304) (o := .cells #[.int .i64 t1289, .slice Ao21 t1292.length co21, .slice Ao20 t1297.length co20, .slice Ao45 x1305003_1.length co45, .int .i64 t1302] 40 (0, 0)) BK1304.out hb); have n6_ := Aside0.mk (below_step HB.out hb); clear HO_4; clear HO_1305001; clear HO_1305002; clear HO_1305003; clear BK1284; clear BK1304; clear HB; have HO_4 := n0_; have HO_1305001 := n1_; have HO_1305002 := n2_; have HO_1305003 := n3_; have BK1284 := n4_; have BK1304 := n5_; have HB := n6_; clear n0_ n1_ n2_ n3_ n4_ n5_ n6_; (try clear hb); have hcz49_0 : w48.cell? ⟨gb1304, 0, none⟩ = some (.int .i64 t1289) := (blk_cell BK1304.out 0).trans rfl; have hcz49_1 : w48.cell? ⟨gb1304, 1, none⟩ = some (.slice Ao21 t1292.length co21) := (blk_cell BK1304.out 1).trans rfl; have hcz49_2 : w48.cell? ⟨gb1304, 2, none⟩ = some (.slice Ao20 t1297.length co20) := (blk_cell BK1304.out 2).trans rfl; have hcz49_3 : w48.cell? ⟨gb1304, 3, none⟩ = some (.slice Ao45 x1305003_1.length co45) := (blk_cell BK1304.out 3).trans rfl; have hcz49_4 : w48.cell? ⟨gb1304, 4, none⟩ = some (.int .i64 t1302) := (blk_cell BK1304.out 4).trans rfl; have hfz49_0 := blk_frozen BK1304.out 0; have hfz49_1 := blk_frozen BK1304.out 1; have hfz49_2 := blk_frozen BK1304.out 2; have hfz49_3 := blk_frozen BK1304.out 3; have hfz49_4 := blk_frozen BK1304.out 4; have hcz50_0 : w48.cell? ⟨gb1284, 0, none⟩ = some (.int .i64 0) := (blk_cell BK1284.out 0).trans rfl; have hcz50_1 : w48.cell? ⟨gb1284, 1, none⟩ = some (.slice none 0 0) := (blk_cell BK1284.out 1).trans rfl; have hcz50_2 : w48.cell? ⟨gb1284, 2, none⟩ = some (.slice none 0 0) := (blk_cell BK1284.out 2).trans rfl; have hcz50_3 : w48.cell? ⟨gb1284, 3, none⟩ = some (.slice none 0 0) := (blk_cell BK1284.out 3).trans rfl; have hcz50_4 : w48.cell? ⟨gb1284, 4, none⟩ = some (.int .i64 0) := (blk_cell BK1284.out 4).trans rfl; have hfz50_0 := blk_frozen BK1284.out 0; have hfz50_1 := blk_frozen BK1284.out 1; have hfz50_2 := blk_frozen BK1284.out 2; have hfz50_3 := blk_frozen BK1284.out 3; have hfz50_4 := blk_frozen BK1284.out 4))
                refine bodyPost_ret (results_ct rfl _ _ gb1284 40 #[.int .i64 t1289, .slice Ao21 t1292.length co21, .slice Ao20 t1297.length co20, .slice Ao45 x1305003_1.length co45, .int .i64 t1302] (0, 0) _ rfl (by refine blk_put (cs := #[.int .i64 t1289, .slice Ao21 t1292.length co21, .slice Ao20 t1297.length co20, .slice Ao45 x1305003_1.length co45, .int .i64 0]) ?_ 4 _ rfl; refine blk_put (cs := #[.int .i64 t1289, .slice Ao21 t1292.length co21, .slice Ao20 t1297.length co20, .slice none 0 0, .int .i64 0]) ?_ 3 _ rfl; refine blk_put (cs := #[.int .i64 t1289, .slice Ao21 t1292.length co21, .slice none 0 0, .slice none 0 0, .int .i64 0]) ?_ 2 _ rfl; refine blk_put (cs := #[.int .i64 t1289, .slice none 0 0, .slice none 0 0, .slice none 0 0, .int .i64 0]) ?_ 1 _ rfl; refine blk_put (cs := #[.int .i64 0, .slice none 0 0, .slice none 0 0, .slice none 0 0, .int .i64 0]) ?_ 0 _ rfl; exact BK1284.out) Try.underlying40 rfl (by kernel_rfl)) rfl ?_
                exact ⟨_, _, _, rfl, by exact Kd.R_mono (Kd.R_far (p := ⟨gb1284, 4, none⟩) (Kd.R_far (p := ⟨gb1284, 3, none⟩) (Kd.R_far (p := ⟨gb1284, 2, none⟩) (Kd.R_far (p := ⟨gb1284, 1, none⟩) (Kd.R_far (p := ⟨gb1284, 0, none⟩) (Kd.R_types HO_1305001.out BK1284.out (by decide)) (fun _ hk => hk.2) (.int .i64 t1289)) (fun _ hk => hk.2) (.slice Ao21 t1292.length co21)) (fun _ hk => hk.2) (.slice Ao20 t1297.length co20)) (fun _ hk => hk.2) (.slice Ao45 x1305003_1.length co45)) (fun _ hk => hk.2) (.int .i64 t1302)) (fun _ hk => hk.1), by exact Kd.R_mono (Kd.R_far (p := ⟨gb1284, 4, none⟩) (Kd.R_far (p := ⟨gb1284, 3, none⟩) (Kd.R_far (p := ⟨gb1284, 2, none⟩) (Kd.R_far (p := ⟨gb1284, 1, none⟩) (Kd.R_far (p := ⟨gb1284, 0, none⟩) (Kd.R_types HO_1305002.out BK1284.out (by decide)) (fun _ hk => hk.2) (.int .i64 t1289)) (fun _ hk => hk.2) (.slice Ao21 t1292.length co21)) (fun _ hk => hk.2) (.slice Ao20 t1297.length co20)) (fun _ hk => hk.2) (.slice Ao45 x1305003_1.length co45)) (fun _ hk => hk.2) (.int .i64 t1302)) (fun _ hk => hk.1), by exact Kd.R_mono (Kd.R_far (p := ⟨gb1284, 4, none⟩) (Kd.R_far (p := ⟨gb1284, 3, none⟩) (Kd.R_far (p := ⟨gb1284, 2, none⟩) (Kd.R_far (p := ⟨gb1284, 1, none⟩) (Kd.R_far (p := ⟨gb1284, 0, none⟩) (Kd.R_types HO_1305003.out BK1284.out (by decide)) (fun _ hk => hk.2) (.int .i64 t1289)) (fun _ hk => hk.2) (.slice Ao21 t1292.length co21)) (fun _ hk => hk.2) (.slice Ao20 t1297.length co20)) (fun _ hk => hk.2) (.slice Ao45 x1305003_1.length co45)) (fun _ hk => hk.2) (.int .i64 t1302)) (fun _ hk => trivial), by repeat ((with_reducible first | exact HB.out | refine below_set ?_ GE1284.out))⟩
               ·rw [if_neg c42] at H
                have c42b0 : (t1311.toList == a0.toList) = false := beq_eq_false_iff_ne.mpr c42
                have c42b1 : (t1311.toList != a0.toList) = true := bne_iff_ne.mpr c42
                simp only [Option.some.injEq, Prod.mk.injEq] at H
                obtain ⟨rfl, rfl, rfl, rfl, rfl, rfl⟩ := H
                have hnb51 := NB1304_1284.out
                have hnc51 := NB1284_1304.out
                have hcz52_0 : wr.cell? ⟨gb1304, 0, none⟩ = some (.int .i64 t1289) := (blk_cell BK1304.out 0).trans rfl
                have hcz52_1 : wr.cell? ⟨gb1304, 1, none⟩ = some (.slice Ao21 t1292.length co21) := (blk_cell BK1304.out 1).trans rfl
                have hcz52_2 : wr.cell? ⟨gb1304, 2, none⟩ = some (.slice Ao20 t1297.length co20) := (blk_cell BK1304.out 2).trans rfl
                have hcz52_3 : wr.cell? ⟨gb1304, 3, none⟩ = some (u1305003) := (blk_cell BK1304.out 3).trans rfl
                have hcz52_4 : wr.cell? ⟨gb1304, 4, none⟩ = some (.int .i64 t1302) := (blk_cell BK1304.out 4).trans rfl
                have hfz52_0 := blk_frozen BK1304.out 0
                have hfz52_1 := blk_frozen BK1304.out 1
                have hfz52_2 := blk_frozen BK1304.out 2
                have hfz52_3 := blk_frozen BK1304.out 3
                have hfz52_4 := blk_frozen BK1304.out 4
                obtain ⟨Ao53, co53, eo53⟩ := Kd.R_slice HO_1305003.out
                subst eo53
                go_wp2_with (first | (go_at_call 39; (with_reducible refine (impl_IsValidTask.calls k1 t1289 _ _ t1292 _ _ t1297 _ _ x1305003_1 t1302 true _ ?side1 ?side2 ?side3 ?side4 ?side5 ?side6 A39.out).mono ?_); (case side1 => repeat (exact (Kd.R_reads' HO_1305001.out).2.2)); (case side2 => exact (Kd.R_reads' HO_1305001.out).2.1); (case side3 => repeat (exact (Kd.R_reads' HO_1305002.out).2.2)); (case side4 => exact (Kd.R_reads' HO_1305002.out).2.1); (case side5 => repeat (exact (Kd.R_reads' HO_1305003.out).2.2)); (case side6 => exact (Kd.R_reads' HO_1305003.out).2.1); rintro e w54 ⟨rfl, hb⟩; have n0_ := Aside0.mk (Kd.R_below HO_4.out hb); have n1_ := Aside0.mk (Kd.R_below HO_1305001.out hb); have n2_ := Aside0.mk (Kd.R_below HO_1305002.out hb); have n3_ := Aside0.mk (Kd.R_below HO_1305003.out hb); have n4_ := Aside0.mk (blk_below (g := gb1284) (o := .cells #[.int .i64 0, .slice none 0 0, .slice none 0 0, .slice none 0 0, .int .i64 0] 40 (0, 0)) BK1284.out hb); have n5_ := Aside0.mk (blk_below (g := gb1304) (o := .cells #[.int .i64 t1289, .slice Ao21 t1292.length co21, .slice Ao20 t1297.length co20, .slice Ao53 x1305003_1.length co53, .int .i64 t1302] 40 (0, 0)) BK1304.out hb); have n6_ := Aside0.mk (below_step HB.out hb); clear HO_4; clear HO_1305001; clear HO_1305002; clear HO_1305003; clear BK1284; clear BK1304; clear HB; have HO_4 := n0_; have HO_1305001 := n1_; have HO_1305002 := n2_; have HO_1305003 := n3_; have BK1284 := n4_; have BK1304 := n5_; have HB := n6_; clear n0_ n1_ n2_ n3_ n4_ n5_ n6_; (try clear hb); have hcz55_0 : w54.cell? ⟨gb1304, 0, none⟩ = some (.int .i64 t1289) := (blk_cell BK1304.out 0).trans rfl; have hcz55_1 : w54.cell? ⟨gb1304, 1, none⟩ = some (.slice Ao21 t1292.length co21) := (blk_cell BK1304.out 1).trans rfl; have hcz55_2 : w54.cell? ⟨gb1304, 2, none⟩ = some (.slice Ao20 t1297.length co20) := (blk_cell BK1304.out 2).trans rfl; have hcz55_3 : w54.cell? ⟨gb1304, 3, none⟩ = some (.slice Ao53 x1305003_1.length co53) := (blk_cell BK1304.out 3).trans rfl; have hcz55_4 : w54.cell? ⟨gb1304, 4, none⟩ = some (.int .i64 t1302) := (blk_cell BK1304.out 4).trans rfl; have hfz55_0 := blk_frozen BK1304.out 0; have hfz55_1 := blk_frozen BK1304.out 1; have hfz55_2 := blk_frozen BK1304.out 2; have hfz55_3 := blk_frozen BK1304.out 3; have hfz55_4 := blk_frozen BK1304.out 4) | (go_at_call 57; (with_reducible refine (impl_FormatTask.calls k1 t1289 _ _ t1292 _ _ t1297 _ _ x1305003_1 t1302 t1311 _ ?side1 ?side2 ?side3 ?side4 ?side5 ?side6 A41.out).mono ?_); (case side1 => repeat (exact (Kd.R_reads' HO_1305001.out).2.2)); (case side2 => exact (Kd.R_reads' HO_1305001.out).2.1); (case side3 => repeat (exact (Kd.R_reads' HO_1305002.out).2.2)); (case side4 => exact (Kd.R_reads' HO_1305002.out).2.1); (case side5 => repeat (exact (Kd.R_reads' HO_1305003.out).2.2)); (case side6 => exact (Kd.R_reads' HO_1305003.out).2.1); rintro e w56 ⟨rfl, hb⟩; have n0_ := Aside0.mk (Kd.R_below HO_4.out hb); have n1_ := Aside0.mk (Kd.R_below HO_1305001.out hb); have n2_ := Aside0.mk (Kd.R_below HO_1305002.out hb); have n3_ := Aside0.mk (Kd.R_below HO_1305003.out hb); have n4_ := Aside0.mk (blk_below (g := gb1284) (o := .cells #[.int .i64 0, .slice none 0 0, .slice none 0 0, .slice none 0 0, .int .i64 0] 40 (0, 0)) BK1284.out hb); have n5_ := Aside0.mk (blk_below (g := gb1304) (o := .cells #[.int .i64 t1289, .slice Ao21 t1292.length co21, .slice Ao20 t1297.length co20, .slice Ao53 x1305003_1.length co53, .int .i64 t1302] 40 (0, 0)) BK1304.out hb); have n6_ := Aside0.mk (below_step HB.out hb); clear HO_4; clear HO_1305001; clear HO_1305002; clear HO_1305003; clear BK1284; clear BK1304; clear HB; have HO_4 := n0_; have HO_1305001 := n1_; have HO_1305002 := n2_; have HO_1305003 := n3_; have BK1284 := n4_; have BK1304 := n5_; have HB := n6_; clear n0_ n1_ n2_ n3_ n4_ n5_ n6_; (try clear hb); have hcz57_0 : w56.cell? ⟨gb1284, 0, none⟩ = some (.int .i64 0) := (blk_cell BK1284.out 0).trans rfl; have hcz57_1 : w56.cell? ⟨gb1284, 1, none⟩ = some (.slice none 0 0) := (blk_cell BK1284.out 1).trans rfl; have hcz57_2 : w56.cell? ⟨gb1284, 2, none⟩ = some (.slice none 0 0) := (blk_cell BK1284.out 2).trans rfl; have hcz57_3 : w56.cell? ⟨gb1284, 3, none⟩ = some (.slice none 0 0) := (blk_cell BK1284.out 3).trans rfl; have hcz57_4 : w56.cell? ⟨gb1284, 4, none⟩ = some (.int .i64 0) := (blk_cell BK1284.out 4).trans rfl; have hfz57_0 := blk_frozen BK1284.out 0; have hfz57_1 := blk_frozen BK1284.out 1; have hfz57_2 := blk_frozen BK1284.out 2; have hfz57_3 := blk_frozen BK1284.out 3; have hfz57_4 := blk_frozen BK1284.out 4))
                refine bodyPost_ret (results_ct rfl _ _ gb1284 40 #[.int .i64 0, .slice none 0 0, .slice none 0 0, .slice none 0 0, .int .i64 0] (0, 0) _ rfl (by refine blk_put (cs := #[.int .i64 0, .slice none 0 0, .slice none 0 0, .slice none 0 0, .int .i64 0]) ?_ 4 _ rfl; refine blk_put (cs := #[.int .i64 0, .slice none 0 0, .slice none 0 0, .slice none 0 0, .int .i64 0]) ?_ 3 _ rfl; refine blk_put (cs := #[.int .i64 0, .slice none 0 0, .slice none 0 0, .slice none 0 0, .int .i64 0]) ?_ 2 _ rfl; refine blk_put (cs := #[.int .i64 0, .slice none 0 0, .slice none 0 0, .slice none 0 0, .int .i64 0]) ?_ 1 _ rfl; refine blk_put (cs := #[.int .i64 0, .slice none 0 0, .slice none 0 0, .slice none 0 0, .int .i64 0]) ?_ 0 _ rfl; exact BK1284.out) Try.underlying40 rfl (by kernel_rfl)) rfl ?_
                exact ⟨_, _, _, rfl, by exact Kd.R_nil _ _ _ _ _, by exact Kd.R_nil _ _ _ _ _, by exact Kd.R_nil _ _ _ _ _, by repeat ((with_reducible first | exact HB.out | refine below_set ?_ GE1284.out))⟩
              ·replace c40 := Bool.eq_false_iff.mpr c40
               subst c40
               rw [if_neg (show ¬ (false = true) by decide)] at H
               simp only [Option.some.injEq, Prod.mk.injEq] at H
               obtain ⟨rfl, rfl, rfl, rfl, rfl, rfl⟩ := H
               have hnb58 := NB1304_1284.out
               have hnc58 := NB1284_1304.out
               have hcz59_0 : wr.cell? ⟨gb1304, 0, none⟩ = some (.int .i64 t1289) := (blk_cell BK1304.out 0).trans rfl
               have hcz59_1 : wr.cell? ⟨gb1304, 1, none⟩ = some (.slice Ao21 t1292.length co21) := (blk_cell BK1304.out 1).trans rfl
               have hcz59_2 : wr.cell? ⟨gb1304, 2, none⟩ = some (.slice Ao20 t1297.length co20) := (blk_cell BK1304.out 2).trans rfl
               have hcz59_3 : wr.cell? ⟨gb1304, 3, none⟩ = some (u1305003) := (blk_cell BK1304.out 3).trans rfl
               have hcz59_4 : wr.cell? ⟨gb1304, 4, none⟩ = some (.int .i64 t1302) := (blk_cell BK1304.out 4).trans rfl
               have hfz59_0 := blk_frozen BK1304.out 0
               have hfz59_1 := blk_frozen BK1304.out 1
               have hfz59_2 := blk_frozen BK1304.out 2
               have hfz59_3 := blk_frozen BK1304.out 3
               have hfz59_4 := blk_frozen BK1304.out 4
               obtain ⟨Ao60, co60, eo60⟩ := Kd.R_slice HO_1305003.out
               subst eo60
               go_wp2_with ((go_at_call 39; (with_reducible refine (impl_IsValidTask.calls k1 t1289 _ _ t1292 _ _ t1297 _ _ x1305003_1 t1302 false _ ?side1 ?side2 ?side3 ?side4 ?side5 ?side6 A39.out).mono ?_); (case side1 => repeat (exact (Kd.R_reads' HO_1305001.out).2.2)); (case side2 => exact (Kd.R_reads' HO_1305001.out).2.1); (case side3 => repeat (exact (Kd.R_reads' HO_1305002.out).2.2)); (case side4 => exact (Kd.R_reads' HO_1305002.out).2.1); (case side5 => repeat (exact (Kd.R_reads' HO_1305003.out).2.2)); (case side6 => exact (Kd.R_reads' HO_1305003.out).2.1); rintro e w61 ⟨rfl, hb⟩; have n0_ := Aside0.mk (Kd.R_below HO_4.out hb); have n1_ := Aside0.mk (Kd.R_below HO_1305001.out hb); have n2_ := Aside0.mk (Kd.R_below HO_1305002.out hb); have n3_ := Aside0.mk (Kd.R_below HO_1305003.out hb); have n4_ := Aside0.mk (blk_below (g := gb1284) (o := .cells #[.int .i64 0, .slice none 0 0, .slice none 0 0, .slice none 0 0, .int .i64 0] 40 (0, 0)) BK1284.out hb); have n5_ := Aside0.mk (blk_below (g := gb1304) (o := .cells #[.int .i64 t1289, .slice Ao21 t1292.length co21, .slice Ao20 t1297.length co20, .slice Ao60 x1305003_1.length co60, .int .i64 t1302] 40 (0, 0)) BK1304.out hb); have n6_ := Aside0.mk (below_step HB.out hb); clear HO_4; clear HO_1305001; clear HO_1305002; clear HO_1305003; clear BK1284; clear BK1304; clear HB; have HO_4 := n0_; have HO_1305001 := n1_; have HO_1305002 := n2_; have HO_1305003 := n3_; have BK1284 := n4_; have BK1304 := n5_; have HB := n6_; clear n0_ n1_ n2_ n3_ n4_ n5_ n6_; (try clear hb); have hcz62_0 : w61.cell? ⟨gb1284, 0, none⟩ = some (.int .i64 0) := (blk_cell BK1284.out 0).trans rfl; have hcz62_1 : w61.cell? ⟨gb1284, 1, none⟩ = some (.slice none 0 0) := (blk_cell BK1284.out 1).trans rfl; have hcz62_2 : w61.cell? ⟨gb1284, 2, none⟩ = some (.slice none 0 0) := (blk_cell BK1284.out 2).trans rfl; have hcz62_3 : w61.cell? ⟨gb1284, 3, none⟩ = some (.slice none 0 0) := (blk_cell BK1284.out 3).trans rfl; have hcz62_4 : w61.cell? ⟨gb1284, 4, none⟩ = some (.int .i64 0) := (blk_cell BK1284.out 4).trans rfl; have hfz62_0 := blk_frozen BK1284.out 0; have hfz62_1 := blk_frozen BK1284.out 1; have hfz62_2 := blk_frozen BK1284.out 2; have hfz62_3 := blk_frozen BK1284.out 3; have hfz62_4 := blk_frozen BK1284.out 4))
               refine bodyPost_ret (results_ct rfl _ _ gb1284 40 #[.int .i64 0, .slice none 0 0, .slice none 0 0, .slice none 0 0, .int .i64 0] (0, 0) _ rfl (by refine blk_put (cs := #[.int .i64 0, .slice none 0 0, .slice none 0 0, .slice none 0 0, .int .i64 0]) ?_ 4 _ rfl; refine blk_put (cs := #[.int .i64 0, .slice none 0 0, .slice none 0 0, .slice none 0 0, .int .i64 0]) ?_ 3 _ rfl; refine blk_put (cs := #[.int .i64 0, .slice none 0 0, .slice none 0 0, .slice none 0 0, .int .i64 0]) ?_ 2 _ rfl; refine blk_put (cs := #[.int .i64 0, .slice none 0 0, .slice none 0 0, .slice none 0 0, .int .i64 0]) ?_ 1 _ rfl; refine blk_put (cs := #[.int .i64 0, .slice none 0 0, .slice none 0 0, .slice none 0 0, .int .i64 0]) ?_ 0 _ rfl; exact BK1284.out) Try.underlying40 rfl (by kernel_rfl)) rfl ?_
               exact ⟨_, _, _, rfl, by exact Kd.R_nil _ _ _ _ _, by exact Kd.R_nil _ _ _ _ _, by exact Kd.R_nil _ _ _ _ _, by repeat ((with_reducible first | exact HB.out | refine below_set ?_ GE1284.out))⟩
             ·replace c38 := Bool.eq_false_iff.mpr c38
              subst c38
              rw [if_neg (show ¬ (false = true) by decide)] at H
              simp only [Option.some.injEq, Prod.mk.injEq] at H
              obtain ⟨rfl, rfl, rfl, rfl, rfl, rfl⟩ := H
              have hnb63 := NB1284_1304.out
              have hnc63 := NB1304_1284.out
              have hcz64_0 : wr.cell? ⟨gb1284, 0, none⟩ = some (.int .i64 0) := (blk_cell BK1284.out 0).trans rfl
              have hcz64_1 : wr.cell? ⟨gb1284, 1, none⟩ = some (.slice none 0 0) := (blk_cell BK1284.out 1).trans rfl
              have hcz64_2 : wr.cell? ⟨gb1284, 2, none⟩ = some (.slice none 0 0) := (blk_cell BK1284.out 2).trans rfl
              have hcz64_3 : wr.cell? ⟨gb1284, 3, none⟩ = some (.slice none 0 0) := (blk_cell BK1284.out 3).trans rfl
              have hcz64_4 : wr.cell? ⟨gb1284, 4, none⟩ = some (.int .i64 0) := (blk_cell BK1284.out 4).trans rfl
              have hfz64_0 := blk_frozen BK1284.out 0
              have hfz64_1 := blk_frozen BK1284.out 1
              have hfz64_2 := blk_frozen BK1284.out 2
              have hfz64_3 := blk_frozen BK1284.out 3
              have hfz64_4 := blk_frozen BK1284.out 4
              go_wp2
              refine bodyPost_ret (results_ct rfl _ _ gb1284 40 #[.int .i64 0, .slice none 0 0, .slice none 0 0, .slice none 0 0, .int .i64 0] (0, 0) _ rfl (by refine blk_put (cs := #[.int .i64 0, .slice none 0 0, .slice none 0 0, .slice none 0 0, .int .i64 0]) ?_ 4 _ rfl; refine blk_put (cs := #[.int .i64 0, .slice none 0 0, .slice none 0 0, .slice none 0 0, .int .i64 0]) ?_ 3 _ rfl; refine blk_put (cs := #[.int .i64 0, .slice none 0 0, .slice none 0 0, .slice none 0 0, .int .i64 0]) ?_ 2 _ rfl; refine blk_put (cs := #[.int .i64 0, .slice none 0 0, .slice none 0 0, .slice none 0 0, .int .i64 0]) ?_ 1 _ rfl; refine blk_put (cs := #[.int .i64 0, .slice none 0 0, .slice none 0 0, .slice none 0 0, .int .i64 0]) ?_ 0 _ rfl; exact BK1284.out) Try.underlying40 rfl (by kernel_rfl)) rfl ?_
              exact ⟨_, _, _, rfl, by exact Kd.R_nil _ _ _ _ _, by exact Kd.R_nil _ _ _ _ _, by exact Kd.R_nil _ _ _ _ _, by repeat ((with_reducible first | exact HB.out | refine below_set ?_ GE1284.out))⟩
            ·replace c37 := Bool.eq_false_iff.mpr c37
             subst c37
             rw [if_neg (show ¬ (false = true) by decide)] at H
             simp only [Option.some.injEq, Prod.mk.injEq] at H
             obtain ⟨rfl, rfl, rfl, rfl, rfl, rfl⟩ := H
             have hnb65 := NB1284_1304.out
             have hnc65 := NB1304_1284.out
             have hcz66_0 : wr.cell? ⟨gb1284, 0, none⟩ = some (.int .i64 0) := (blk_cell BK1284.out 0).trans rfl
             have hcz66_1 : wr.cell? ⟨gb1284, 1, none⟩ = some (.slice none 0 0) := (blk_cell BK1284.out 1).trans rfl
             have hcz66_2 : wr.cell? ⟨gb1284, 2, none⟩ = some (.slice none 0 0) := (blk_cell BK1284.out 2).trans rfl
             have hcz66_3 : wr.cell? ⟨gb1284, 3, none⟩ = some (.slice none 0 0) := (blk_cell BK1284.out 3).trans rfl
             have hcz66_4 : wr.cell? ⟨gb1284, 4, none⟩ = some (.int .i64 0) := (blk_cell BK1284.out 4).trans rfl
             have hfz66_0 := blk_frozen BK1284.out 0
             have hfz66_1 := blk_frozen BK1284.out 1
             have hfz66_2 := blk_frozen BK1284.out 2
             have hfz66_3 := blk_frozen BK1284.out 3
             have hfz66_4 := blk_frozen BK1284.out 4
             go_wp2
             refine bodyPost_ret (results_ct rfl _ _ gb1284 40 #[.int .i64 0, .slice none 0 0, .slice none 0 0, .slice none 0 0, .int .i64 0] (0, 0) _ rfl (by refine blk_put (cs := #[.int .i64 0, .slice none 0 0, .slice none 0 0, .slice none 0 0, .int .i64 0]) ?_ 4 _ rfl; refine blk_put (cs := #[.int .i64 0, .slice none 0 0, .slice none 0 0, .slice none 0 0, .int .i64 0]) ?_ 3 _ rfl; refine blk_put (cs := #[.int .i64 0, .slice none 0 0, .slice none 0 0, .slice none 0 0, .int .i64 0]) ?_ 2 _ rfl; refine blk_put (cs := #[.int .i64 0, .slice none 0 0, .slice none 0 0, .slice none 0 0, .int .i64 0]) ?_ 1 _ rfl; refine blk_put (cs := #[.int .i64 0, .slice none 0 0, .slice none 0 0, .slice none 0 0, .int .i64 0]) ?_ 0 _ rfl; exact BK1284.out) Try.underlying40 rfl (by kernel_rfl)) rfl ?_
             exact ⟨_, _, _, rfl, by exact Kd.R_nil _ _ _ _ _, by exact Kd.R_nil _ _ _ _ _, by exact Kd.R_nil _ _ _ _ _, by repeat ((with_reducible first | exact HB.out | refine below_set ?_ GE1284.out))⟩
           ·replace c36 := Bool.eq_false_iff.mpr c36
            subst c36
            rw [if_neg (show ¬ (false = true) by decide)] at H
            simp only [Option.some.injEq, Prod.mk.injEq] at H
            obtain ⟨rfl, rfl, rfl, rfl, rfl, rfl⟩ := H
            have hnb67 := NB1284_1304.out
            have hnc67 := NB1304_1284.out
            have hcz68_0 : wr.cell? ⟨gb1284, 0, none⟩ = some (.int .i64 0) := (blk_cell BK1284.out 0).trans rfl
            have hcz68_1 : wr.cell? ⟨gb1284, 1, none⟩ = some (.slice none 0 0) := (blk_cell BK1284.out 1).trans rfl
            have hcz68_2 : wr.cell? ⟨gb1284, 2, none⟩ = some (.slice none 0 0) := (blk_cell BK1284.out 2).trans rfl
            have hcz68_3 : wr.cell? ⟨gb1284, 3, none⟩ = some (.slice none 0 0) := (blk_cell BK1284.out 3).trans rfl
            have hcz68_4 : wr.cell? ⟨gb1284, 4, none⟩ = some (.int .i64 0) := (blk_cell BK1284.out 4).trans rfl
            have hfz68_0 := blk_frozen BK1284.out 0
            have hfz68_1 := blk_frozen BK1284.out 1
            have hfz68_2 := blk_frozen BK1284.out 2
            have hfz68_3 := blk_frozen BK1284.out 3
            have hfz68_4 := blk_frozen BK1284.out 4
            go_wp2
            refine bodyPost_ret (results_ct rfl _ _ gb1284 40 #[.int .i64 0, .slice none 0 0, .slice none 0 0, .slice none 0 0, .int .i64 0] (0, 0) _ rfl (by refine blk_put (cs := #[.int .i64 0, .slice none 0 0, .slice none 0 0, .slice none 0 0, .int .i64 0]) ?_ 4 _ rfl; refine blk_put (cs := #[.int .i64 0, .slice none 0 0, .slice none 0 0, .slice none 0 0, .int .i64 0]) ?_ 3 _ rfl; refine blk_put (cs := #[.int .i64 0, .slice none 0 0, .slice none 0 0, .slice none 0 0, .int .i64 0]) ?_ 2 _ rfl; refine blk_put (cs := #[.int .i64 0, .slice none 0 0, .slice none 0 0, .slice none 0 0, .int .i64 0]) ?_ 1 _ rfl; refine blk_put (cs := #[.int .i64 0, .slice none 0 0, .slice none 0 0, .slice none 0 0, .int .i64 0]) ?_ 0 _ rfl; exact BK1284.out) Try.underlying40 rfl (by kernel_rfl)) rfl ?_
            exact ⟨_, _, _, rfl, by exact Kd.R_nil _ _ _ _ _, by exact Kd.R_nil _ _ _ _ _, by exact Kd.R_nil _ _ _ _ _, by repeat ((with_reducible first | exact HB.out | refine below_set ?_ GE1284.out))⟩
          ·replace c35 := Bool.eq_false_iff.mpr c35
           subst c35
           rw [if_neg (show ¬ (false = true) by decide)] at H
           simp only [Option.some.injEq, Prod.mk.injEq] at H
           obtain ⟨rfl, rfl, rfl, rfl, rfl, rfl⟩ := H
           have hnb69 := NB1284_1304.out
           have hnc69 := NB1304_1284.out
           have hcz70_0 : wr.cell? ⟨gb1284, 0, none⟩ = some (.int .i64 0) := (blk_cell BK1284.out 0).trans rfl
           have hcz70_1 : wr.cell? ⟨gb1284, 1, none⟩ = some (.slice none 0 0) := (blk_cell BK1284.out 1).trans rfl
           have hcz70_2 : wr.cell? ⟨gb1284, 2, none⟩ = some (.slice none 0 0) := (blk_cell BK1284.out 2).trans rfl
           have hcz70_3 : wr.cell? ⟨gb1284, 3, none⟩ = some (.slice none 0 0) := (blk_cell BK1284.out 3).trans rfl
           have hcz70_4 : wr.cell? ⟨gb1284, 4, none⟩ = some (.int .i64 0) := (blk_cell BK1284.out 4).trans rfl
           have hfz70_0 := blk_frozen BK1284.out 0
           have hfz70_1 := blk_frozen BK1284.out 1
           have hfz70_2 := blk_frozen BK1284.out 2
           have hfz70_3 := blk_frozen BK1284.out 3
           have hfz70_4 := blk_frozen BK1284.out 4
           go_wp2
           refine bodyPost_ret (results_ct rfl _ _ gb1284 40 #[.int .i64 0, .slice none 0 0, .slice none 0 0, .slice none 0 0, .int .i64 0] (0, 0) _ rfl (by refine blk_put (cs := #[.int .i64 0, .slice none 0 0, .slice none 0 0, .slice none 0 0, .int .i64 0]) ?_ 4 _ rfl; refine blk_put (cs := #[.int .i64 0, .slice none 0 0, .slice none 0 0, .slice none 0 0, .int .i64 0]) ?_ 3 _ rfl; refine blk_put (cs := #[.int .i64 0, .slice none 0 0, .slice none 0 0, .slice none 0 0, .int .i64 0]) ?_ 2 _ rfl; refine blk_put (cs := #[.int .i64 0, .slice none 0 0, .slice none 0 0, .slice none 0 0, .int .i64 0]) ?_ 1 _ rfl; refine blk_put (cs := #[.int .i64 0, .slice none 0 0, .slice none 0 0, .slice none 0 0, .int .i64 0]) ?_ 0 _ rfl; exact BK1284.out) Try.underlying40 rfl (by kernel_rfl)) rfl ?_
           exact ⟨_, _, _, rfl, by exact Kd.R_nil _ _ _ _ _, by exact Kd.R_nil _ _ _ _ _, by exact Kd.R_nil _ _ _ _ _, by repeat ((with_reducible first | exact HB.out | refine below_set ?_ GE1284.out))⟩
      ·rw [if_neg c12] at H
       exact absurd H (by simp)
     ·rw [if_neg c10] at H
      exact absurd H (by simp)
    ·rw [if_neg c8] at H
     exact absurd H (by simp)
   ·rw [if_neg c6] at H
    exact absurd H (by simp)
  ·rw [if_neg c4] at H
   exact absurd H (by simp)
 ·rw [if_neg c3] at H
  have c3b0 : ((t1285.length : Int) == 5) = false := beq_eq_false_iff_ne.mpr c3
  have c3b1 : ((t1285.length : Int) != 5) = true := bne_iff_ne.mpr c3
  simp only [Option.some.injEq, Prod.mk.injEq] at H
  obtain ⟨rfl, rfl, rfl, rfl, rfl, rfl⟩ := H
  go_enter Try.func41, Try.ntmps41
  go_wp2_with (first | ((with_reducible refine gate_dst (N := 2) rfl ?_); refine box_event ?hg (N := 2) ?hd (cs := #[.int .i64 0, .slice none 0 0, .slice none 0 0, .slice none 0 0, .int .i64 0]) (t := 40) ?hr ?_; (case hd => rfl); (case hg => rfl); (case hr => (go_simp; done)); intro gb1284 hg w71 hbox hb; have n0_ := Aside0.mk (below_step HB.out hb); have n1_ := Aside0.mk (hbox); have n2_ := Aside0.mk ((by rw [hg]; exact (below_size HB.out) : w.heap.size ≤ gb1284)); have n3_ := Aside0.mk ((by rw [hg]; exact (below_size HB.out) : w.heap.size ≤ gb1284)); clear HB; have HB := n0_; have BK1284 := n1_; have GW1284 := n2_; have GE1284 := n3_; clear n0_ n1_ n2_ n3_; clear hb hbox hg) | ((with_reducible refine gate_callee (f := 139) rfl ?_); refine goesL_ (some 16) rfl rfl Try.func139 (by kernel_rfl) rfl #[.string a0, .int .u8 59] rfl (by (try simp only [List.map_toArray, List.map_cons, List.map_nil]); rfl) ?_; (with_reducible refine (impl_cut.calls k a0 59 t1285 _ A2.out).mono ?_); rintro e w72 ⟨v1286, rfl, ho0, hb⟩; refine ⟨_, rfl, ?_⟩; have n0_ := Aside0.mk (Kd.R_lower ho0 (below_size HB.out)); have n1_ := Aside0.mk (blk_below (g := gb1284) (o := .cells #[.int .i64 0, .slice none 0 0, .slice none 0 0, .slice none 0 0, .int .i64 0] 40 (0, 0)) BK1284.out hb); have n2_ := Aside0.mk (below_step HB.out hb); clear BK1284; clear HB; have HO1287 := n0_; have BK1284 := n1_; have HB := n2_; clear n0_ n1_ n2_; (try clear hb); (try clear ho0); obtain ⟨Ao73, co73, eo73⟩ := Kd.R_slice HO1287.out; subst eo73; have hcz74_0 : w72.cell? ⟨gb1284, 0, none⟩ = some (.int .i64 0) := (blk_cell BK1284.out 0).trans rfl; have hcz74_1 : w72.cell? ⟨gb1284, 1, none⟩ = some (.slice none 0 0) := (blk_cell BK1284.out 1).trans rfl; have hcz74_2 : w72.cell? ⟨gb1284, 2, none⟩ = some (.slice none 0 0) := (blk_cell BK1284.out 2).trans rfl; have hcz74_3 : w72.cell? ⟨gb1284, 3, none⟩ = some (.slice none 0 0) := (blk_cell BK1284.out 3).trans rfl; have hcz74_4 : w72.cell? ⟨gb1284, 4, none⟩ = some (.int .i64 0) := (blk_cell BK1284.out 4).trans rfl; have hfz74_0 := blk_frozen BK1284.out 0; have hfz74_1 := blk_frozen BK1284.out 1; have hfz74_2 := blk_frozen BK1284.out 2; have hfz74_3 := blk_frozen BK1284.out 3; have hfz74_4 := blk_frozen BK1284.out 4))
  refine bodyPost_ret (results_ct rfl _ _ gb1284 40 #[.int .i64 0, .slice none 0 0, .slice none 0 0, .slice none 0 0, .int .i64 0] (0, 0) _ rfl (by refine blk_put (cs := #[.int .i64 0, .slice none 0 0, .slice none 0 0, .slice none 0 0, .int .i64 0]) ?_ 4 _ rfl; refine blk_put (cs := #[.int .i64 0, .slice none 0 0, .slice none 0 0, .slice none 0 0, .int .i64 0]) ?_ 3 _ rfl; refine blk_put (cs := #[.int .i64 0, .slice none 0 0, .slice none 0 0, .slice none 0 0, .int .i64 0]) ?_ 2 _ rfl; refine blk_put (cs := #[.int .i64 0, .slice none 0 0, .slice none 0 0, .slice none 0 0, .int .i64 0]) ?_ 1 _ rfl; refine blk_put (cs := #[.int .i64 0, .slice none 0 0, .slice none 0 0, .slice none 0 0, .int .i64 0]) ?_ 0 _ rfl; exact BK1284.out) Try.underlying40 rfl (by kernel_rfl)) rfl ?_
  exact ⟨_, _, _, rfl, by exact Kd.R_nil _ _ _ _ _, by exact Kd.R_nil _ _ _ _ _, by exact Kd.R_nil _ _ _ _ _, by repeat ((with_reducible first | exact HB.out | refine below_set ?_ GE1284.out))⟩

mutual
def impl_IsValidJoiner.j0 : Nat → Bool → List (S40) → Int → Int → Option (Bool)
 | 0, _, _, _, _ => none
 | k + 1, x22, x1459000, x1459001, x1459002 => if x22 = true then (some false) else (impl_IsValidJoiner.l0 k 0 0 x1459000 (x1459000.length : Int) 0 x1459000 x1459001 x1459002)
def impl_IsValidJoiner.l0 : Nat → Int → Int → List (S40) → Int → Int → List (S40) → Int → Int → Option (Bool)
 | 0, _, _, _, _, _, _, _, _ => none
 | k + 1, x3, x4, x24, x25, x26, x1459000, x1459001, x1459002 => if x26 < x25 then (if 0 ≤ x26 then (if x26 < (x24.length : Int) then ((impl_IsValidTask.f k ((rd_T40 x24 x26).f0) ((rd_T40 x24 x26).f1) ((rd_T40 x24 x26).f2) ((rd_T40 x24 x26).f3) ((rd_T40 x24 x26).f4)).bind fun t1463 => (if t1463 = true then (if 0 < (x1459000.length : Int) then (if ((rd_T40 x24 x26).f0) = ((rd_T40 x1459000 0).f0) then (impl_IsValidJoiner.l0 k (wrap64 (x3 + (((rd_T40 x24 x26).f1).length : Int))) (wrap64 (x4 + (((rd_T40 x24 x26).f2).length : Int))) x24 x25 (wrap64 (x26 + 1)) x1459000 x1459001 x1459002) else (some false)) else (none)) else (some false))) else (none)) else (none)) else (if x3 ≤ 24 then (some (decide (x4 ≤ 24))) else (some false))
end
def impl_IsValidJoiner.f (k : Nat) (l0_0 : List (S40)) (a0_1 : Int) (a0_2 : Int) : Option (Bool) := if (l0_0.length : Int) > 40 then (impl_IsValidJoiner.j0 k true l0_0 a0_1 a0_2) else ((impl_within.f a0_1 0 100000).bind fun t1459 => (if t1459 = true then ((impl_within.f a0_2 0 1000).bind fun t1460 => (impl_IsValidJoiner.j0 k (!t1460) l0_0 a0_1 a0_2)) else (impl_IsValidJoiner.j0 k true l0_0 a0_1 a0_2)))
def impl_IsValidJoiner.T7 : Bool × List (List Nat × List Nat) := (true, [([], []), ([0], [0]), ([1], [1]), ([2, 1], [2]), ([3], [3]), ([4, 3], [3, 4]), ([3], [3]), ([6, 3], [3, 6]), ([7, 3], [3, 7]), ([8, 3], [3, 8]), ([9, 3], [3, 9]), ([5, 10, 3], [3, 5, 10]), ([3, 11], [3, 11])])
def impl_IsValidJoiner.B7 : List Nat := [0, 1, 3, 7, 15, 31, 15, 79, 207, 463, 975, 2047, 4095]
theorem impl_IsValidJoiner.tab7 : rtab .any (opsOf Try.f72 7) = impl_IsValidJoiner.T7 := by kernel_rfl
theorem impl_IsValidJoiner.bits7 : waitsOk impl_IsValidJoiner.T7.2 impl_IsValidJoiner.B7 = true := by kernel_rfl
theorem impl_IsValidJoiner.calls (k : Nat) (A0_0 : Option Addr) (c0_0 : Nat) (l0_0 : List (S40)) (a0_1 : Int) (a0_2 : Int) (r : Bool) (w : World) (hr0_0 : Kd.C k40 w A0_0 l0_0.length l0_0) (hc0_0 : l0_0.length ≤ c0_0) (h : impl_IsValidJoiner.f k l0_0 a0_1 a0_2 = some r) :
  Calls Try.prog 72 #[.agg #[.slice A0_0 l0_0.length c0_0, .int .i64 a0_1, .int .i64 a0_2]] w fun e w' => e = .returned (.bool r) ∧ Below w.heap.size w w' := by
 have hu68 := Try.underlying68
 have hu40 := Try.underlying40
 have HR0_0 := Aside0.mk hr0_0
 have HC0_0 := Aside0.mk hc0_0
 clear hr0_0 hc0_0
 have HB := Aside0.mk (Below.refl w.heap.size w)
 have H : (if (l0_0.length : Int) > 40 then (impl_IsValidJoiner.j0 k true l0_0 a0_1 a0_2) else ((impl_within.f a0_1 0 100000).bind fun t1459 => (if t1459 = true then ((impl_within.f a0_2 0 1000).bind fun t1460 => (impl_IsValidJoiner.j0 k (!t1460) l0_0 a0_1 a0_2)) else (impl_IsValidJoiner.j0 k true l0_0 a0_1 a0_2)))) = some r := h
 clear h
 have HC2 := Aside0.mk H
 clear H
 go_enter Try.func72, Try.ntmps72
 go_upto_region 1 with (((with_reducible refine gate_dst (N := 1) rfl ?_); refine box_event ?hg (N := 1) ?hd (cs := #[.slice A0_0 l0_0.length c0_0, .int .i64 a0_1, .int .i64 a0_2]) (t := 68) ?hr ?_; (case hd => rfl); (case hg => rfl); (case hr => (go_simp; done)); intro gb1458 hg w3 hbox hb; have n0_ := Aside0.mk (below_step HB.out hb); have n1_ := Aside0.mk (hbox); have n2_ := Aside0.mk ((by rw [hg]; exact (below_size HB.out) : w.heap.size ≤ gb1458)); have n3_ := Aside0.mk ((by rw [hg]; exact (below_size HB.out) : w.heap.size ≤ gb1458)); clear HB; have HB := n0_; have BK1458 := n1_; have GW1458 := n2_; have GE1458 := n3_; clear n0_ n1_ n2_ n3_; clear hb hbox hg))
 (try simp only [Act.put, List.setIfInBounds_toArray, List.set_cons_zero, List.set_cons_succ])
 go_cut [22] (fun v22 wc => ∃ (kq : Nat) (x22_1 : Bool), v22 = .bool x22_1 ∧ Aside0 (impl_IsValidJoiner.j0 kq x22_1 l0_0 a0_1 a0_2 = some r) ∧ Aside0 (kq ≤ k) ∧ Aside0 (wc.heap[gb1458]? = some (.cells #[(.slice A0_0 l0_0.length c0_0), .int .i64 a0_1, .int .i64 a0_2] 68 (0, 0))) ∧ Aside0 (Below w.heap.size w wc))
 case first =>
  have H := HC2.out
  clear HC2
  by_cases c4 : (l0_0.length : Int) > 40
  ·rw [if_pos c4] at H
   have c4b0 : decide (40 < (l0_0.length : Int)) = true := decide_eq_true c4
   have c4b1 : decide (40 < l0_0.length) = true := decide_eq_true (by omega)
   clear c4
   (skip)
   have H' := Aside0.mk H
   clear H
   have hcz5_0 : w3.cell? ⟨gb1458, 0, none⟩ = some (.slice A0_0 l0_0.length c0_0) := (blk_cell BK1458.out 0).trans rfl
   have hcz5_1 : w3.cell? ⟨gb1458, 1, none⟩ = some (.int .i64 a0_1) := (blk_cell BK1458.out 1).trans rfl
   have hcz5_2 : w3.cell? ⟨gb1458, 2, none⟩ = some (.int .i64 a0_2) := (blk_cell BK1458.out 2).trans rfl
   have hfz5_0 := blk_frozen BK1458.out 0
   have hfz5_1 := blk_frozen BK1458.out 1
   have hfz5_2 := blk_frozen BK1458.out 2
   go_wp2
   go_meet
   case rel => exact ⟨_, (true), rfl, H', ⟨by omega⟩, ⟨BK1458.out⟩, ⟨HB.out⟩⟩
  ·rw [if_neg c4] at H
   have c4b0 : decide (40 < (l0_0.length : Int)) = false := decide_eq_false c4
   have c4b1 : decide (40 < l0_0.length) = false := decide_eq_false (by omega)
   clear c4
   (skip)
   replace H := Option.bind_eq_some_iff.mp H
   obtain ⟨t1459, A60, H⟩ := H
   have A6 := Aside0.mk A60
   clear A60
   by_cases c7 : t1459 = true
   ·subst c7
    rw [if_pos rfl] at H
    replace H := Option.bind_eq_some_iff.mp H
    obtain ⟨t1460, A80, H⟩ := H
    have A8 := Aside0.mk A80
    clear A80
    have H' := Aside0.mk H
    clear H
    have hcz9_0 : w3.cell? ⟨gb1458, 0, none⟩ = some (.slice A0_0 l0_0.length c0_0) := (blk_cell BK1458.out 0).trans rfl
    have hcz9_1 : w3.cell? ⟨gb1458, 1, none⟩ = some (.int .i64 a0_1) := (blk_cell BK1458.out 1).trans rfl
    have hcz9_2 : w3.cell? ⟨gb1458, 2, none⟩ = some (.int .i64 a0_2) := (blk_cell BK1458.out 2).trans rfl
    have hfz9_0 := blk_frozen BK1458.out 0
    have hfz9_1 := blk_frozen BK1458.out 1
    have hfz9_2 := blk_frozen BK1458.out 2
    go_wp2_with (first | (go_at_call 134; (with_reducible refine (impl_within.calls a0_1 0 100000 true _ A6.out).mono ?_); rintro e w' ⟨rfl, ⟨nd, rfl⟩⟩) | (go_at_call 134; (with_reducible refine (impl_within.calls a0_2 0 1000 t1460 _ A8.out).mono ?_); rintro e w' ⟨rfl, ⟨nd, rfl⟩⟩))
    go_meet
    case rel => exact ⟨_, (!t1460), rfl, H', ⟨by omega⟩, ⟨by (with_reducible repeat (refine blk_drewN ?_ _)); exact BK1458.out⟩, ⟨by repeat ((with_reducible first | exact HB.out | apply pw_below_drewN))⟩⟩
   ·replace c7 := Bool.eq_false_iff.mpr c7
    subst c7
    rw [if_neg (show ¬ (false = true) by decide)] at H
    have H' := Aside0.mk H
    clear H
    have hcz10_0 : w3.cell? ⟨gb1458, 0, none⟩ = some (.slice A0_0 l0_0.length c0_0) := (blk_cell BK1458.out 0).trans rfl
    have hcz10_1 : w3.cell? ⟨gb1458, 1, none⟩ = some (.int .i64 a0_1) := (blk_cell BK1458.out 1).trans rfl
    have hcz10_2 : w3.cell? ⟨gb1458, 2, none⟩ = some (.int .i64 a0_2) := (blk_cell BK1458.out 2).trans rfl
    have hfz10_0 := blk_frozen BK1458.out 0
    have hfz10_1 := blk_frozen BK1458.out 1
    have hfz10_2 := blk_frozen BK1458.out 2
    go_wp2_with ((go_at_call 134; (with_reducible refine (impl_within.calls a0_1 0 100000 false _ A6.out).mono ?_); rintro e w' ⟨rfl, ⟨nd, rfl⟩⟩))
    go_meet
    case rel => exact ⟨_, (true), rfl, H', ⟨by omega⟩, ⟨by (with_reducible repeat (refine blk_drewN ?_ _)); exact BK1458.out⟩, ⟨by repeat ((with_reducible first | exact HB.out | apply pw_below_drewN))⟩⟩
 case rest =>
  clear HC2
  obtain ⟨kq, x22_1, rfl, HA, HJ1, BK1458, HB⟩ := hcut
  cases kq with
  | zero => exact absurd HA.out (by simp [impl_IsValidJoiner.j0])
  | succ kj1 =>
   have H := HA.out
   clear HA
   simp only [impl_IsValidJoiner.j0] at H
   by_cases c11 : x22_1 = true
   ·subst c11
    rw [if_pos rfl] at H
    obtain rfl := Option.some.inj H
    go_wp2
    go_ret
    exact ⟨rfl, HB.out⟩
   ·replace c11 := Bool.eq_false_iff.mpr c11
    subst c11
    rw [if_neg (show ¬ (false = true) by decide)] at H
    have H' := Aside0.mk H
    clear H
    have hcz12_0 : wc.cell? ⟨gb1458, 0, none⟩ = some (.slice A0_0 l0_0.length c0_0) := (blk_cell BK1458.out 0).trans rfl
    have hcz12_1 : wc.cell? ⟨gb1458, 1, none⟩ = some (.int .i64 a0_1) := (blk_cell BK1458.out 1).trans rfl
    have hcz12_2 : wc.cell? ⟨gb1458, 2, none⟩ = some (.int .i64 a0_2) := (blk_cell BK1458.out 2).trans rfl
    have hfz12_0 := blk_frozen BK1458.out 0
    have hfz12_1 := blk_frozen BK1458.out 1
    have hfz12_2 := blk_frozen BK1458.out 2
    go_wp2
    go_loopg [3, 4, 26] kj1 (fun kq v3 v4 v26 w' => ∃ (x3_2 : Int) (x4_2 : Int) (x26_2 : Int), v3 = .int .i64 x3_2 ∧ v4 = .int .i64 x4_2 ∧ v26 = .int .i64 x26_2 ∧ Aside0 (impl_IsValidJoiner.l0 kq x3_2 x4_2 l0_0 (l0_0.length : Int) x26_2 l0_0 a0_1 a0_2 = some r) ∧ Aside0 (kq ≤ kj1) ∧ Aside0 (w'.heap[gb1458]? = some (.cells #[(.slice A0_0 l0_0.length c0_0), .int .i64 a0_1, .int .i64 a0_2] 68 (0, 0))) ∧ Aside0 (Below w.heap.size w w'))
    case atStart => exact ⟨(0), (0), (0), rfl, rfl, rfl, H', ⟨Nat.le_refl _⟩, ⟨BK1458.out⟩, ⟨HB.out⟩⟩
    case round =>
     clear H'
     try clear hcz12_0
     try clear hcz12_1
     try clear hcz12_2
     try clear hfz12_0
     try clear hfz12_1
     try clear hfz12_2
     obtain ⟨x3_2, x4_2, x26_2, rfl, rfl, rfl, HA, HK2, BK1458, HB⟩ := hrel
     cases gk with
     | zero => exact absurd HA.out (by simp [impl_IsValidJoiner.l0])
     | succ k2 =>
      have H := HA.out
      clear HA
      simp only [impl_IsValidJoiner.l0] at H
      by_cases c13 : x26_2 < (l0_0.length : Int)
      ·rw [if_pos c13] at H
       have c13b0 : decide (x26_2 < (l0_0.length : Int)) = true := decide_eq_true c13
       clear c13
       by_cases c14 : 0 ≤ x26_2
       ·rw [if_pos c14] at H
        have c14b0 : decide (0 ≤ x26_2) = true := decide_eq_true c14
        clear c14
        by_cases c15 : x26_2 < (l0_0.length : Int)
        ·rw [if_pos c15] at H
         have c15b0 : decide (x26_2 < (l0_0.length : Int)) = true := decide_eq_true c15
         clear c15
         replace H := Option.bind_eq_some_iff.mp H
         obtain ⟨t1463, A160, H⟩ := H
         have A16 := Aside0.mk A160
         clear A160
         by_cases c17 : t1463 = true
         ·subst c17
          rw [if_pos rfl] at H
          by_cases c18 : 0 < (l0_0.length : Int)
          ·rw [if_pos c18] at H
           have c18b0 : decide (0 < (l0_0.length : Int)) = true := decide_eq_true c18
           have c18b1 : decide (0 < l0_0.length) = true := decide_eq_true (by omega)
           clear c18
           by_cases c19 : ((rd_T40 l0_0 x26_2).f0) = ((rd_T40 l0_0 0).f0)
           ·rw [if_pos c19] at H
            have c19b0 : (((rd_T40 l0_0 x26_2).f0) == ((rd_T40 l0_0 0).f0)) = true := beq_iff_eq.mpr c19
            have c19b1 : (((rd_T40 l0_0 x26_2).f0) != ((rd_T40 l0_0 0).f0)) = false := bne_eq_false_iff_eq.mpr c19
            clear c19
            have H' := Aside0.mk H
            clear H
            have p1461 : 0 ≤ (x26_2 : Int) := of_decide_eq_true (by (with_reducible assumption))
            have q1461 : x26_2 < (l0_0.length : Int) := of_decide_eq_true (by (with_reducible assumption))
            obtain ⟨ad1461, A1461_1, c1461_1, A1461_2, c1461_2, A1461_3, c1461_3, e1461, hx1461_0, hx1461_1, hx1461_2, hx1461_3, hx1461_4, hl1461_1, hi1461_1, hl1461_2, hi1461_2, hl1461_3, hi1461_3⟩ := at_T40 HR0_0.out x26_2 p1461 q1461
            cases e1461
            replace hx1461_0 := (HB.out.cell (World.block_lt_of_cell? w _ hx1461_0)).trans hx1461_0
            replace hx1461_1 := (HB.out.cell (World.block_lt_of_cell? w _ hx1461_1)).trans hx1461_1
            replace hx1461_2 := (HB.out.cell (World.block_lt_of_cell? w _ hx1461_2)).trans hx1461_2
            replace hx1461_3 := (HB.out.cell (World.block_lt_of_cell? w _ hx1461_3)).trans hx1461_3
            replace hx1461_4 := (HB.out.cell (World.block_lt_of_cell? w _ hx1461_4)).trans hx1461_4
            have HR1461_1 := Aside0.mk hi1461_1
            have HC1461_1 := Aside0.mk hl1461_1
            clear hi1461_1 hl1461_1
            have HR1461_2 := Aside0.mk hi1461_2
            have HC1461_2 := Aside0.mk hl1461_2
            clear hi1461_2 hl1461_2
            have HR1461_3 := Aside0.mk hi1461_3
            have HC1461_3 := Aside0.mk hl1461_3
            clear hi1461_3 hl1461_3
            replace p1461 := eq_true p1461
            replace q1461 := eq_true q1461
            try go_wp2_with (((with_reducible refine gate_dst (N := 6) rfl ?_); refine box_event ?hg (N := 6) ?hd (cs := #[.int .i64 0, .slice none 0 0, .slice none 0 0, .slice none 0 0, .int .i64 0]) (t := 40) ?hr ?_; (case hd => rfl); (case hg => rfl); (case hr => (go_simp; done)); intro gb1462 hg w20 hbox hb; have n0_ := Aside0.mk (blk_below (g := gb1458) (o := .cells #[.slice (some ad1461) l0_0.length c0_0, .int .i64 a0_1, .int .i64 a0_2] 68 (0, 0)) BK1458.out hb); have n1_ := Aside0.mk (below_step HB.out hb); have n2_ := Aside0.mk (hbox); have n3_ := Aside0.mk ((by rw [hg]; exact (below_size HB.out) : w.heap.size ≤ gb1462)); have n4_ := Aside0.mk ((by rw [hg]; exact (below_size HB.out) : w.heap.size ≤ gb1462)); have n5_ := Aside0.mk ((by rw [hg]; exact Nat.ne_of_lt (blk_lt (g := gb1458) (o := .cells #[.slice (some ad1461) l0_0.length c0_0, .int .i64 a0_1, .int .i64 a0_2] 68 (0, 0)) BK1458.out) : gb1458 ≠ gb1462)); have n6_ := Aside0.mk ((by rw [hg]; exact Nat.ne_of_gt (blk_lt (g := gb1458) (o := .cells #[.slice (some ad1461) l0_0.length c0_0, .int .i64 a0_1, .int .i64 a0_2] 68 (0, 0)) BK1458.out) : gb1462 ≠ gb1458)); clear BK1458; clear HB; have BK1458 := n0_; have HB := n1_; have BK1462 := n2_; have GW1462 := n3_; have GE1462 := n4_; have NB1458_1462 := n5_; have NB1462_1458 := n6_; clear n0_ n1_ n2_ n3_ n4_ n5_ n6_; clear hb hbox hg; have hnb21 := NB1462_1458.out; have hnc21 := NB1458_1462.out; have hcz22_0 : w20.cell? ⟨gb1462, 0, none⟩ = some (.int .i64 0) := (blk_cell BK1462.out 0).trans rfl; have hcz22_1 : w20.cell? ⟨gb1462, 1, none⟩ = some (.slice none 0 0) := (blk_cell BK1462.out 1).trans rfl; have hcz22_2 : w20.cell? ⟨gb1462, 2, none⟩ = some (.slice none 0 0) := (blk_cell BK1462.out 2).trans rfl; have hcz22_3 : w20.cell? ⟨gb1462, 3, none⟩ = some (.slice none 0 0) := (blk_cell BK1462.out 3).trans rfl; have hcz22_4 : w20.cell? ⟨gb1462, 4, none⟩ = some (.int .i64 0) := (blk_cell BK1462.out 4).trans rfl; have hfz22_0 := blk_frozen BK1462.out 0; have hfz22_1 := blk_frozen BK1462.out 1; have hfz22_2 := blk_frozen BK1462.out 2; have hfz22_3 := blk_frozen BK1462.out 3; have hfz22_4 := blk_frozen BK1462.out 4))
            have n0_ : Aside0 ((((((w20.setCell ⟨gb1462, 0, none⟩ (.int .i64 ((rd_T40 l0_0 x26_2).f0))).setCell ⟨gb1462, 1, none⟩ (.slice A1461_1 ((rd_T40 l0_0 x26_2).f1).length c1461_1)).setCell ⟨gb1462, 2, none⟩ (.slice A1461_2 ((rd_T40 l0_0 x26_2).f2).length c1461_2)).setCell ⟨gb1462, 3, none⟩ (.slice A1461_3 ((rd_T40 l0_0 x26_2).f3).length c1461_3)).setCell ⟨gb1462, 4, none⟩ (.int .i64 ((rd_T40 l0_0 x26_2).f4))).heap[gb1458]? = some (.cells #[.slice (some ad1461) l0_0.length c0_0, .int .i64 a0_1, .int .i64 a0_2] 68 (0, 0))) := ⟨by refine blk_far ?_ NB1458_1462.out _; refine blk_far ?_ NB1458_1462.out _; refine blk_far ?_ NB1458_1462.out _; refine blk_far ?_ NB1458_1462.out _; refine blk_far ?_ NB1458_1462.out _; exact BK1458.out⟩
            have n1_ : Aside0 ((((((w20.setCell ⟨gb1462, 0, none⟩ (.int .i64 ((rd_T40 l0_0 x26_2).f0))).setCell ⟨gb1462, 1, none⟩ (.slice A1461_1 ((rd_T40 l0_0 x26_2).f1).length c1461_1)).setCell ⟨gb1462, 2, none⟩ (.slice A1461_2 ((rd_T40 l0_0 x26_2).f2).length c1461_2)).setCell ⟨gb1462, 3, none⟩ (.slice A1461_3 ((rd_T40 l0_0 x26_2).f3).length c1461_3)).setCell ⟨gb1462, 4, none⟩ (.int .i64 ((rd_T40 l0_0 x26_2).f4))).heap[gb1462]? = some (.cells #[.int .i64 ((rd_T40 l0_0 x26_2).f0), .slice A1461_1 ((rd_T40 l0_0 x26_2).f1).length c1461_1, .slice A1461_2 ((rd_T40 l0_0 x26_2).f2).length c1461_2, .slice A1461_3 ((rd_T40 l0_0 x26_2).f3).length c1461_3, .int .i64 ((rd_T40 l0_0 x26_2).f4)] 40 (0, 0))) := ⟨by refine blk_put (cs := #[.int .i64 ((rd_T40 l0_0 x26_2).f0), .slice A1461_1 ((rd_T40 l0_0 x26_2).f1).length c1461_1, .slice A1461_2 ((rd_T40 l0_0 x26_2).f2).length c1461_2, .slice A1461_3 ((rd_T40 l0_0 x26_2).f3).length c1461_3, .int .i64 0]) ?_ 4 _ rfl; refine blk_put (cs := #[.int .i64 ((rd_T40 l0_0 x26_2).f0), .slice A1461_1 ((rd_T40 l0_0 x26_2).f1).length c1461_1, .slice A1461_2 ((rd_T40 l0_0 x26_2).f2).length c1461_2, .slice none 0 0, .int .i64 0]) ?_ 3 _ rfl; refine blk_put (cs := #[.int .i64 ((rd_T40 l0_0 x26_2).f0), .slice A1461_1 ((rd_T40 l0_0 x26_2).f1).length c1461_1, .slice none 0 0, .slice none 0 0, .int .i64 0]) ?_ 2 _ rfl; refine blk_put (cs := #[.int .i64 ((rd_T40 l0_0 x26_2).f0), .slice none 0 0, .slice none 0 0, .slice none 0 0, .int .i64 0]) ?_ 1 _ rfl; refine blk_put (cs := #[.int .i64 0, .slice none 0 0, .slice none 0 0, .slice none 0 0, .int .i64 0]) ?_ 0 _ rfl; exact BK1462.out⟩
            have n2_ : Aside0 (Below w.heap.size w (((((w20.setCell ⟨gb1462, 0, none⟩ (.int .i64 ((rd_T40 l0_0 x26_2).f0))).setCell ⟨gb1462, 1, none⟩ (.slice A1461_1 ((rd_T40 l0_0 x26_2).f1).length c1461_1)).setCell ⟨gb1462, 2, none⟩ (.slice A1461_2 ((rd_T40 l0_0 x26_2).f2).length c1461_2)).setCell ⟨gb1462, 3, none⟩ (.slice A1461_3 ((rd_T40 l0_0 x26_2).f3).length c1461_3)).setCell ⟨gb1462, 4, none⟩ (.int .i64 ((rd_T40 l0_0 x26_2).f4)))) := ⟨by repeat ((with_reducible first | exact HB.out | refine below_set ?_ GE1462.out))⟩
            (try clear BK1458)
            (try clear BK1462)
            (try clear HB)
            generalize (((((w20.setCell ⟨gb1462, 0, none⟩ (.int .i64 ((rd_T40 l0_0 x26_2).f0))).setCell ⟨gb1462, 1, none⟩ (.slice A1461_1 ((rd_T40 l0_0 x26_2).f1).length c1461_1)).setCell ⟨gb1462, 2, none⟩ (.slice A1461_2 ((rd_T40 l0_0 x26_2).f2).length c1461_2)).setCell ⟨gb1462, 3, none⟩ (.slice A1461_3 ((rd_T40 l0_0 x26_2).f3).length c1461_3)).setCell ⟨gb1462, 4, none⟩ (.int .i64 ((rd_T40 l0_0 x26_2).f4))) = w23 at n0_ n1_ n2_ ⊢
            have BK1458 := n0_
            have BK1462 := n1_
            have HB := n2_
            clear n0_ n1_ n2_
            have n0_ := Aside0.mk (blk_drew BK1458.out)
            have n1_ := Aside0.mk (blk_drew BK1462.out)
            have n2_ := Aside0.mk (below_drew1 HB.out)
            clear BK1458
            clear BK1462
            clear HB
            have BK1458 := n0_
            have BK1462 := n1_
            have HB := n2_
            clear n0_ n1_ n2_
            have p1464 : 0 ≤ (0 : Int) := (by omega)
            have q1464 : 0 < (l0_0.length : Int) := of_decide_eq_true (by (with_reducible assumption))
            obtain ⟨ad1464, A1464_1, c1464_1, A1464_2, c1464_2, A1464_3, c1464_3, e1464, hx1464_0, hx1464_1, hx1464_2, hx1464_3, hx1464_4, hl1464_1, hi1464_1, hl1464_2, hi1464_2, hl1464_3, hi1464_3⟩ := at_T40 HR0_0.out 0 p1464 q1464
            have hw1464_4 := hx1464_4
            (try rw [show ((0 : Int)).toNat = 0 from rfl] at hw1464_4)
            (try rw [show 0 * 5 = 0 from rfl] at hw1464_4)
            (try rw [Addr.add_zero'] at hw1464_4)
            have hw1464_3 := hx1464_3
            (try rw [show ((0 : Int)).toNat = 0 from rfl] at hw1464_3)
            (try rw [show 0 * 5 = 0 from rfl] at hw1464_3)
            (try rw [Addr.add_zero'] at hw1464_3)
            have hw1464_2 := hx1464_2
            (try rw [show ((0 : Int)).toNat = 0 from rfl] at hw1464_2)
            (try rw [show 0 * 5 = 0 from rfl] at hw1464_2)
            (try rw [Addr.add_zero'] at hw1464_2)
            have hw1464_1 := hx1464_1
            (try rw [show ((0 : Int)).toNat = 0 from rfl] at hw1464_1)
            (try rw [show 0 * 5 = 0 from rfl] at hw1464_1)
            (try rw [Addr.add_zero'] at hw1464_1)
            have hw1464_0 := hx1464_0
            (try rw [show ((0 : Int)).toNat = 0 from rfl] at hw1464_0)
            (try rw [show 0 * 5 = 0 from rfl] at hw1464_0)
            (try rw [Addr.add_zero'] at hw1464_0)
            obtain rfl : ad1461 = ad1464 := (by injection e1464)
            have qi1464 : (0 < l0_0.length) = True := eq_true (by omega)
            (try rw [show ((0 : Int)).toNat = 0 from rfl] at hx1464_0)
            (try rw [show 0 * 5 = 0 from rfl] at hx1464_0)
            (try rw [Addr.add_zero'] at hx1464_0)
            (try rw [show ((0 : Int)).toNat = 0 from rfl] at hx1464_1)
            (try rw [show 0 * 5 = 0 from rfl] at hx1464_1)
            (try rw [Addr.add_zero'] at hx1464_1)
            (try rw [show ((0 : Int)).toNat = 0 from rfl] at hx1464_2)
            (try rw [show 0 * 5 = 0 from rfl] at hx1464_2)
            (try rw [Addr.add_zero'] at hx1464_2)
            (try rw [show ((0 : Int)).toNat = 0 from rfl] at hx1464_3)
            (try rw [show 0 * 5 = 0 from rfl] at hx1464_3)
            (try rw [Addr.add_zero'] at hx1464_3)
            (try rw [show ((0 : Int)).toNat = 0 from rfl] at hx1464_4)
            (try rw [show 0 * 5 = 0 from rfl] at hx1464_4)
            (try rw [Addr.add_zero'] at hx1464_4)
            replace hx1464_0 := (HB.out.cell (World.block_lt_of_cell? w _ hx1464_0)).trans hx1464_0
            replace hx1464_1 := (HB.out.cell (World.block_lt_of_cell? w _ hx1464_1)).trans hx1464_1
            replace hx1464_2 := (HB.out.cell (World.block_lt_of_cell? w _ hx1464_2)).trans hx1464_2
            replace hx1464_3 := (HB.out.cell (World.block_lt_of_cell? w _ hx1464_3)).trans hx1464_3
            replace hx1464_4 := (HB.out.cell (World.block_lt_of_cell? w _ hx1464_4)).trans hx1464_4
            have HR1464_1 := Aside0.mk hi1464_1
            have HC1464_1 := Aside0.mk hl1464_1
            clear hi1464_1 hl1464_1
            have HR1464_2 := Aside0.mk hi1464_2
            have HC1464_2 := Aside0.mk hl1464_2
            clear hi1464_2 hl1464_2
            have HR1464_3 := Aside0.mk hi1464_3
            have HC1464_3 := Aside0.mk hl1464_3
            clear hi1464_3 hl1464_3
            replace p1464 := eq_true p1464
            replace q1464 := eq_true q1464
            refine start_ (n := 13) (S := fun w' => w'.cell? ⟨gb1462, 0, none⟩ = some (.int .i64 ((rd_T40 l0_0 x26_2).f0)) ∧ w'.cell? ⟨gb1462, 1, none⟩ = some (.slice A1461_1 ((rd_T40 l0_0 x26_2).f1).length c1461_1) ∧ w'.cell? ⟨gb1462, 2, none⟩ = some (.slice A1461_2 ((rd_T40 l0_0 x26_2).f2).length c1461_2) ∧ w'.cell? ⟨gb1462, 3, none⟩ = some (.slice A1461_3 ((rd_T40 l0_0 x26_2).f3).length c1461_3) ∧ w'.cell? ⟨gb1462, 4, none⟩ = some (.int .i64 ((rd_T40 l0_0 x26_2).f4)) ∧ w'.cell? ⟨gb1458, 0, none⟩ = some (.slice (some ad1461) l0_0.length c0_0) ∧ w'.cell? ⟨gb1458, 1, none⟩ = some (.int .i64 a0_1) ∧ w'.cell? ⟨gb1458, 2, none⟩ = some (.int .i64 a0_2) ∧ w'.cell? ad1461 = some (.int .i64 ((rd_T40 l0_0 0).f0)) ∧ w'.cell? ⟨ad1461.block, ad1461.off + 1, none⟩ = some (.slice A1464_1 ((rd_T40 l0_0 0).f1).length c1464_1) ∧ w'.cell? ⟨ad1461.block, ad1461.off + 2, none⟩ = some (.slice A1464_2 ((rd_T40 l0_0 0).f2).length c1464_2) ∧ w'.cell? ⟨ad1461.block, ad1461.off + 3, none⟩ = some (.slice A1464_3 ((rd_T40 l0_0 0).f3).length c1464_3) ∧ w'.cell? ⟨ad1461.block, ad1461.off + 4, none⟩ = some (.int .i64 ((rd_T40 l0_0 0).f4))) (ds := []) #[false, false, false, false, false, false, false, false, false, false, false, false, false] (by kernel_rfl) rfl rfl ⟨(blk_cell BK1462.out 0).trans rfl, (blk_cell BK1462.out 1).trans rfl, (blk_cell BK1462.out 2).trans rfl, (blk_cell BK1462.out 3).trans rfl, (blk_cell BK1462.out 4).trans rfl, (blk_cell BK1458.out 0).trans rfl, (blk_cell BK1458.out 1).trans rfl, (blk_cell BK1458.out 2).trans rfl, ((HB.out.cell (World.block_lt_of_cell? w _ hw1464_0)).trans hw1464_0), ((HB.out.cell (World.block_lt_of_cell? w _ hw1464_1)).trans hw1464_1), ((HB.out.cell (World.block_lt_of_cell? w _ hw1464_2)).trans hw1464_2), ((HB.out.cell (World.block_lt_of_cell? w _ hw1464_3)).trans hw1464_3), ((HB.out.cell (World.block_lt_of_cell? w _ hw1464_4)).trans hw1464_4)⟩ (fun hHeld => ?_); refine with_tabW impl_IsValidJoiner.tab7 impl_IsValidJoiner.bits7 (fun HT_ HW_ => ?_)
            generalize w23.drew = w24 at BK1458 BK1462 HB HR1464_1 HR1464_2 HR1464_3 hx1464_0 hx1464_1 hx1464_2 hx1464_3 hx1464_4 hHeld ⊢
            refine take_ (i := 0) (N := some 30) (v := ?_) (a' := ?_) #[true, false, false, false, false, false, false, false, false, false, false, false, false] rfl rfl (take_ofW HT_.out HW_.out (by kernel_rfl)) (fun _ _ _ h => h) (Or.inl ⟨rfl, ?_⟩) hHeld ?_ ?_
            rotate_left
            ·rintro w' ⟨s0, s1, s2, s3, s4, s5, s6, s7, s8, s9, s10, s11, s12⟩
             go_simp
             with_reducible rfl
            rotate_left
            ·simp only [Act.put, List.setIfInBounds_toArray, List.set_cons_zero, List.set_cons_succ, i64_w, i32_w]
             rfl
            refine one_ (i := 1) (N := some 31) #[true, true, false, false, false, false, false, false, false, false, false, false, false] rfl rfl (one_of HT_.out (by kernel_rfl)) (by decide) (fun K hK => ?_)
            refine goes_ Try.func39 (by kernel_rfl) rfl #[.agg #[.int .i64 ((rd_T40 l0_0 x26_2).f0), .slice A1461_1 ((rd_T40 l0_0 x26_2).f1).length c1461_1, .slice A1461_2 ((rd_T40 l0_0 x26_2).f2).length c1461_2, .slice A1461_3 ((rd_T40 l0_0 x26_2).f3).length c1461_3, .int .i64 ((rd_T40 l0_0 x26_2).f4)]] rfl rfl rfl (by (try simp only [List.map_toArray, List.map_cons, List.map_nil]); rfl) ?_
            with_reducible refine (impl_IsValidTask.calls k2 ((rd_T40 l0_0 x26_2).f0) _ _ ((rd_T40 l0_0 x26_2).f1) _ _ ((rd_T40 l0_0 x26_2).f2) _ _ ((rd_T40 l0_0 x26_2).f3) ((rd_T40 l0_0 x26_2).f4) true _ ?side1 ?side2 ?side3 ?side4 ?side5 ?side6 A16.out).mono ?_
            (case side1 => repeat (exact (Kd.C_below HR1461_1.out HB.out)))
            (case side2 => exact HC1461_1.out)
            (case side3 => repeat (exact (Kd.C_below HR1461_2.out HB.out)))
            (case side4 => exact HC1461_2.out)
            (case side5 => repeat (exact (Kd.C_below HR1461_3.out HB.out)))
            (case side6 => exact HC1461_3.out)
            rintro e w25 ⟨rfl, hb⟩
            refine ⟨_, rfl, ?_⟩
            have n0_ := Aside0.mk (blk_below (g := gb1458) (o := .cells #[.slice (some ad1461) l0_0.length c0_0, .int .i64 a0_1, .int .i64 a0_2] 68 (0, 0)) BK1458.out hb)
            have n1_ := Aside0.mk (blk_below (g := gb1462) (o := .cells #[.int .i64 ((rd_T40 l0_0 x26_2).f0), .slice A1461_1 ((rd_T40 l0_0 x26_2).f1).length c1461_1, .slice A1461_2 ((rd_T40 l0_0 x26_2).f2).length c1461_2, .slice A1461_3 ((rd_T40 l0_0 x26_2).f3).length c1461_3, .int .i64 ((rd_T40 l0_0 x26_2).f4)] 40 (0, 0)) BK1462.out hb)
            have n2_ := Aside0.mk (below_step HB.out hb)
            clear BK1458
            clear BK1462
            clear HB
            have BK1458 := n0_
            have BK1462 := n1_
            have HB := n2_
            clear n0_ n1_ n2_
            (try clear hb)
            (try clear hb2)
            (try clear hk)
            (try clear hi)
            refine hK.out _ _ ⟨(blk_cell BK1462.out 0).trans rfl, (blk_cell BK1462.out 1).trans rfl, (blk_cell BK1462.out 2).trans rfl, (blk_cell BK1462.out 3).trans rfl, (blk_cell BK1462.out 4).trans rfl, (blk_cell BK1458.out 0).trans rfl, (blk_cell BK1458.out 1).trans rfl, (blk_cell BK1458.out 2).trans rfl, ((HB.out.cell (World.block_lt_of_cell? w _ hw1464_0)).trans hw1464_0), ((HB.out.cell (World.block_lt_of_cell? w _ hw1464_1)).trans hw1464_1), ((HB.out.cell (World.block_lt_of_cell? w _ hw1464_2)).trans hw1464_2), ((HB.out.cell (World.block_lt_of_cell? w _ hw1464_3)).trans hw1464_3), ((HB.out.cell (World.block_lt_of_cell? w _ hw1464_4)).trans hw1464_4)⟩ (fun hHeld => ?_)
            clear hK K
            refine norm_ (a' := ?_) ?_ ?_
            rotate_left
            ·show Act.put _ (some 31) _ = _
             simp only [Act.put, List.setIfInBounds_toArray, List.set_cons_zero, List.set_cons_succ, i64_w, i32_w]
             rfl
            refine pure_ (i := 2) (N := some 32) (v := ?_) (a' := ?_) #[true, true, true, false, false, false, false, false, false, false, false, false, false] rfl rfl (any_of HT_.out (by kernel_rfl)) (fun _ _ _ h => h) (Or.inl ⟨rfl, ?_⟩) ?_ ?_
            rotate_left
            ·intro w'
             go_simp
             with_reducible rfl
            rotate_left
            ·simp only [Act.put, List.setIfInBounds_toArray, List.set_cons_zero, List.set_cons_succ, i64_w, i32_w]
             rfl
            refine pure_ (i := 3) (N := some 33) (v := ?_) (a' := ?_) #[true, true, true, true, false, false, false, false, false, false, false, false, false] rfl rfl (any_of HT_.out (by kernel_rfl)) (fun _ _ _ h => h) (Or.inl ⟨rfl, ?_⟩) ?_ ?_
            rotate_left
            ·intro w'
             go_simp
             with_reducible rfl
            rotate_left
            ·simp only [Act.put, List.setIfInBounds_toArray, List.set_cons_zero, List.set_cons_succ, i64_w, i32_w]
             rfl
            refine pure_ (i := 4) (N := some 34) (v := ?_) (a' := ?_) #[true, true, true, true, true, false, false, false, false, false, false, false, false] rfl rfl (any_of HT_.out (by kernel_rfl)) (fun _ _ _ h => h) (Or.inl ⟨rfl, ?_⟩) ?_ ?_
            rotate_left
            ·intro w'
             go_simp
             with_reducible rfl
            rotate_left
            ·simp only [Act.put, List.setIfInBounds_toArray, List.set_cons_zero, List.set_cons_succ, i64_w, i32_w]
             rfl
            refine pure_ (i := 6) (N := some 36) (v := ?_) (a' := ?_) #[true, true, true, true, true, false, true, false, false, false, false, false, false] rfl rfl (any_of HT_.out (by kernel_rfl)) (fun _ _ _ h => h) (Or.inl ⟨rfl, ?_⟩) ?_ ?_
            rotate_left
            ·intro w'
             go_simp
             with_reducible rfl
            rotate_left
            ·simp only [Act.put, List.setIfInBounds_toArray, List.set_cons_zero, List.set_cons_succ, i64_w, i32_w]
             rfl
            refine take_ (i := 5) (N := some 35) (v := ?_) (a' := ?_) #[true, true, true, true, true, true, true, false, false, false, false, false, false] rfl rfl (take_ofW HT_.out HW_.out (by kernel_rfl)) (fun _ _ _ h => h) (Or.inl ⟨rfl, ?_⟩) hHeld ?_ ?_
            rotate_left
            ·rintro w' ⟨s0, s1, s2, s3, s4, s5, s6, s7, s8, s9, s10, s11, s12⟩
             go_simp
             with_reducible rfl
            rotate_left
            ·simp only [Act.put, List.setIfInBounds_toArray, List.set_cons_zero, List.set_cons_succ, i64_w, i32_w]
             rfl
            refine take_ (i := 7) (N := some 37) (v := ?_) (a' := ?_) #[true, true, true, true, true, true, true, true, false, false, false, false, false] rfl rfl (take_ofW HT_.out HW_.out (by kernel_rfl)) (fun _ _ _ h => h) (Or.inl ⟨rfl, ?_⟩) hHeld ?_ ?_
            rotate_left
            ·rintro w' ⟨s0, s1, s2, s3, s4, s5, s6, s7, s8, s9, s10, s11, s12⟩
             go_simp
             with_reducible rfl
            rotate_left
            ·simp only [Act.put, List.setIfInBounds_toArray, List.set_cons_zero, List.set_cons_succ, i64_w, i32_w]
             rfl
            refine pure_ (i := 8) (N := some 38) (v := ?_) (a' := ?_) #[true, true, true, true, true, true, true, true, true, false, false, false, false] rfl rfl (any_of HT_.out (by kernel_rfl)) (fun _ _ _ h => h) (Or.inl ⟨rfl, ?_⟩) ?_ ?_
            rotate_left
            ·intro w'
             go_simp
             with_reducible rfl
            rotate_left
            ·simp only [Act.put, List.setIfInBounds_toArray, List.set_cons_zero, List.set_cons_succ, i64_w, i32_w]
             rfl
            refine pure_ (i := 9) (N := some 39) (v := ?_) (a' := ?_) #[true, true, true, true, true, true, true, true, true, true, false, false, false] rfl rfl (any_of HT_.out (by kernel_rfl)) (fun _ _ _ h => h) (Or.inl ⟨rfl, ?_⟩) ?_ ?_
            rotate_left
            ·intro w'
             go_simp
             with_reducible rfl
            rotate_left
            ·simp only [Act.put, List.setIfInBounds_toArray, List.set_cons_zero, List.set_cons_succ, i64_w, i32_w]
             rfl
            refine take_ (i := 10) (N := some 40) (v := ?_) (a' := ?_) #[true, true, true, true, true, true, true, true, true, true, true, false, false] rfl rfl (take_ofW HT_.out HW_.out (by kernel_rfl)) (fun _ _ _ h => h) (Or.inl ⟨rfl, ?_⟩) hHeld ?_ ?_
            rotate_left
            ·rintro w' ⟨s0, s1, s2, s3, s4, s5, s6, s7, s8, s9, s10, s11, s12⟩
             go_simp
             with_reducible rfl
            rotate_left
            ·simp only [Act.put, List.setIfInBounds_toArray, List.set_cons_zero, List.set_cons_succ, i64_w, i32_w]
             rfl
            refine pure_ (i := 11) (N := some 41) (v := ?_) (a' := ?_) #[true, true, true, true, true, true, true, true, true, true, true, true, false] rfl rfl (any_of HT_.out (by kernel_rfl)) (fun _ _ _ h => h) (Or.inl ⟨rfl, ?_⟩) ?_ ?_
            rotate_left
            ·intro w'
             go_simp
             with_reducible rfl
            rotate_left
            ·simp only [Act.put, List.setIfInBounds_toArray, List.set_cons_zero, List.set_cons_succ, i64_w, i32_w]
             rfl
            refine pure_ (i := 12) (N := some 42) (v := ?_) (a' := ?_) #[true, true, true, true, true, true, true, true, true, true, true, true, true] rfl rfl (any_of HT_.out (by kernel_rfl)) (fun _ _ _ h => h) (Or.inl ⟨rfl, ?_⟩) ?_ ?_
            rotate_left
            ·intro w'
             go_simp
             with_reducible rfl
            rotate_left
            ·simp only [Act.put, List.setIfInBounds_toArray, List.set_cons_zero, List.set_cons_succ, i64_w, i32_w]
             rfl
            refine done_ (done_of HT_.out (by kernel_rfl)) ?_
            have hcz26_0 : w25.cell? ⟨gb1462, 0, none⟩ = some (.int .i64 ((rd_T40 l0_0 x26_2).f0)) := (blk_cell BK1462.out 0).trans rfl
            have hcz26_1 : w25.cell? ⟨gb1462, 1, none⟩ = some (.slice A1461_1 ((rd_T40 l0_0 x26_2).f1).length c1461_1) := (blk_cell BK1462.out 1).trans rfl
            have hcz26_2 : w25.cell? ⟨gb1462, 2, none⟩ = some (.slice A1461_2 ((rd_T40 l0_0 x26_2).f2).length c1461_2) := (blk_cell BK1462.out 2).trans rfl
            have hcz26_3 : w25.cell? ⟨gb1462, 3, none⟩ = some (.slice A1461_3 ((rd_T40 l0_0 x26_2).f3).length c1461_3) := (blk_cell BK1462.out 3).trans rfl
            have hcz26_4 : w25.cell? ⟨gb1462, 4, none⟩ = some (.int .i64 ((rd_T40 l0_0 x26_2).f4)) := (blk_cell BK1462.out 4).trans rfl
            have hfz26_0 := blk_frozen BK1462.out 0
            have hfz26_1 := blk_frozen BK1462.out 1
            have hfz26_2 := blk_frozen BK1462.out 2
            have hfz26_3 := blk_frozen BK1462.out 3
            have hfz26_4 := blk_frozen BK1462.out 4
            try go_wp2
            go_roundg k2
            case measure => have := HJ1.out; have := HK2.out; omega
            case rel => exact ⟨(wrap64 (x3_2 + (((rd_T40 l0_0 x26_2).f1).length : Int))), (wrap64 (x4_2 + (((rd_T40 l0_0 x26_2).f2).length : Int))), (wrap64 (x26_2 + 1)), rfl, rfl, rfl, H', ⟨by have := HJ1.out; have := HK2.out; omega⟩, ⟨BK1458.out⟩, ⟨HB.out⟩⟩
           ·rw [if_neg c19] at H
            have c19b0 : (((rd_T40 l0_0 x26_2).f0) == ((rd_T40 l0_0 0).f0)) = false := beq_eq_false_iff_ne.mpr c19
            have c19b1 : (((rd_T40 l0_0 x26_2).f0) != ((rd_T40 l0_0 0).f0)) = true := bne_iff_ne.mpr c19
            obtain rfl := Option.some.inj H
            have p1461 : 0 ≤ (x26_2 : Int) := of_decide_eq_true (by (with_reducible assumption))
            have q1461 : x26_2 < (l0_0.length : Int) := of_decide_eq_true (by (with_reducible assumption))
            obtain ⟨ad1461, A1461_1, c1461_1, A1461_2, c1461_2, A1461_3, c1461_3, e1461, hx1461_0, hx1461_1, hx1461_2, hx1461_3, hx1461_4, hl1461_1, hi1461_1, hl1461_2, hi1461_2, hl1461_3, hi1461_3⟩ := at_T40 HR0_0.out x26_2 p1461 q1461
            cases e1461
            replace hx1461_0 := (HB.out.cell (World.block_lt_of_cell? w _ hx1461_0)).trans hx1461_0
            replace hx1461_1 := (HB.out.cell (World.block_lt_of_cell? w _ hx1461_1)).trans hx1461_1
            replace hx1461_2 := (HB.out.cell (World.block_lt_of_cell? w _ hx1461_2)).trans hx1461_2
            replace hx1461_3 := (HB.out.cell (World.block_lt_of_cell? w _ hx1461_3)).trans hx1461_3
            replace hx1461_4 := (HB.out.cell (World.block_lt_of_cell? w _ hx1461_4)).trans hx1461_4
            have HR1461_1 := Aside0.mk hi1461_1
            have HC1461_1 := Aside0.mk hl1461_1
            clear hi1461_1 hl1461_1
            have HR1461_2 := Aside0.mk hi1461_2
            have HC1461_2 := Aside0.mk hl1461_2
            clear hi1461_2 hl1461_2
            have HR1461_3 := Aside0.mk hi1461_3
            have HC1461_3 := Aside0.mk hl1461_3
            clear hi1461_3 hl1461_3
            replace p1461 := eq_true p1461
            replace q1461 := eq_true q1461
            try go_wp2_with (((with_reducible refine gate_dst (N := 6) rfl ?_); refine box_event ?hg (N := 6) ?hd (cs := #[.int .i64 0, .slice none 0 0, .slice none 0 0, .slice none 0 0, .int .i64 0]) (t := 40) ?hr ?_; (case hd => rfl); (case hg => rfl); (case hr => (go_simp; done)); intro gb1462 hg w27 hbox hb; have n0_ := Aside0.mk (blk_below (g := gb1458) (o := .cells #[.slice (some ad1461) l0_0.length c0_0, .int .i64 a0_1, .int .i64 a0_2] 68 (0, 0)) BK1458.out hb); have n1_ := Aside0.mk (below_step HB.out hb); have n2_ := Aside0.mk (hbox); have n3_ := Aside0.mk ((by rw [hg]; exact (below_size HB.out) : w.heap.size ≤ gb1462)); have n4_ := Aside0.mk ((by rw [hg]; exact (below_size HB.out) : w.heap.size ≤ gb1462)); have n5_ := Aside0.mk ((by rw [hg]; exact Nat.ne_of_lt (blk_lt (g := gb1458) (o := .cells #[.slice (some ad1461) l0_0.length c0_0, .int .i64 a0_1, .int .i64 a0_2] 68 (0, 0)) BK1458.out) : gb1458 ≠ gb1462)); have n6_ := Aside0.mk ((by rw [hg]; exact Nat.ne_of_gt (blk_lt (g := gb1458) (o := .cells #[.slice (some ad1461) l0_0.length c0_0, .int .i64 a0_1, .int .i64 a0_2] 68 (0, 0)) BK1458.out) : gb1462 ≠ gb1458)); clear BK1458; clear HB; have BK1458 := n0_; have HB := n1_; have BK1462 := n2_; have GW1462 := n3_; have GE1462 := n4_; have NB1458_1462 := n5_; have NB1462_1458 := n6_; clear n0_ n1_ n2_ n3_ n4_ n5_ n6_; clear hb hbox hg; have hnb28 := NB1462_1458.out; have hnc28 := NB1458_1462.out; have hcz29_0 : w27.cell? ⟨gb1462, 0, none⟩ = some (.int .i64 0) := (blk_cell BK1462.out 0).trans rfl; have hcz29_1 : w27.cell? ⟨gb1462, 1, none⟩ = some (.slice none 0 0) := (blk_cell BK1462.out 1).trans rfl; have hcz29_2 : w27.cell? ⟨gb1462, 2, none⟩ = some (.slice none 0 0) := (blk_cell BK1462.out 2).trans rfl; have hcz29_3 : w27.cell? ⟨gb1462, 3, none⟩ = some (.slice none 0 0) := (blk_cell BK1462.out 3).trans rfl; have hcz29_4 : w27.cell? ⟨gb1462, 4, none⟩ = some (.int .i64 0) := (blk_cell BK1462.out 4).trans rfl; have hfz29_0 := blk_frozen BK1462.out 0; have hfz29_1 := blk_frozen BK1462.out 1; have hfz29_2 := blk_frozen BK1462.out 2; have hfz29_3 := blk_frozen BK1462.out 3; have hfz29_4 := blk_frozen BK1462.out 4))
            have n0_ : Aside0 ((((((w27.setCell ⟨gb1462, 0, none⟩ (.int .i64 ((rd_T40 l0_0 x26_2).f0))).setCell ⟨gb1462, 1, none⟩ (.slice A1461_1 ((rd_T40 l0_0 x26_2).f1).length c1461_1)).setCell ⟨gb1462, 2, none⟩ (.slice A1461_2 ((rd_T40 l0_0 x26_2).f2).length c1461_2)).setCell ⟨gb1462, 3, none⟩ (.slice A1461_3 ((rd_T40 l0_0 x26_2).f3).length c1461_3)).setCell ⟨gb1462, 4, none⟩ (.int .i64 ((rd_T40 l0_0 x26_2).f4))).heap[gb1458]? = some (.cells #[.slice (some ad1461) l0_0.length c0_0, .int .i64 a0_1, .int .i64 a0_2] 68 (0, 0))) := ⟨by refine blk_far ?_ NB1458_1462.out _; refine blk_far ?_ NB1458_1462.out _; refine blk_far ?_ NB1458_1462.out _; refine blk_far ?_ NB1458_1462.out _; refine blk_far ?_ NB1458_1462.out _; exact BK1458.out⟩
            have n1_ : Aside0 ((((((w27.setCell ⟨gb1462, 0, none⟩ (.int .i64 ((rd_T40 l0_0 x26_2).f0))).setCell ⟨gb1462, 1, none⟩ (.slice A1461_1 ((rd_T40 l0_0 x26_2).f1).length c1461_1)).setCell ⟨gb1462, 2, none⟩ (.slice A1461_2 ((rd_T40 l0_0 x26_2).f2).length c1461_2)).setCell ⟨gb1462, 3, none⟩ (.slice A1461_3 ((rd_T40 l0_0 x26_2).f3).length c1461_3)).setCell ⟨gb1462, 4, none⟩ (.int .i64 ((rd_T40 l0_0 x26_2).f4))).heap[gb1462]? = some (.cells #[.int .i64 ((rd_T40 l0_0 x26_2).f0), .slice A1461_1 ((rd_T40 l0_0 x26_2).f1).length c1461_1, .slice A1461_2 ((rd_T40 l0_0 x26_2).f2).length c1461_2, .slice A1461_3 ((rd_T40 l0_0 x26_2).f3).length c1461_3, .int .i64 ((rd_T40 l0_0 x26_2).f4)] 40 (0, 0))) := ⟨by refine blk_put (cs := #[.int .i64 ((rd_T40 l0_0 x26_2).f0), .slice A1461_1 ((rd_T40 l0_0 x26_2).f1).length c1461_1, .slice A1461_2 ((rd_T40 l0_0 x26_2).f2).length c1461_2, .slice A1461_3 ((rd_T40 l0_0 x26_2).f3).length c1461_3, .int .i64 0]) ?_ 4 _ rfl; refine blk_put (cs := #[.int .i64 ((rd_T40 l0_0 x26_2).f0), .slice A1461_1 ((rd_T40 l0_0 x26_2).f1).length c1461_1, .slice A1461_2 ((rd_T40 l0_0 x26_2).f2).length c1461_2, .slice none 0 0, .int .i64 0]) ?_ 3 _ rfl; refine blk_put (cs := #[.int .i64 ((rd_T40 l0_0 x26_2).f0), .slice A1461_1 ((rd_T40 l0_0 x26_2).f1).length c1461_1, .slice none 0 0, .slice none 0 0, .int .i64 0]) ?_ 2 _ rfl; refine blk_put (cs := #[.int .i64 ((rd_T40 l0_0 x26_2).f0), .slice none 0 0, .slice none 0 0, .slice none 0 0, .int .i64 0]) ?_ 1 _ rfl; refine blk_put (cs := #[.int .i64 0, .slice none 0 0, .slice none 0 0, .slice none 0 0, .int .i64 0]) ?_ 0 _ rfl; exact BK1462.out⟩
            have n2_ : Aside0 (Below w.heap.size w (((((w27.setCell ⟨gb1462, 0, none⟩ (.int .i64 ((rd_T40 l0_0 x26_2).f0))).setCell ⟨gb1462, 1, none⟩ (.slice A1461_1 ((rd_T40 l0_0 x26_2).f1).length c1461_1)).setCell ⟨gb1462, 2, none⟩ (.slice A1461_2 ((rd_T40 l0_0 x26_2).f2).length c1461_2)).setCell ⟨gb1462, 3, none⟩ (.slice A1461_3 ((rd_T40 l0_0 x26_2).f3).length c1461_3)).setCell ⟨gb1462, 4, none⟩ (.int .i64 ((rd_T40 l0_0 x26_2).f4)))) := ⟨by repeat ((with_reducible first | exact HB.out | refine below_set ?_ GE1462.out))⟩
            (try clear BK1458)
            (try clear BK1462)
            (try clear HB)
            generalize (((((w27.setCell ⟨gb1462, 0, none⟩ (.int .i64 ((rd_T40 l0_0 x26_2).f0))).setCell ⟨gb1462, 1, none⟩ (.slice A1461_1 ((rd_T40 l0_0 x26_2).f1).length c1461_1)).setCell ⟨gb1462, 2, none⟩ (.slice A1461_2 ((rd_T40 l0_0 x26_2).f2).length c1461_2)).setCell ⟨gb1462, 3, none⟩ (.slice A1461_3 ((rd_T40 l0_0 x26_2).f3).length c1461_3)).setCell ⟨gb1462, 4, none⟩ (.int .i64 ((rd_T40 l0_0 x26_2).f4))) = w30 at n0_ n1_ n2_ ⊢
            have BK1458 := n0_
            have BK1462 := n1_
            have HB := n2_
            clear n0_ n1_ n2_
            have n0_ := Aside0.mk (blk_drew BK1458.out)
            have n1_ := Aside0.mk (blk_drew BK1462.out)
            have n2_ := Aside0.mk (below_drew1 HB.out)
            clear BK1458
            clear BK1462
            clear HB
            have BK1458 := n0_
            have BK1462 := n1_
            have HB := n2_
            clear n0_ n1_ n2_
            have p1464 : 0 ≤ (0 : Int) := (by omega)
            have q1464 : 0 < (l0_0.length : Int) := of_decide_eq_true (by (with_reducible assumption))
            obtain ⟨ad1464, A1464_1, c1464_1, A1464_2, c1464_2, A1464_3, c1464_3, e1464, hx1464_0, hx1464_1, hx1464_2, hx1464_3, hx1464_4, hl1464_1, hi1464_1, hl1464_2, hi1464_2, hl1464_3, hi1464_3⟩ := at_T40 HR0_0.out 0 p1464 q1464
            have hw1464_4 := hx1464_4
            (try rw [show ((0 : Int)).toNat = 0 from rfl] at hw1464_4)
            (try rw [show 0 * 5 = 0 from rfl] at hw1464_4)
            (try rw [Addr.add_zero'] at hw1464_4)
            have hw1464_3 := hx1464_3
            (try rw [show ((0 : Int)).toNat = 0 from rfl] at hw1464_3)
            (try rw [show 0 * 5 = 0 from rfl] at hw1464_3)
            (try rw [Addr.add_zero'] at hw1464_3)
            have hw1464_2 := hx1464_2
            (try rw [show ((0 : Int)).toNat = 0 from rfl] at hw1464_2)
            (try rw [show 0 * 5 = 0 from rfl] at hw1464_2)
            (try rw [Addr.add_zero'] at hw1464_2)
            have hw1464_1 := hx1464_1
            (try rw [show ((0 : Int)).toNat = 0 from rfl] at hw1464_1)
            (try rw [show 0 * 5 = 0 from rfl] at hw1464_1)
            (try rw [Addr.add_zero'] at hw1464_1)
            have hw1464_0 := hx1464_0
            (try rw [show ((0 : Int)).toNat = 0 from rfl] at hw1464_0)
            (try rw [show 0 * 5 = 0 from rfl] at hw1464_0)
            (try rw [Addr.add_zero'] at hw1464_0)
            obtain rfl : ad1461 = ad1464 := (by injection e1464)
            have qi1464 : (0 < l0_0.length) = True := eq_true (by omega)
            (try rw [show ((0 : Int)).toNat = 0 from rfl] at hx1464_0)
            (try rw [show 0 * 5 = 0 from rfl] at hx1464_0)
            (try rw [Addr.add_zero'] at hx1464_0)
            (try rw [show ((0 : Int)).toNat = 0 from rfl] at hx1464_1)
            (try rw [show 0 * 5 = 0 from rfl] at hx1464_1)
            (try rw [Addr.add_zero'] at hx1464_1)
            (try rw [show ((0 : Int)).toNat = 0 from rfl] at hx1464_2)
            (try rw [show 0 * 5 = 0 from rfl] at hx1464_2)
            (try rw [Addr.add_zero'] at hx1464_2)
            (try rw [show ((0 : Int)).toNat = 0 from rfl] at hx1464_3)
            (try rw [show 0 * 5 = 0 from rfl] at hx1464_3)
            (try rw [Addr.add_zero'] at hx1464_3)
            (try rw [show ((0 : Int)).toNat = 0 from rfl] at hx1464_4)
            (try rw [show 0 * 5 = 0 from rfl] at hx1464_4)
            (try rw [Addr.add_zero'] at hx1464_4)
            replace hx1464_0 := (HB.out.cell (World.block_lt_of_cell? w _ hx1464_0)).trans hx1464_0
            replace hx1464_1 := (HB.out.cell (World.block_lt_of_cell? w _ hx1464_1)).trans hx1464_1
            replace hx1464_2 := (HB.out.cell (World.block_lt_of_cell? w _ hx1464_2)).trans hx1464_2
            replace hx1464_3 := (HB.out.cell (World.block_lt_of_cell? w _ hx1464_3)).trans hx1464_3
            replace hx1464_4 := (HB.out.cell (World.block_lt_of_cell? w _ hx1464_4)).trans hx1464_4
            have HR1464_1 := Aside0.mk hi1464_1
            have HC1464_1 := Aside0.mk hl1464_1
            clear hi1464_1 hl1464_1
            have HR1464_2 := Aside0.mk hi1464_2
            have HC1464_2 := Aside0.mk hl1464_2
            clear hi1464_2 hl1464_2
            have HR1464_3 := Aside0.mk hi1464_3
            have HC1464_3 := Aside0.mk hl1464_3
            clear hi1464_3 hl1464_3
            replace p1464 := eq_true p1464
            replace q1464 := eq_true q1464
            refine start_ (n := 13) (S := fun w' => w'.cell? ⟨gb1462, 0, none⟩ = some (.int .i64 ((rd_T40 l0_0 x26_2).f0)) ∧ w'.cell? ⟨gb1462, 1, none⟩ = some (.slice A1461_1 ((rd_T40 l0_0 x26_2).f1).length c1461_1) ∧ w'.cell? ⟨gb1462, 2, none⟩ = some (.slice A1461_2 ((rd_T40 l0_0 x26_2).f2).length c1461_2) ∧ w'.cell? ⟨gb1462, 3, none⟩ = some (.slice A1461_3 ((rd_T40 l0_0 x26_2).f3).length c1461_3) ∧ w'.cell? ⟨gb1462, 4, none⟩ = some (.int .i64 ((rd_T40 l0_0 x26_2).f4)) ∧ w'.cell? ⟨gb1458, 0, none⟩ = some (.slice (some ad1461) l0_0.length c0_0) ∧ w'.cell? ⟨gb1458, 1, none⟩ = some (.int .i64 a0_1) ∧ w'.cell? ⟨gb1458, 2, none⟩ = some (.int .i64 a0_2) ∧ w'.cell? ad1461 = some (.int .i64 ((rd_T40 l0_0 0).f0)) ∧ w'.cell? ⟨ad1461.block, ad1461.off + 1, none⟩ = some (.slice A1464_1 ((rd_T40 l0_0 0).f1).length c1464_1) ∧ w'.cell? ⟨ad1461.block, ad1461.off + 2, none⟩ = some (.slice A1464_2 ((rd_T40 l0_0 0).f2).length c1464_2) ∧ w'.cell? ⟨ad1461.block, ad1461.off + 3, none⟩ = some (.slice A1464_3 ((rd_T40 l0_0 0).f3).length c1464_3) ∧ w'.cell? ⟨ad1461.block, ad1461.off + 4, none⟩ = some (.int .i64 ((rd_T40 l0_0 0).f4))) (ds := []) #[false, false, false, false, false, false, false, false, false, false, false, false, false] (by kernel_rfl) rfl rfl ⟨(blk_cell BK1462.out 0).trans rfl, (blk_cell BK1462.out 1).trans rfl, (blk_cell BK1462.out 2).trans rfl, (blk_cell BK1462.out 3).trans rfl, (blk_cell BK1462.out 4).trans rfl, (blk_cell BK1458.out 0).trans rfl, (blk_cell BK1458.out 1).trans rfl, (blk_cell BK1458.out 2).trans rfl, ((HB.out.cell (World.block_lt_of_cell? w _ hw1464_0)).trans hw1464_0), ((HB.out.cell (World.block_lt_of_cell? w _ hw1464_1)).trans hw1464_1), ((HB.out.cell (World.block_lt_of_cell? w _ hw1464_2)).trans hw1464_2), ((HB.out.cell (World.block_lt_of_cell? w _ hw1464_3)).trans hw1464_3), ((HB.out.cell (World.block_lt_of_cell? w _ hw1464_4)).trans hw1464_4)⟩ (fun hHeld => ?_); refine with_tabW impl_IsValidJoiner.tab7 impl_IsValidJoiner.bits7 (fun HT_ HW_ => ?_)
            generalize w30.drew = w31 at BK1458 BK1462 HB HR1464_1 HR1464_2 HR1464_3 hx1464_0 hx1464_1 hx1464_2 hx1464_3 hx1464_4 hHeld ⊢
            refine take_ (i := 0) (N := some 30) (v := ?_) (a' := ?_) #[true, false, false, false, false, false, false, false, false, false, false, false, false] rfl rfl (take_ofW HT_.out HW_.out (by kernel_rfl)) (fun _ _ _ h => h) (Or.inl ⟨rfl, ?_⟩) hHeld ?_ ?_
            rotate_left
            ·rintro w' ⟨s0, s1, s2, s3, s4, s5, s6, s7, s8, s9, s10, s11, s12⟩
             go_simp
             with_reducible rfl
            rotate_left
            ·simp only [Act.put, List.setIfInBounds_toArray, List.set_cons_zero, List.set_cons_succ, i64_w, i32_w]
             rfl
            refine one_ (i := 1) (N := some 31) #[true, true, false, false, false, false, false, false, false, false, false, false, false] rfl rfl (one_of HT_.out (by kernel_rfl)) (by decide) (fun K hK => ?_)
            refine goes_ Try.func39 (by kernel_rfl) rfl #[.agg #[.int .i64 ((rd_T40 l0_0 x26_2).f0), .slice A1461_1 ((rd_T40 l0_0 x26_2).f1).length c1461_1, .slice A1461_2 ((rd_T40 l0_0 x26_2).f2).length c1461_2, .slice A1461_3 ((rd_T40 l0_0 x26_2).f3).length c1461_3, .int .i64 ((rd_T40 l0_0 x26_2).f4)]] rfl rfl rfl (by (try simp only [List.map_toArray, List.map_cons, List.map_nil]); rfl) ?_
            with_reducible refine (impl_IsValidTask.calls k2 ((rd_T40 l0_0 x26_2).f0) _ _ ((rd_T40 l0_0 x26_2).f1) _ _ ((rd_T40 l0_0 x26_2).f2) _ _ ((rd_T40 l0_0 x26_2).f3) ((rd_T40 l0_0 x26_2).f4) true _ ?side1 ?side2 ?side3 ?side4 ?side5 ?side6 A16.out).mono ?_
            (case side1 => repeat (exact (Kd.C_below HR1461_1.out HB.out)))
            (case side2 => exact HC1461_1.out)
            (case side3 => repeat (exact (Kd.C_below HR1461_2.out HB.out)))
            (case side4 => exact HC1461_2.out)
            (case side5 => repeat (exact (Kd.C_below HR1461_3.out HB.out)))
            (case side6 => exact HC1461_3.out)
            rintro e w32 ⟨rfl, hb⟩
            refine ⟨_, rfl, ?_⟩
            have n0_ := Aside0.mk (blk_below (g := gb1458) (o := .cells #[.slice (some ad1461) l0_0.length c0_0, .int .i64 a0_1, .int .i64 a0_2] 68 (0, 0)) BK1458.out hb)
            have n1_ := Aside0.mk (blk_below (g := gb1462) (o := .cells #[.int .i64 ((rd_T40 l0_0 x26_2).f0), .slice A1461_1 ((rd_T40 l0_0 x26_2).f1).length c1461_1, .slice A1461_2 ((rd_T40 l0_0 x26_2).f2).length c1461_2, .slice A1461_3 ((rd_T40 l0_0 x26_2).f3).length c1461_3, .int .i64 ((rd_T40 l0_0 x26_2).f4)] 40 (0, 0)) BK1462.out hb)
            have n2_ := Aside0.mk (below_step HB.out hb)
            clear BK1458
            clear BK1462
            clear HB
            have BK1458 := n0_
            have BK1462 := n1_
            have HB := n2_
            clear n0_ n1_ n2_
            (try clear hb)
            (try clear hb2)
            (try clear hk)
            (try clear hi)
            refine hK.out _ _ ⟨(blk_cell BK1462.out 0).trans rfl, (blk_cell BK1462.out 1).trans rfl, (blk_cell BK1462.out 2).trans rfl, (blk_cell BK1462.out 3).trans rfl, (blk_cell BK1462.out 4).trans rfl, (blk_cell BK1458.out 0).trans rfl, (blk_cell BK1458.out 1).trans rfl, (blk_cell BK1458.out 2).trans rfl, ((HB.out.cell (World.block_lt_of_cell? w _ hw1464_0)).trans hw1464_0), ((HB.out.cell (World.block_lt_of_cell? w _ hw1464_1)).trans hw1464_1), ((HB.out.cell (World.block_lt_of_cell? w _ hw1464_2)).trans hw1464_2), ((HB.out.cell (World.block_lt_of_cell? w _ hw1464_3)).trans hw1464_3), ((HB.out.cell (World.block_lt_of_cell? w _ hw1464_4)).trans hw1464_4)⟩ (fun hHeld => ?_)
            clear hK K
            refine norm_ (a' := ?_) ?_ ?_
            rotate_left
            ·show Act.put _ (some 31) _ = _
             simp only [Act.put, List.setIfInBounds_toArray, List.set_cons_zero, List.set_cons_succ, i64_w, i32_w]
             rfl
            refine pure_ (i := 2) (N := some 32) (v := ?_) (a' := ?_) #[true, true, true, false, false, false, false, false, false, false, false, false, false] rfl rfl (any_of HT_.out (by kernel_rfl)) (fun _ _ _ h => h) (Or.inl ⟨rfl, ?_⟩) ?_ ?_
            rotate_left
            ·intro w'
             go_simp
             with_reducible rfl
            rotate_left
            ·simp only [Act.put, List.setIfInBounds_toArray, List.set_cons_zero, List.set_cons_succ, i64_w, i32_w]
             rfl
            refine pure_ (i := 3) (N := some 33) (v := ?_) (a' := ?_) #[true, true, true, true, false, false, false, false, false, false, false, false, false] rfl rfl (any_of HT_.out (by kernel_rfl)) (fun _ _ _ h => h) (Or.inl ⟨rfl, ?_⟩) ?_ ?_
            rotate_left
            ·intro w'
             go_simp
             with_reducible rfl
            rotate_left
            ·simp only [Act.put, List.setIfInBounds_toArray, List.set_cons_zero, List.set_cons_succ, i64_w, i32_w]
             rfl
            refine pure_ (i := 4) (N := some 34) (v := ?_) (a' := ?_) #[true, true, true, true, true, false, false, false, false, false, false, false, false] rfl rfl (any_of HT_.out (by kernel_rfl)) (fun _ _ _ h => h) (Or.inl ⟨rfl, ?_⟩) ?_ ?_
            rotate_left
            ·intro w'
             go_simp
             with_reducible rfl
            rotate_left
            ·simp only [Act.put, List.setIfInBounds_toArray, List.set_cons_zero, List.set_cons_succ, i64_w, i32_w]
             rfl
            refine pure_ (i := 6) (N := some 36) (v := ?_) (a' := ?_) #[true, true, true, true, true, false, true, false, false, false, false, false, false] rfl rfl (any_of HT_.out (by kernel_rfl)) (fun _ _ _ h => h) (Or.inl ⟨rfl, ?_⟩) ?_ ?_
            rotate_left
            ·intro w'
             go_simp
             with_reducible rfl
            rotate_left
            ·simp only [Act.put, List.setIfInBounds_toArray, List.set_cons_zero, List.set_cons_succ, i64_w, i32_w]
             rfl
            refine take_ (i := 5) (N := some 35) (v := ?_) (a' := ?_) #[true, true, true, true, true, true, true, false, false, false, false, false, false] rfl rfl (take_ofW HT_.out HW_.out (by kernel_rfl)) (fun _ _ _ h => h) (Or.inl ⟨rfl, ?_⟩) hHeld ?_ ?_
            rotate_left
            ·rintro w' ⟨s0, s1, s2, s3, s4, s5, s6, s7, s8, s9, s10, s11, s12⟩
             go_simp
             with_reducible rfl
            rotate_left
            ·simp only [Act.put, List.setIfInBounds_toArray, List.set_cons_zero, List.set_cons_succ, i64_w, i32_w]
             rfl
            refine take_ (i := 7) (N := some 37) (v := ?_) (a' := ?_) #[true, true, true, true, true, true, true, true, false, false, false, false, false] rfl rfl (take_ofW HT_.out HW_.out (by kernel_rfl)) (fun _ _ _ h => h) (Or.inl ⟨rfl, ?_⟩) hHeld ?_ ?_
            rotate_left
            ·rintro w' ⟨s0, s1, s2, s3, s4, s5, s6, s7, s8, s9, s10, s11, s12⟩
             go_simp
             with_reducible rfl
            rotate_left
            ·simp only [Act.put, List.setIfInBounds_toArray, List.set_cons_zero, List.set_cons_succ, i64_w, i32_w]
             rfl
            refine pure_ (i := 8) (N := some 38) (v := ?_) (a' := ?_) #[true, true, true, true, true, true, true, true, true, false, false, false, false] rfl rfl (any_of HT_.out (by kernel_rfl)) (fun _ _ _ h => h) (Or.inl ⟨rfl, ?_⟩) ?_ ?_
            rotate_left
            ·intro w'
             go_simp
             with_reducible rfl
            rotate_left
            ·simp only [Act.put, List.setIfInBounds_toArray, List.set_cons_zero, List.set_cons_succ, i64_w, i32_w]
             rfl
            refine pure_ (i := 9) (N := some 39) (v := ?_) (a' := ?_) #[true, true, true, true, true, true, true, true, true, true, false, false, false] rfl rfl (any_of HT_.out (by kernel_rfl)) (fun _ _ _ h => h) (Or.inl ⟨rfl, ?_⟩) ?_ ?_
            rotate_left
            ·intro w'
             go_simp
             with_reducible rfl
            rotate_left
            ·simp only [Act.put, List.setIfInBounds_toArray, List.set_cons_zero, List.set_cons_succ, i64_w, i32_w]
             rfl
            refine take_ (i := 10) (N := some 40) (v := ?_) (a' := ?_) #[true, true, true, true, true, true, true, true, true, true, true, false, false] rfl rfl (take_ofW HT_.out HW_.out (by kernel_rfl)) (fun _ _ _ h => h) (Or.inl ⟨rfl, ?_⟩) hHeld ?_ ?_
            rotate_left
            ·rintro w' ⟨s0, s1, s2, s3, s4, s5, s6, s7, s8, s9, s10, s11, s12⟩
             go_simp
             with_reducible rfl
            rotate_left
            ·simp only [Act.put, List.setIfInBounds_toArray, List.set_cons_zero, List.set_cons_succ, i64_w, i32_w]
             rfl
            refine pure_ (i := 11) (N := some 41) (v := ?_) (a' := ?_) #[true, true, true, true, true, true, true, true, true, true, true, true, false] rfl rfl (any_of HT_.out (by kernel_rfl)) (fun _ _ _ h => h) (Or.inl ⟨rfl, ?_⟩) ?_ ?_
            rotate_left
            ·intro w'
             go_simp
             with_reducible rfl
            rotate_left
            ·simp only [Act.put, List.setIfInBounds_toArray, List.set_cons_zero, List.set_cons_succ, i64_w, i32_w]
             rfl
            refine pure_ (i := 12) (N := some 42) (v := ?_) (a' := ?_) #[true, true, true, true, true, true, true, true, true, true, true, true, true] rfl rfl (any_of HT_.out (by kernel_rfl)) (fun _ _ _ h => h) (Or.inl ⟨rfl, ?_⟩) ?_ ?_
            rotate_left
            ·intro w'
             go_simp
             with_reducible rfl
            rotate_left
            ·simp only [Act.put, List.setIfInBounds_toArray, List.set_cons_zero, List.set_cons_succ, i64_w, i32_w]
             rfl
            refine done_ (done_of HT_.out (by kernel_rfl)) ?_
            try go_wp2
            go_ret
            exact ⟨rfl, HB.out⟩
          ·rw [if_neg c18] at H
           exact absurd H (by simp)
         ·replace c17 := Bool.eq_false_iff.mpr c17
          subst c17
          rw [if_neg (show ¬ (false = true) by decide)] at H
          obtain rfl := Option.some.inj H
          have p1461 : 0 ≤ (x26_2 : Int) := of_decide_eq_true (by (with_reducible assumption))
          have q1461 : x26_2 < (l0_0.length : Int) := of_decide_eq_true (by (with_reducible assumption))
          obtain ⟨ad1461, A1461_1, c1461_1, A1461_2, c1461_2, A1461_3, c1461_3, e1461, hx1461_0, hx1461_1, hx1461_2, hx1461_3, hx1461_4, hl1461_1, hi1461_1, hl1461_2, hi1461_2, hl1461_3, hi1461_3⟩ := at_T40 HR0_0.out x26_2 p1461 q1461
          cases e1461
          replace hx1461_0 := (HB.out.cell (World.block_lt_of_cell? w _ hx1461_0)).trans hx1461_0
          replace hx1461_1 := (HB.out.cell (World.block_lt_of_cell? w _ hx1461_1)).trans hx1461_1
          replace hx1461_2 := (HB.out.cell (World.block_lt_of_cell? w _ hx1461_2)).trans hx1461_2
          replace hx1461_3 := (HB.out.cell (World.block_lt_of_cell? w _ hx1461_3)).trans hx1461_3
          replace hx1461_4 := (HB.out.cell (World.block_lt_of_cell? w _ hx1461_4)).trans hx1461_4
          have HR1461_1 := Aside0.mk hi1461_1
          have HC1461_1 := Aside0.mk hl1461_1
          clear hi1461_1 hl1461_1
          have HR1461_2 := Aside0.mk hi1461_2
          have HC1461_2 := Aside0.mk hl1461_2
          clear hi1461_2 hl1461_2
          have HR1461_3 := Aside0.mk hi1461_3
          have HC1461_3 := Aside0.mk hl1461_3
          clear hi1461_3 hl1461_3
          replace p1461 := eq_true p1461
          replace q1461 := eq_true q1461
          try go_wp2_with (((with_reducible refine gate_dst (N := 6) rfl ?_); refine box_event ?hg (N := 6) ?hd (cs := #[.int .i64 0, .slice none 0 0, .slice none 0 0, .slice none 0 0, .int .i64 0]) (t := 40) ?hr ?_; (case hd => rfl); (case hg => rfl); (case hr => (go_simp; done)); intro gb1462 hg w33 hbox hb; have n0_ := Aside0.mk (blk_below (g := gb1458) (o := .cells #[.slice (some ad1461) l0_0.length c0_0, .int .i64 a0_1, .int .i64 a0_2] 68 (0, 0)) BK1458.out hb); have n1_ := Aside0.mk (below_step HB.out hb); have n2_ := Aside0.mk (hbox); have n3_ := Aside0.mk ((by rw [hg]; exact (below_size HB.out) : w.heap.size ≤ gb1462)); have n4_ := Aside0.mk ((by rw [hg]; exact (below_size HB.out) : w.heap.size ≤ gb1462)); have n5_ := Aside0.mk ((by rw [hg]; exact Nat.ne_of_lt (blk_lt (g := gb1458) (o := .cells #[.slice (some ad1461) l0_0.length c0_0, .int .i64 a0_1, .int .i64 a0_2] 68 (0, 0)) BK1458.out) : gb1458 ≠ gb1462)); have n6_ := Aside0.mk ((by rw [hg]; exact Nat.ne_of_gt (blk_lt (g := gb1458) (o := .cells #[.slice (some ad1461) l0_0.length c0_0, .int .i64 a0_1, .int .i64 a0_2] 68 (0, 0)) BK1458.out) : gb1462 ≠ gb1458)); clear BK1458; clear HB; have BK1458 := n0_; have HB := n1_; have BK1462 := n2_; have GW1462 := n3_; have GE1462 := n4_; have NB1458_1462 := n5_; have NB1462_1458 := n6_; clear n0_ n1_ n2_ n3_ n4_ n5_ n6_; clear hb hbox hg; have hnb34 := NB1462_1458.out; have hnc34 := NB1458_1462.out; have hcz35_0 : w33.cell? ⟨gb1462, 0, none⟩ = some (.int .i64 0) := (blk_cell BK1462.out 0).trans rfl; have hcz35_1 : w33.cell? ⟨gb1462, 1, none⟩ = some (.slice none 0 0) := (blk_cell BK1462.out 1).trans rfl; have hcz35_2 : w33.cell? ⟨gb1462, 2, none⟩ = some (.slice none 0 0) := (blk_cell BK1462.out 2).trans rfl; have hcz35_3 : w33.cell? ⟨gb1462, 3, none⟩ = some (.slice none 0 0) := (blk_cell BK1462.out 3).trans rfl; have hcz35_4 : w33.cell? ⟨gb1462, 4, none⟩ = some (.int .i64 0) := (blk_cell BK1462.out 4).trans rfl; have hfz35_0 := blk_frozen BK1462.out 0; have hfz35_1 := blk_frozen BK1462.out 1; have hfz35_2 := blk_frozen BK1462.out 2; have hfz35_3 := blk_frozen BK1462.out 3; have hfz35_4 := blk_frozen BK1462.out 4))
          have n0_ : Aside0 ((((((w33.setCell ⟨gb1462, 0, none⟩ (.int .i64 ((rd_T40 l0_0 x26_2).f0))).setCell ⟨gb1462, 1, none⟩ (.slice A1461_1 ((rd_T40 l0_0 x26_2).f1).length c1461_1)).setCell ⟨gb1462, 2, none⟩ (.slice A1461_2 ((rd_T40 l0_0 x26_2).f2).length c1461_2)).setCell ⟨gb1462, 3, none⟩ (.slice A1461_3 ((rd_T40 l0_0 x26_2).f3).length c1461_3)).setCell ⟨gb1462, 4, none⟩ (.int .i64 ((rd_T40 l0_0 x26_2).f4))).heap[gb1458]? = some (.cells #[.slice (some ad1461) l0_0.length c0_0, .int .i64 a0_1, .int .i64 a0_2] 68 (0, 0))) := ⟨by refine blk_far ?_ NB1458_1462.out _; refine blk_far ?_ NB1458_1462.out _; refine blk_far ?_ NB1458_1462.out _; refine blk_far ?_ NB1458_1462.out _; refine blk_far ?_ NB1458_1462.out _; exact BK1458.out⟩
          have n1_ : Aside0 ((((((w33.setCell ⟨gb1462, 0, none⟩ (.int .i64 ((rd_T40 l0_0 x26_2).f0))).setCell ⟨gb1462, 1, none⟩ (.slice A1461_1 ((rd_T40 l0_0 x26_2).f1).length c1461_1)).setCell ⟨gb1462, 2, none⟩ (.slice A1461_2 ((rd_T40 l0_0 x26_2).f2).length c1461_2)).setCell ⟨gb1462, 3, none⟩ (.slice A1461_3 ((rd_T40 l0_0 x26_2).f3).length c1461_3)).setCell ⟨gb1462, 4, none⟩ (.int .i64 ((rd_T40 l0_0 x26_2).f4))).heap[gb1462]? = some (.cells #[.int .i64 ((rd_T40 l0_0 x26_2).f0), .slice A1461_1 ((rd_T40 l0_0 x26_2).f1).length c1461_1, .slice A1461_2 ((rd_T40 l0_0 x26_2).f2).length c1461_2, .slice A1461_3 ((rd_T40 l0_0 x26_2).f3).length c1461_3, .int .i64 ((rd_T40 l0_0 x26_2).f4)] 40 (0, 0))) := ⟨by refine blk_put (cs := #[.int .i64 ((rd_T40 l0_0 x26_2).f0), .slice A1461_1 ((rd_T40 l0_0 x26_2).f1).length c1461_1, .slice A1461_2 ((rd_T40 l0_0 x26_2).f2).length c1461_2, .slice A1461_3 ((rd_T40 l0_0 x26_2).f3).length c1461_3, .int .i64 0]) ?_ 4 _ rfl; refine blk_put (cs := #[.int .i64 ((rd_T40 l0_0 x26_2).f0), .slice A1461_1 ((rd_T40 l0_0 x26_2).f1).length c1461_1, .slice A1461_2 ((rd_T40 l0_0 x26_2).f2).length c1461_2, .slice none 0 0, .int .i64 0]) ?_ 3 _ rfl; refine blk_put (cs := #[.int .i64 ((rd_T40 l0_0 x26_2).f0), .slice A1461_1 ((rd_T40 l0_0 x26_2).f1).length c1461_1, .slice none 0 0, .slice none 0 0, .int .i64 0]) ?_ 2 _ rfl; refine blk_put (cs := #[.int .i64 ((rd_T40 l0_0 x26_2).f0), .slice none 0 0, .slice none 0 0, .slice none 0 0, .int .i64 0]) ?_ 1 _ rfl; refine blk_put (cs := #[.int .i64 0, .slice none 0 0, .slice none 0 0, .slice none 0 0, .int .i64 0]) ?_ 0 _ rfl; exact BK1462.out⟩
          have n2_ : Aside0 (Below w.heap.size w (((((w33.setCell ⟨gb1462, 0, none⟩ (.int .i64 ((rd_T40 l0_0 x26_2).f0))).setCell ⟨gb1462, 1, none⟩ (.slice A1461_1 ((rd_T40 l0_0 x26_2).f1).length c1461_1)).setCell ⟨gb1462, 2, none⟩ (.slice A1461_2 ((rd_T40 l0_0 x26_2).f2).length c1461_2)).setCell ⟨gb1462, 3, none⟩ (.slice A1461_3 ((rd_T40 l0_0 x26_2).f3).length c1461_3)).setCell ⟨gb1462, 4, none⟩ (.int .i64 ((rd_T40 l0_0 x26_2).f4)))) := ⟨by repeat ((with_reducible first | exact HB.out | refine below_set ?_ GE1462.out))⟩
          (try clear BK1458)
          (try clear BK1462)
          (try clear HB)
          generalize (((((w33.setCell ⟨gb1462, 0, none⟩ (.int .i64 ((rd_T40 l0_0 x26_2).f0))).setCell ⟨gb1462, 1, none⟩ (.slice A1461_1 ((rd_T40 l0_0 x26_2).f1).length c1461_1)).setCell ⟨gb1462, 2, none⟩ (.slice A1461_2 ((rd_T40 l0_0 x26_2).f2).length c1461_2)).setCell ⟨gb1462, 3, none⟩ (.slice A1461_3 ((rd_T40 l0_0 x26_2).f3).length c1461_3)).setCell ⟨gb1462, 4, none⟩ (.int .i64 ((rd_T40 l0_0 x26_2).f4))) = w36 at n0_ n1_ n2_ ⊢
          have BK1458 := n0_
          have BK1462 := n1_
          have HB := n2_
          clear n0_ n1_ n2_
          have n0_ := Aside0.mk (blk_drew BK1458.out)
          have n1_ := Aside0.mk (blk_drew BK1462.out)
          have n2_ := Aside0.mk (below_drew1 HB.out)
          clear BK1458
          clear BK1462
          clear HB
          have BK1458 := n0_
          have BK1462 := n1_
          have HB := n2_
          clear n0_ n1_ n2_
          refine start_ (n := 13) (S := fun w' => w'.cell? ⟨gb1462, 0, none⟩ = some (.int .i64 ((rd_T40 l0_0 x26_2).f0)) ∧ w'.cell? ⟨gb1462, 1, none⟩ = some (.slice A1461_1 ((rd_T40 l0_0 x26_2).f1).length c1461_1) ∧ w'.cell? ⟨gb1462, 2, none⟩ = some (.slice A1461_2 ((rd_T40 l0_0 x26_2).f2).length c1461_2) ∧ w'.cell? ⟨gb1462, 3, none⟩ = some (.slice A1461_3 ((rd_T40 l0_0 x26_2).f3).length c1461_3) ∧ w'.cell? ⟨gb1462, 4, none⟩ = some (.int .i64 ((rd_T40 l0_0 x26_2).f4))) (ds := []) #[false, false, false, false, false, false, false, false, false, false, false, false, false] (by kernel_rfl) rfl rfl ⟨(blk_cell BK1462.out 0).trans rfl, (blk_cell BK1462.out 1).trans rfl, (blk_cell BK1462.out 2).trans rfl, (blk_cell BK1462.out 3).trans rfl, (blk_cell BK1462.out 4).trans rfl⟩ (fun hHeld => ?_); refine with_tabW impl_IsValidJoiner.tab7 impl_IsValidJoiner.bits7 (fun HT_ HW_ => ?_)
          generalize w36.drew = w37 at BK1458 BK1462 HB hHeld ⊢
          refine take_ (i := 0) (N := some 30) (v := ?_) (a' := ?_) #[true, false, false, false, false, false, false, false, false, false, false, false, false] rfl rfl (take_ofW HT_.out HW_.out (by kernel_rfl)) (fun _ _ _ h => h) (Or.inl ⟨rfl, ?_⟩) hHeld ?_ ?_
          rotate_left
          ·rintro w' ⟨s0, s1, s2, s3, s4⟩
           go_simp
           with_reducible rfl
          rotate_left
          ·simp only [Act.put, List.setIfInBounds_toArray, List.set_cons_zero, List.set_cons_succ, i64_w, i32_w]
           rfl
          refine one_ (i := 1) (N := some 31) #[true, true, false, false, false, false, false, false, false, false, false, false, false] rfl rfl (one_of HT_.out (by kernel_rfl)) (by decide) (fun K hK => ?_)
          refine goes_ Try.func39 (by kernel_rfl) rfl #[.agg #[.int .i64 ((rd_T40 l0_0 x26_2).f0), .slice A1461_1 ((rd_T40 l0_0 x26_2).f1).length c1461_1, .slice A1461_2 ((rd_T40 l0_0 x26_2).f2).length c1461_2, .slice A1461_3 ((rd_T40 l0_0 x26_2).f3).length c1461_3, .int .i64 ((rd_T40 l0_0 x26_2).f4)]] rfl rfl rfl (by (try simp only [List.map_toArray, List.map_cons, List.map_nil]); rfl) ?_
          with_reducible refine (impl_IsValidTask.calls k2 ((rd_T40 l0_0 x26_2).f0) _ _ ((rd_T40 l0_0 x26_2).f1) _ _ ((rd_T40 l0_0 x26_2).f2) _ _ ((rd_T40 l0_0 x26_2).f3) ((rd_T40 l0_0 x26_2).f4) false _ ?side1 ?side2 ?side3 ?side4 ?side5 ?side6 A16.out).mono ?_
          (case side1 => repeat (exact (Kd.C_below HR1461_1.out HB.out)))
          (case side2 => exact HC1461_1.out)
          (case side3 => repeat (exact (Kd.C_below HR1461_2.out HB.out)))
          (case side4 => exact HC1461_2.out)
          (case side5 => repeat (exact (Kd.C_below HR1461_3.out HB.out)))
          (case side6 => exact HC1461_3.out)
          rintro e w38 ⟨rfl, hb⟩
          refine ⟨_, rfl, ?_⟩
          have n0_ := Aside0.mk (blk_below (g := gb1458) (o := .cells #[.slice (some ad1461) l0_0.length c0_0, .int .i64 a0_1, .int .i64 a0_2] 68 (0, 0)) BK1458.out hb)
          have n1_ := Aside0.mk (blk_below (g := gb1462) (o := .cells #[.int .i64 ((rd_T40 l0_0 x26_2).f0), .slice A1461_1 ((rd_T40 l0_0 x26_2).f1).length c1461_1, .slice A1461_2 ((rd_T40 l0_0 x26_2).f2).length c1461_2, .slice A1461_3 ((rd_T40 l0_0 x26_2).f3).length c1461_3, .int .i64 ((rd_T40 l0_0 x26_2).f4)] 40 (0, 0)) BK1462.out hb)
          have n2_ := Aside0.mk (below_step HB.out hb)
          clear BK1458
          clear BK1462
          clear HB
          have BK1458 := n0_
          have BK1462 := n1_
          have HB := n2_
          clear n0_ n1_ n2_
          (try clear hb)
          (try clear hb2)
          (try clear hk)
          (try clear hi)
          refine hK.out _ _ ⟨(blk_cell BK1462.out 0).trans rfl, (blk_cell BK1462.out 1).trans rfl, (blk_cell BK1462.out 2).trans rfl, (blk_cell BK1462.out 3).trans rfl, (blk_cell BK1462.out 4).trans rfl⟩ (fun hHeld => ?_)
          clear hK K
          refine norm_ (a' := ?_) ?_ ?_
          rotate_left
          ·show Act.put _ (some 31) _ = _
           simp only [Act.put, List.setIfInBounds_toArray, List.set_cons_zero, List.set_cons_succ, i64_w, i32_w]
           rfl
          refine pure_ (i := 2) (N := some 32) (v := ?_) (a' := ?_) #[true, true, true, false, false, false, false, false, false, false, false, false, false] rfl rfl (any_of HT_.out (by kernel_rfl)) (fun _ _ _ h => h) (Or.inl ⟨rfl, ?_⟩) ?_ ?_
          rotate_left
          ·intro w'
           go_simp
           with_reducible rfl
          rotate_left
          ·simp only [Act.put, List.setIfInBounds_toArray, List.set_cons_zero, List.set_cons_succ, i64_w, i32_w]
           rfl
          refine pure_ (i := 3) (N := some 33) (v := ?_) (a' := ?_) #[true, true, true, true, false, false, false, false, false, false, false, false, false] rfl rfl (any_of HT_.out (by kernel_rfl)) (fun _ _ _ h => h) (Or.inl ⟨rfl, ?_⟩) ?_ ?_
          rotate_left
          ·intro w'
           go_simp
           with_reducible rfl
          rotate_left
          ·simp only [Act.put, List.setIfInBounds_toArray, List.set_cons_zero, List.set_cons_succ, i64_w, i32_w]
           rfl
          refine pure_ (i := 4) (N := some 34) (v := undef) (a' := ?_) #[true, true, true, true, true, false, false, false, false, false, false, false, false] rfl rfl (any_of HT_.out (by kernel_rfl)) (fun _ _ _ h => h) (Or.inr ⟨rfl, rfl⟩) ?_ ?_
          rotate_left
          ·simp only [Act.put, List.setIfInBounds_toArray, List.set_cons_zero, List.set_cons_succ, i64_w, i32_w]
           rfl
          refine pure_ (i := 5) (N := some 35) (v := undef) (a' := ?_) #[true, true, true, true, true, true, false, false, false, false, false, false, false] rfl rfl (any_of HT_.out (by kernel_rfl)) (fun _ _ _ h => h) (Or.inr ⟨rfl, rfl⟩) ?_ ?_
          rotate_left
          ·simp only [Act.put, List.setIfInBounds_toArray, List.set_cons_zero, List.set_cons_succ, i64_w, i32_w]
           rfl
          refine pure_ (i := 6) (N := some 36) (v := undef) (a' := ?_) #[true, true, true, true, true, true, true, false, false, false, false, false, false] rfl rfl (any_of HT_.out (by kernel_rfl)) (fun _ _ _ h => h) (Or.inr ⟨rfl, rfl⟩) ?_ ?_
          rotate_left
          ·simp only [Act.put, List.setIfInBounds_toArray, List.set_cons_zero, List.set_cons_succ, i64_w, i32_w]
           rfl
          refine pure_ (i := 7) (N := some 37) (v := undef) (a' := ?_) #[true, true, true, true, true, true, true, true, false, false, false, false, false] rfl rfl (any_of HT_.out (by kernel_rfl)) (fun _ _ _ h => h) (Or.inr ⟨rfl, rfl⟩) ?_ ?_
          rotate_left
          ·simp only [Act.put, List.setIfInBounds_toArray, List.set_cons_zero, List.set_cons_succ, i64_w, i32_w]
           rfl
          refine pure_ (i := 8) (N := some 38) (v := undef) (a' := ?_) #[true, true, true, true, true, true, true, true, true, false, false, false, false] rfl rfl (any_of HT_.out (by kernel_rfl)) (fun _ _ _ h => h) (Or.inr ⟨rfl, rfl⟩) ?_ ?_
          rotate_left
          ·simp only [Act.put, List.setIfInBounds_toArray, List.set_cons_zero, List.set_cons_succ, i64_w, i32_w]
           rfl
          refine pure_ (i := 9) (N := some 39) (v := undef) (a' := ?_) #[true, true, true, true, true, true, true, true, true, true, false, false, false] rfl rfl (any_of HT_.out (by kernel_rfl)) (fun _ _ _ h => h) (Or.inr ⟨rfl, rfl⟩) ?_ ?_
          rotate_left
          ·simp only [Act.put, List.setIfInBounds_toArray, List.set_cons_zero, List.set_cons_succ, i64_w, i32_w]
           rfl
          refine pure_ (i := 10) (N := some 40) (v := undef) (a' := ?_) #[true, true, true, true, true, true, true, true, true, true, true, false, false] rfl rfl (any_of HT_.out (by kernel_rfl)) (fun _ _ _ h => h) (Or.inr ⟨rfl, rfl⟩) ?_ ?_
          rotate_left
          ·simp only [Act.put, List.setIfInBounds_toArray, List.set_cons_zero, List.set_cons_succ, i64_w, i32_w]
           rfl
          refine pure_ (i := 11) (N := some 41) (v := undef) (a' := ?_) #[true, true, true, true, true, true, true, true, true, true, true, true, false] rfl rfl (any_of HT_.out (by kernel_rfl)) (fun _ _ _ h => h) (Or.inr ⟨rfl, rfl⟩) ?_ ?_
          rotate_left
          ·simp only [Act.put, List.setIfInBounds_toArray, List.set_cons_zero, List.set_cons_succ, i64_w, i32_w]
           rfl
          refine pure_ (i := 12) (N := some 42) (v := ?_) (a' := ?_) #[true, true, true, true, true, true, true, true, true, true, true, true, true] rfl rfl (any_of HT_.out (by kernel_rfl)) (fun _ _ _ h => h) (Or.inl ⟨rfl, ?_⟩) ?_ ?_
          rotate_left
          ·intro w'
           go_simp
           with_reducible rfl
          rotate_left
          ·simp only [Act.put, List.setIfInBounds_toArray, List.set_cons_zero, List.set_cons_succ, i64_w, i32_w]
           rfl
          refine done_ (done_of HT_.out (by kernel_rfl)) ?_
          try go_wp2
          go_ret
          exact ⟨rfl, HB.out⟩
        ·rw [if_neg c15] at H
         exact absurd H (by simp)
       ·rw [if_neg c14] at H
        exact absurd H (by simp)
      ·rw [if_neg c13] at H
       have c13b0 : decide (x26_2 < (l0_0.length : Int)) = false := decide_eq_false c13
       clear c13
       by_cases c39 : x3_2 ≤ 24
       ·rw [if_pos c39] at H
        have c39b0 : decide (x3_2 ≤ 24) = true := decide_eq_true c39
        clear c39
        obtain rfl := Option.some.inj H
        go_wp2
        go_ret
        exact ⟨rfl, HB.out⟩
       ·rw [if_neg c39] at H
        have c39b0 : decide (x3_2 ≤ 24) = false := decide_eq_false c39
        clear c39
        obtain rfl := Option.some.inj H
        go_wp2
        go_ret
        exact ⟨rfl, HB.out⟩

end Go.Proofs.Ytobndcjmjhehjaa.P
