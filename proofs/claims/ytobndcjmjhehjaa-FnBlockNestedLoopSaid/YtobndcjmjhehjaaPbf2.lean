/- For every code the law FnBlockNestedLoop of the given program returns true and leaves its argument as it was; no condition. -/
import Derived.Test.YtobndcjmjhehjaaPbf1
namespace Go.Proofs.Ytobndcjmjhehjaa.P
open Go.RowKit Go.Proofs.YtobndcjmjhehjaaW.PrintWords Go.Proofs.YtobndcjmjhehjaaW.PrintLast Go.Proofs.YtobndcjmjhehjaaW.PrintMore
attribute [local go_sem] max2_int min2_int max_two min_two max_three min_three max_four min_four   -- for this text's walks alone
set_option linter.unusedVariables false
set_option linter.unusedSimpArgs false
set_option maxHeartbeats 8000000
set_option maxRecDepth 100000
def spec_IsValidJoinKind.f (a0 : Int) : Option (Bool) := (spec_l1In.f a0 1 4).bind fun t504 => (some t504)
theorem spec_IsValidJoinKind.calls (a0 : Int) (r : Bool) (w : World) (h : spec_IsValidJoinKind.f a0 = some r) :
  Calls Try.prog 47 #[.int .i64 a0] w fun e w' => e = .returned (.bool r) ∧ Drawn0 w w' := by
 have H : ((spec_l1In.f a0 1 4).bind fun t504 => (some t504)) = some r := h
 clear h
 replace H := Option.bind_eq_some_iff.mp H
 obtain ⟨t504, A20, H⟩ := H
 have A2 := am A20
 clear A20
 obtain rfl := Option.some.inj H
 go_enter Try.func47, Try.ntmps47
 go_wp2_with (((with_reducible refine gate_callee (f := 119) rfl ?_); refine goesL_ (some 4) rfl rfl Try.func119 (by kernel_rfl) rfl #[.int .i64 a0, .int .i64 1, .int .i64 4] rfl (by (try simp only [List.map_toArray, List.map_cons, List.map_nil]); rfl) ?_; (with_reducible refine (spec_l1In.calls a0 1 4 t504 _ A2.out).mono ?_); rintro e w' ⟨rfl, ⟨nd, rfl⟩⟩; refine ⟨_, rfl, ?_⟩))
 go_ret
 exact ⟨rfl, by repeat (first | exact Drawn0.refl _ | apply Drawn0.step)⟩

def spec_NewTask.f (k : Nat) (a0 : Int) (l1 : List (S60)) (l2 : List (S60)) : Option (Int × (List (S60)) × (List (S60)) × List Bool × Int × Bool) := (spec_IsValidJoinKind.f a0).bind fun t506 => (if t506 = true then ((spec_AreValidRows.f k l1).bind fun t507 => (if t507 = true then ((spec_AreValidRows.f k l2).bind fun t508 => (if t508 = true then ((some (([] : List (S60)) : List (S60))).bind fun y509 => (if y509.length + l1.length < 5864062014805 then ((some (([] : List (S60)) : List (S60))).bind fun y515 => (if y515.length + l2.length < 5864062014805 then (if 0 ≤ (l1.length : Int) then (if ((l1.length : Int) : Int).toNat ≤ 281474976710656 then (some (a0, (y509 ++ l1), (y515 ++ l2), (List.replicate ((l1.length : Int) : Int).toNat false), 0, true)) else (none)) else (none)) else (none))) else (none))) else (some (0, ([] : List (S60)), ([] : List (S60)), ([] : List Bool), 0, false)))) else (some (0, ([] : List (S60)), ([] : List (S60)), ([] : List Bool), 0, false)))) else (some (0, ([] : List (S60)), ([] : List (S60)), ([] : List Bool), 0, false)))
def spec_NewTask.T3 : Bool × List (List Nat × List Nat) := (true, [([], []), ([], []), ([], []), ([1, 2], [1, 2]), ([], []), ([], []), ([4, 5, 3], [4, 5]), ([], []), ([7], [7]), ([8, 8], [8]), ([0, 3, 6, 9], [0, 3, 6, 9]), ([10, 6, 0, 1, 2, 3, 4, 5, 6, 7, 8, 9, 10], [10]), ([11, 0, 1, 2, 3, 4, 5, 6, 7, 8, 9, 10, 11], [])])
def spec_NewTask.B3 : List Nat := [0, 0, 0, 6, 0, 0, 62, 0, 128, 384, 1023, 2047, 4095]
theorem spec_NewTask.tab3 : rtab .any (opsOf Try.f64 3) = spec_NewTask.T3 := by kernel_rfl
theorem spec_NewTask.bits3 : waitsOk spec_NewTask.T3.2 spec_NewTask.B3 = true := by kernel_rfl
theorem spec_NewTask.calls (k : Nat) (a0 : Int) (A1 : Option Addr) (c1 : Nat) (l1 : List (S60)) (A2 : Option Addr) (c2 : Nat) (l2 : List (S60)) (r1 : Int) (r2 : List (S60)) (r3 : List (S60)) (r4 : List Bool) (r5 : Int) (r6 : Bool) (w : World) (hr1 : Kd.C k60 w A1 l1.length l1) (hc1 : l1.length ≤ c1) (hr2 : Kd.C k60 w A2 l2.length l2) (hc2 : l2.length ≤ c2) (h : spec_NewTask.f k a0 l1 l2 = some (r1, r2, r3, r4, r5, r6)) :
  Calls Try.prog 64 #[.int .i64 a0, .slice A1 l1.length c1, .slice A2 l2.length c2] w fun e w' => ∃ v1_ v2_ v3_ : Value, e = .returned (.tuple #[.agg #[.int .i64 r1, v1_, v2_, v3_, .int .i64 r5], .bool r6]) ∧ Kd.R k60 60 w' w.heap.size (fun k_ => some k_ ≠ (v2_ : Value).ownBlock) v1_ r2 ∧ Kd.R k60 60 w' w.heap.size (fun k_ => some k_ ≠ (v1_ : Value).ownBlock) v2_ r3 ∧ Kd.R Kd.bool 4 w' w.heap.size (fun _ => True) v3_ r4 ∧ Below w.heap.size w w' := by
 have hu40 := Try.underlying40
 have HR1 := am hr1
 have HC1 := am hc1
 clear hr1 hc1
 have HR2 := am hr2
 have HC2 := am hc2
 clear hr2 hc2
 have HB := am (Below.refl w.heap.size w)
 have H : ((spec_IsValidJoinKind.f a0).bind fun t506 => (if t506 = true then ((spec_AreValidRows.f k l1).bind fun t507 => (if t507 = true then ((spec_AreValidRows.f k l2).bind fun t508 => (if t508 = true then ((some (([] : List (S60)) : List (S60))).bind fun y509 => (if y509.length + l1.length < 5864062014805 then ((some (([] : List (S60)) : List (S60))).bind fun y515 => (if y515.length + l2.length < 5864062014805 then (if 0 ≤ (l1.length : Int) then (if ((l1.length : Int) : Int).toNat ≤ 281474976710656 then (some (a0, (y509 ++ l1), (y515 ++ l2), (List.replicate ((l1.length : Int) : Int).toNat false), 0, true)) else (none)) else (none)) else (none))) else (none))) else (some (0, ([] : List (S60)), ([] : List (S60)), ([] : List Bool), 0, false)))) else (some (0, ([] : List (S60)), ([] : List (S60)), ([] : List Bool), 0, false)))) else (some (0, ([] : List (S60)), ([] : List (S60)), ([] : List Bool), 0, false)))) = some (r1, r2, r3, r4, r5, r6) := h
 clear h
 replace H := Option.bind_eq_some_iff.mp H
 obtain ⟨t506, A40, H⟩ := H
 have A4 := am A40
 clear A40
 by_cases c5 : t506 = true
 ·subst c5
  rw [if_pos rfl] at H
  replace H := Option.bind_eq_some_iff.mp H
  obtain ⟨t507, A60, H⟩ := H
  have A6 := am A60
  clear A60
  by_cases c7 : t507 = true
  ·subst c7
   rw [if_pos rfl] at H
   replace H := Option.bind_eq_some_iff.mp H
   obtain ⟨t508, A80, H⟩ := H
   have A8 := am A80
   clear A80
   by_cases c9 : t508 = true
   ·subst c9
    rw [if_pos rfl] at H
    obtain ⟨y509, hy509, H⟩ := bindO_ H
    have Ny509 := am hy509
    clear hy509
    by_cases c10 : y509.length + l1.length < 5864062014805
    ·rw [if_pos c10] at H
     have LMc10 := am c10
     clear c10
     obtain ⟨y512, hy512⟩ : ∃ y_ : List (S60), y_ = (y509 ++ l1) := ⟨_, rfl⟩
     replace H : ((some (([] : List (S60)) : List (S60))).bind fun y515 => (if y515.length + l2.length < 5864062014805 then (if 0 ≤ (l1.length : Int) then (if ((l1.length : Int) : Int).toNat ≤ 281474976710656 then (some (a0, y512, (y515 ++ l2), (List.replicate ((l1.length : Int) : Int).toNat false), 0, true)) else (none)) else (none)) else (none))) = some (r1, r2, r3, r4, r5, r6) := by (rw [hy512]; with_reducible exact H)
     have Ny512 := am hy512
     clear hy512
     obtain ⟨y515, hy515, H⟩ := bindO_ H
     have Ny515 := am hy515
     clear hy515
     by_cases c11 : y515.length + l2.length < 5864062014805
     ·rw [if_pos c11] at H
      have LMc11 := am c11
      clear c11
      obtain ⟨y518, hy518⟩ : ∃ y_ : List (S60), y_ = (y515 ++ l2) := ⟨_, rfl⟩
      replace H : (if 0 ≤ (l1.length : Int) then (if ((l1.length : Int) : Int).toNat ≤ 281474976710656 then (some (a0, y512, y518, (List.replicate ((l1.length : Int) : Int).toNat false), 0, true)) else (none)) else (none)) = some (r1, r2, r3, r4, r5, r6) := by (rw [hy518]; with_reducible exact H)
      have Ny518 := am hy518
      clear hy518
      by_cases c12 : 0 ≤ (l1.length : Int)
      ·rw [if_pos c12] at H
       have c12b0 := eq_true c12
       have c12b1 : decide (0 ≤ (l1.length : Int)) = true := decide_eq_true c12
       clear c12
       by_cases c13 : ((l1.length : Int) : Int).toNat ≤ 281474976710656
       ·rw [if_pos c13] at H
        have c13b0 := eq_true c13
        have c13b1 : decide (((l1.length : Int) : Int).toNat ≤ 281474976710656) = true := decide_eq_true c13
        clear c13
        obtain ⟨y521, hy521⟩ : ∃ y_ : List Bool, y_ = (List.replicate ((l1.length : Int) : Int).toNat false) := ⟨_, rfl⟩
        replace H : (some (a0, y512, y518, y521, 0, true)) = some (r1, r2, r3, r4, r5, r6) := by (rw [hy521]; with_reducible exact H)
        have Ny521 := am hy521
        clear hy521
        simp only [Option.some.injEq, Prod.mk.injEq] at H
        obtain ⟨rfl, rfl, rfl, rfl, rfl, rfl⟩ := H
        go_enter Try.func64, Try.ntmps64
        try go_wp2_with (first | ((with_reducible refine gate_dst (N := 6) rfl ?_); refine box_event ?hg (N := 6) ?hd (cs := #[.int .i64 0, .slice none 0 0, .slice none 0 0, .slice none 0 0, .int .i64 0]) (t := 40) ?hr ?_; (case hd => rfl); (case hg => rfl); (case hr => (go_simp; done)); intro gb505 hg w14 hbox hb; have BK505 := am (hbox); have GW505 := am (gw_ hg HB.out); have GE505 := am (gw_ hg HB.out); replace HB := am (below_step HB.out hb); clear hb hbox hg) | ((with_reducible refine gate_callee (f := 47) rfl ?_); refine goesL_ (some 9) rfl rfl Try.func47 (by kernel_rfl) rfl #[.int .i64 a0] rfl (by (try simp only [List.map_toArray, List.map_cons, List.map_nil]); rfl) ?_; (with_reducible refine (spec_IsValidJoinKind.calls a0 true _ A4.out).mono ?_); rintro e w' ⟨rfl, ⟨nd, rfl⟩⟩; refine ⟨_, rfl, ?_⟩; (try (rw [drewN_self w14]; generalize hq_ : World.drewN w14 _ = w14; replace BK505 : Aside0 (w14.heap[gb505]? = some (.cells #[.int .i64 0, .slice none 0 0, .slice none 0 0, .slice none 0 0, .int .i64 0] 40 (0, 0))) := ⟨by rw [← hq_]; exact (by (with_reducible repeat (refine blk_drewN ?_ _)); exact BK505.out)⟩; replace HB : Aside0 (Below w.heap.size w w14) := ⟨by rw [← hq_]; exact (by repeat (with_reducible first | exact HB.out | apply pw_below_drewN))⟩; clear hq_))) | (go_at_call 46; (with_reducible refine (spec_AreValidRows.calls k _ _ l1 true _ ?side1 ?side2 A6.out).mono ?_); (case side1 => repeat (exact (Kd.C_below HR1.out HB.out))); (case side2 => exact HC1.out); rintro e w15 ⟨rfl, hb⟩; replace BK505 := am (blk_below BK505.out hb); replace HB := am (below_step HB.out hb); (try clear hb)) | (go_at_call 46; (with_reducible refine (spec_AreValidRows.calls k _ _ l2 true _ ?side1 ?side2 A8.out).mono ?_); (case side1 => repeat (exact (Kd.C_below HR2.out HB.out))); (case side2 => exact HC2.out); rintro e w16 ⟨rfl, hb⟩; replace BK505 := am (blk_below BK505.out hb); replace HB := am (below_step HB.out hb); (try clear hb)))
        replace BK505 := am (blk_drew BK505.out)
        replace HB := am (below_drew1 HB.out)
        refine start_ (n := 13) (S := fun w' => True) (ds := []) #[false, false, false, false, false, false, false, false, false, false, false, false, false] (by kernel_rfl) rfl rfl trivial (fun hHeld => ?_); refine with_tabW spec_NewTask.tab3 spec_NewTask.bits3 (fun HT_ HW_ => ?_)
        generalize w16.drew = w17 at BK505 HB hHeld ⊢
        refine pure_ (i := 0) (N := some 22) (v := ?_) (a' := ?_) #[true, false, false, false, false, false, false, false, false, false, false, false, false] rfl rfl (any_of HT_.out (by kernel_rfl)) (fun _ _ _ h => h) (Or.inl ⟨rfl, ?_⟩) ?_ ?_
        rotate_left
        ·intro w'
         go_simp
         with_reducible rfl
        rotate_left
        ·simp only [Act.put, s2_, s0_, s1_, i64_w, i32_w]
         rfl
        refine pure_ (i := 2) (N := some 24) (v := ?_) (a' := ?_) #[true, false, true, false, false, false, false, false, false, false, false, false, false] rfl rfl (any_of HT_.out (by kernel_rfl)) (fun _ _ _ h => h) (Or.inl ⟨rfl, ?_⟩) ?_ ?_
        rotate_left
        ·intro w'
         go_simp
         with_reducible rfl
        rotate_left
        ·simp only [Act.put, s2_, s0_, s1_, i64_w, i32_w]
         rfl
        refine pure_ (i := 5) (N := some 27) (v := ?_) (a' := ?_) #[true, false, true, false, false, true, false, false, false, false, false, false, false] rfl rfl (any_of HT_.out (by kernel_rfl)) (fun _ _ _ h => h) (Or.inl ⟨rfl, ?_⟩) ?_ ?_
        rotate_left
        ·intro w'
         go_simp
         with_reducible rfl
        rotate_left
        ·simp only [Act.put, s2_, s0_, s1_, i64_w, i32_w]
         rfl
        refine pure_ (i := 7) (N := some 29) (v := ?_) (a' := ?_) #[true, false, true, false, false, true, false, true, false, false, false, false, false] rfl rfl (any_of HT_.out (by kernel_rfl)) (fun _ _ _ h => h) (Or.inl ⟨rfl, ?_⟩) ?_ ?_
        rotate_left
        ·intro w'
         go_simp
         with_reducible rfl
        rotate_left
        ·simp only [Act.put, s2_, s0_, s1_, i64_w, i32_w]
         rfl
        refine pure_ (i := 8) (N := some 30) (v := ?_) (a' := ?_) #[true, false, true, false, false, true, false, true, true, false, false, false, false] rfl rfl (any_of HT_.out (by kernel_rfl)) (fun _ _ _ h => h) (Or.inl ⟨rfl, ?_⟩) ?_ ?_
        rotate_left
        ·intro w'
         go_simp
         with_reducible rfl
        rotate_left
        ·simp only [Act.put, s2_, s0_, s1_, i64_w, i32_w]
         rfl
        refine join_ (σ := Value × Value × Value × Value × Value) 3 #[true, true, true, true, true, true, true, true, true, true, false, false, false] (fun s_ => [(23, s_.1), (25, s_.2.1), (26, s_.2.2.1), (28, s_.2.2.2.1), (31, s_.2.2.2.2)]) (fun s_ w' => (Kd.R k60 60 w' w.heap.size (fun k_ => some k_ ≠ (s_.2.2.2.1 : Value).ownBlock) s_.2.1 y512) ∧ (Kd.R k60 60 w' w.heap.size (fun k_ => some k_ ≠ (s_.2.1 : Value).ownBlock) s_.2.2.2.1 y518) ∧ (Kd.R Kd.bool 4 w' w.heap.size (fun _ => True) s_.2.2.2.2 y521) ∧ (w'.heap[gb505]? = some (.cells #[.int .i64 0, .slice none 0 0, .slice none 0 0, .slice none 0 0, .int .i64 0] 40 (0, 0))) ∧ (Below w.heap.size w w')) ?_ ?_
        rotate_left
        ·intro hJ1_3_4_6_9
         refine join_ (σ := Value × Value × Value × Value) 4 #[true, true, true, true, true, true, true, true, true, false, false, false, false] (fun s_ => [(23, s_.1), (25, s_.2.1), (26, s_.2.2.1), (28, s_.2.2.2)]) (fun s_ w' => (Kd.R k60 60 w' w.heap.size (fun k_ => some k_ ≠ (s_.2.2.2 : Value).ownBlock) s_.2.1 y512) ∧ (Kd.R k60 60 w' w.heap.size (fun k_ => some k_ ≠ (s_.2.1 : Value).ownBlock) s_.2.2.2 y518) ∧ (w'.heap[gb505]? = some (.cells #[.int .i64 0, .slice none 0 0, .slice none 0 0, .slice none 0 0, .int .i64 0] 40 (0, 0))) ∧ (Below w.heap.size w w')) ?_ ?_
         rotate_left
         ·intro hJ1_3_4_6
          refine join_ (σ := Value × Value × Value × Value) 4 #[true, true, true, true, true, true, false, true, true, true, false, false, false] (fun s_ => [(23, s_.1), (25, s_.2.1), (26, s_.2.2.1), (31, s_.2.2.2)]) (fun s_ w' => (Kd.R k60 60 w' w.heap.size (fun k_ => some k_ ≠ (s_.2.2.1 : Value).ownBlock) s_.2.1 y512) ∧ (Kd.R k60 60 w' w.heap.size (fun k_ => some k_ ≠ (s_.2.1 : Value).ownBlock) s_.2.2.1 y515) ∧ (Kd.R Kd.bool 4 w' w.heap.size (fun _ => True) s_.2.2.2 y521) ∧ (w'.heap[gb505]? = some (.cells #[.int .i64 0, .slice none 0 0, .slice none 0 0, .slice none 0 0, .int .i64 0] 40 (0, 0))) ∧ (Below w.heap.size w w')) ?_ ?_
          rotate_left
          ·intro hJ1_3_4_9
           refine join_ (σ := Value × Value × Value) 5 #[true, true, true, true, true, true, false, true, true, false, false, false, false] (fun s_ => [(23, s_.1), (25, s_.2.1), (26, s_.2.2)]) (fun s_ w' => (Kd.R k60 60 w' w.heap.size (fun k_ => some k_ ≠ (s_.2.2 : Value).ownBlock) s_.2.1 y512) ∧ (Kd.R k60 60 w' w.heap.size (fun k_ => some k_ ≠ (s_.2.1 : Value).ownBlock) s_.2.2 y515) ∧ (w'.heap[gb505]? = some (.cells #[.int .i64 0, .slice none 0 0, .slice none 0 0, .slice none 0 0, .int .i64 0] 40 (0, 0))) ∧ (Below w.heap.size w w')) ?_ ?_
           rotate_left
           ·intro hJ1_3_4
            refine join_ (σ := Value × Value × Value) 5 #[true, true, true, true, false, true, false, true, true, true, false, false, false] (fun s_ => [(23, s_.1), (25, s_.2.1), (31, s_.2.2)]) (fun s_ w' => (Kd.R k60 60 w' w.heap.size (fun _ => True) s_.2.1 y512) ∧ (Kd.R Kd.bool 4 w' w.heap.size (fun _ => True) s_.2.2 y521) ∧ (w'.heap[gb505]? = some (.cells #[.int .i64 0, .slice none 0 0, .slice none 0 0, .slice none 0 0, .int .i64 0] 40 (0, 0))) ∧ (Below w.heap.size w w')) ?_ ?_
            rotate_left
            ·intro hJ1_3_9
             refine join_ (σ := Value × Value × Value) 5 #[true, true, true, false, true, true, false, true, true, true, false, false, false] (fun s_ => [(23, s_.1), (26, s_.2.1), (31, s_.2.2)]) (fun s_ w' => (Kd.R k60 60 w' w.heap.size (fun k_ => some k_ ≠ (s_.2.1 : Value).ownBlock) s_.1 y509) ∧ (Kd.R k60 60 w' w.heap.size (fun k_ => some k_ ≠ (s_.1 : Value).ownBlock) s_.2.1 y515) ∧ (Kd.R Kd.bool 4 w' w.heap.size (fun _ => True) s_.2.2 y521) ∧ (w'.heap[gb505]? = some (.cells #[.int .i64 0, .slice none 0 0, .slice none 0 0, .slice none 0 0, .int .i64 0] 40 (0, 0))) ∧ (Below w.heap.size w w')) ?_ ?_
             rotate_left
             ·intro hJ1_4_9
              refine join_ (σ := Value × Value) 6 #[true, true, true, true, false, true, false, true, true, false, false, false, false] (fun s_ => [(23, s_.1), (25, s_.2)]) (fun s_ w' => (Kd.R k60 60 w' w.heap.size (fun _ => True) s_.2 y512) ∧ (w'.heap[gb505]? = some (.cells #[.int .i64 0, .slice none 0 0, .slice none 0 0, .slice none 0 0, .int .i64 0] 40 (0, 0))) ∧ (Below w.heap.size w w')) ?_ ?_
              rotate_left
              ·intro hJ1_3
               refine join_ (σ := Value × Value) 6 #[true, true, true, false, true, true, false, true, true, false, false, false, false] (fun s_ => [(23, s_.1), (26, s_.2)]) (fun s_ w' => (Kd.R k60 60 w' w.heap.size (fun k_ => some k_ ≠ (s_.2 : Value).ownBlock) s_.1 y509) ∧ (Kd.R k60 60 w' w.heap.size (fun k_ => some k_ ≠ (s_.1 : Value).ownBlock) s_.2 y515) ∧ (w'.heap[gb505]? = some (.cells #[.int .i64 0, .slice none 0 0, .slice none 0 0, .slice none 0 0, .int .i64 0] 40 (0, 0))) ∧ (Below w.heap.size w w')) ?_ ?_
               rotate_left
               ·intro hJ1_4
                refine join_ (σ := Value × Value) 6 #[true, true, true, false, false, true, false, true, true, true, false, false, false] (fun s_ => [(23, s_.1), (31, s_.2)]) (fun s_ w' => (Kd.R k60 60 w' w.heap.size (fun _ => True) s_.1 y509) ∧ (Kd.R Kd.bool 4 w' w.heap.size (fun _ => True) s_.2 y521) ∧ (w'.heap[gb505]? = some (.cells #[.int .i64 0, .slice none 0 0, .slice none 0 0, .slice none 0 0, .int .i64 0] 40 (0, 0))) ∧ (Below w.heap.size w w')) ?_ ?_
                rotate_left
                ·intro hJ1_9
                 refine join_ (σ := Value × Value) 6 #[true, false, true, false, true, true, false, true, true, true, false, false, false] (fun s_ => [(26, s_.1), (31, s_.2)]) (fun s_ w' => (Kd.R k60 60 w' w.heap.size (fun _ => True) s_.1 y515) ∧ (Kd.R Kd.bool 4 w' w.heap.size (fun _ => True) s_.2 y521) ∧ (w'.heap[gb505]? = some (.cells #[.int .i64 0, .slice none 0 0, .slice none 0 0, .slice none 0 0, .int .i64 0] 40 (0, 0))) ∧ (Below w.heap.size w w')) ?_ ?_
                 rotate_left
                 ·intro hJ4_9
                  refine join_ (σ := Value) 7 #[true, true, true, false, false, true, false, true, true, false, false, false, false] (fun s_ => [(23, s_)]) (fun s_ w' => (Kd.R k60 60 w' w.heap.size (fun _ => True) s_ y509) ∧ (w'.heap[gb505]? = some (.cells #[.int .i64 0, .slice none 0 0, .slice none 0 0, .slice none 0 0, .int .i64 0] 40 (0, 0))) ∧ (Below w.heap.size w w')) ?_ ?_
                  rotate_left
                  ·intro hJ1
                   refine join_ (σ := Value) 7 #[true, false, true, false, true, true, false, true, true, false, false, false, false] (fun s_ => [(26, s_)]) (fun s_ w' => (Kd.R k60 60 w' w.heap.size (fun _ => True) s_ y515) ∧ (w'.heap[gb505]? = some (.cells #[.int .i64 0, .slice none 0 0, .slice none 0 0, .slice none 0 0, .int .i64 0] 40 (0, 0))) ∧ (Below w.heap.size w w')) ?_ ?_
                   rotate_left
                   ·intro hJ4
                    refine join_ (σ := Value) 7 #[true, false, true, false, false, true, false, true, true, true, false, false, false] (fun s_ => [(31, s_)]) (fun s_ w' => (Kd.R Kd.bool 4 w' w.heap.size (fun _ => True) s_ y521) ∧ (w'.heap[gb505]? = some (.cells #[.int .i64 0, .slice none 0 0, .slice none 0 0, .slice none 0 0, .int .i64 0] 40 (0, 0))) ∧ (Below w.heap.size w w')) ?_ ?_
                    rotate_left
                    ·intro hJ9
                     refine three_ (i := 1) (j := 4) (k := 9) (Ni := some 23) (Nj := some 26) (Nk := some 31) #[true, true, true, false, false, true, false, true, true, false, false, false, false] #[true, false, true, false, true, true, false, true, true, false, false, false, false] #[true, false, true, false, false, true, false, true, true, true, false, false, false] rfl rfl rfl rfl rfl rfl (three_of HT_.out (by kernel_rfl)) (by decide) (by decide) (by decide) (fun K hK => ?_) (fun K hK => ?_) (fun K hK => ?_)
                     ·skip
                      refine Kd.R_lit_step k60 _ 60 ?hg (N := 23) ?hd (xs := ([] : List (S60))) (inner := []) (ok := fun _ => True) (okp := fun _ => True) ?hr ?hp (fun _ hk => hk) trivial (Below.refl _ _) (Nat.le_refl _) (by simp) ?_; (case hd => rfl); (case hg => rfl); (case hr => (go_simp; done)); (case hp => exact (Reps.none _ _))
                      intro v510 w18 ho19 hb hg_ hnew_
                      clear hg_ hnew_
                      (rw [← Ny509.out] at ho19)
                      have HO511 := am (Kd.R_lower ho19 (below_size HB.out))
                      replace BK505 := am (blk_below BK505.out hb)
                      replace HB := am (below_step HB.out hb)
                      clear hb ho19
                      refine hK.out _ _ trivial (fun hHeld => ?_)
                      clear hK K
                      refine norm_ (a' := ?_) ?_ ?_
                      rotate_left
                      ·show Act.put _ (some 23) _ = _
                       simp only [Act.put, s2_, s0_, s1_, i64_w, i32_w]
                       rfl
                      exact norm_ (by (simp only [putAll, Act.put, s2_, s0_, s1_]; done)) (hJ1 (v510) _ ⟨HO511.out, BK505.out, HB.out⟩)
                     ·skip
                      refine Kd.R_lit_step k60 _ 60 ?hg (N := 26) ?hd (xs := ([] : List (S60))) (inner := []) (ok := fun _ => True) (okp := fun _ => True) ?hr ?hp (fun _ hk => hk) trivial (Below.refl _ _) (Nat.le_refl _) (by simp) ?_; (case hd => rfl); (case hg => rfl); (case hr => (go_simp; done)); (case hp => exact (Reps.none _ _))
                      intro v516 w18 ho19 hb hg_ hnew_
                      clear hg_ hnew_
                      (rw [← Ny515.out] at ho19)
                      have HO517 := am (Kd.R_lower ho19 (below_size HB.out))
                      replace BK505 := am (blk_below BK505.out hb)
                      replace HB := am (below_step HB.out hb)
                      clear hb ho19
                      refine hK.out _ _ trivial (fun hHeld => ?_)
                      clear hK K
                      refine norm_ (a' := ?_) ?_ ?_
                      rotate_left
                      ·show Act.put _ (some 26) _ = _
                       simp only [Act.put, s2_, s0_, s1_, i64_w, i32_w]
                       rfl
                      exact norm_ (by (simp only [putAll, Act.put, s2_, s0_, s1_]; done)) (hJ4 (v516) _ ⟨HO517.out, BK505.out, HB.out⟩)
                     ·skip
                      refine Kd.R_make_step Kd.bool _ 4 rfl (N := 31) rfl 38 _ _ rfl (l1.length : Int) rfl rfl Try.underlying38 (.bool false) 1 info4 rfl (by decide) (by omega) false (ok := fun _ => True) (okp := fun _ => True) rfl (fun _ hk => hk) trivial (of_decide_eq_true (by (with_reducible assumption))) (Nat.le_trans (Nat.mul_le_mul_right _ (of_decide_eq_true (by (with_reducible assumption)) : (l1.length : Int).toNat ≤ 281474976710656)) (by omega)) (Below.refl _ _) (Nat.le_refl _) ?_
                      intro v522 w18 ho19 hb hg_ hnew_
                      clear hg_ hnew_
                      (rw [← Ny521.out] at ho19)
                      have HO523 := am (Kd.R_lower ho19 (below_size HB.out))
                      replace BK505 := am (blk_below BK505.out hb)
                      replace HB := am (below_step HB.out hb)
                      clear hb ho19
                      refine hK.out _ _ trivial (fun hHeld => ?_)
                      clear hK K
                      refine norm_ (a' := ?_) ?_ ?_
                      rotate_left
                      ·show Act.put _ (some 31) _ = _
                       simp only [Act.put, s2_, s0_, s1_, i64_w, i32_w]
                       rfl
                      exact norm_ (by (simp only [putAll, Act.put, s2_, s0_, s1_]; done)) (hJ9 (v522) _ ⟨HO523.out, BK505.out, HB.out⟩)
                    ·skip
                     rintro v522 w20 ⟨h0_, h1_, h2_⟩
                     have HO523 : Aside0 (Kd.R Kd.bool 4 w20 w.heap.size (fun _ => True) v522 y521) := ⟨h0_⟩
                     replace BK505 : Aside0 (w20.heap[gb505]? = some (.cells #[.int .i64 0, .slice none 0 0, .slice none 0 0, .slice none 0 0, .int .i64 0] 40 (0, 0))) := ⟨h1_⟩
                     replace HB : Aside0 (Below w.heap.size w w20) := ⟨h2_⟩
                     clear h0_ h1_ h2_
                     have hHeld := trivial
                     refine norm_ (a' := ?_) ?_ ?_
                     rotate_left
                     ·simp only [putAll, Act.put, s2_, s0_, s1_]
                      rfl
                     refine two_ (i := 1) (j := 4) (Ni := some 23) (Nj := some 26) #[true, true, true, false, false, true, false, true, true, true, false, false, false] #[true, false, true, false, true, true, false, true, true, true, false, false, false] rfl rfl rfl rfl (two_of HT_.out (by kernel_rfl)) (by decide) (by decide) (fun K hK => ?_) (fun K hK => ?_)
                     ·skip
                      refine Kd.R_lit_step k60 _ 60 ?hg (N := 23) ?hd (xs := ([] : List (S60))) (inner := []) (ok := fun _ => True) (okp := fun _ => True) ?hr ?hp (fun _ hk => hk) trivial (Below.refl _ _) (Nat.le_refl _) (by simp) ?_; (case hd => rfl); (case hg => rfl); (case hr => (go_simp; done)); (case hp => exact (Reps.none _ _))
                      intro v510 w21 ho22 hb hg_ hnew_
                      clear hg_ hnew_
                      (rw [← Ny509.out] at ho22)
                      replace HO523 := am (Kd.R_below HO523.out hb)
                      have HO511 := am (Kd.R_lower ho22 (below_size HB.out))
                      replace BK505 := am (blk_below BK505.out hb)
                      replace HB := am (below_step HB.out hb)
                      clear hb ho22
                      refine hK.out _ _ trivial (fun hHeld => ?_)
                      clear hK K
                      refine norm_ (a' := ?_) ?_ ?_
                      rotate_left
                      ·show Act.put _ (some 23) _ = _
                       simp only [Act.put, s2_, s0_, s1_, i64_w, i32_w]
                       rfl
                      exact norm_ (by (simp only [putAll, Act.put, s2_, s0_, s1_]; done)) (hJ1_9 (v510, v522) _ ⟨HO511.out, HO523.out, BK505.out, HB.out⟩)
                     ·skip
                      refine Kd.R_lit_step k60 _ 60 ?hg (N := 26) ?hd (xs := ([] : List (S60))) (inner := []) (ok := fun _ => True) (okp := fun _ => True) ?hr ?hp (fun _ hk => hk) trivial (Below.refl _ _) (Nat.le_refl _) (by simp) ?_; (case hd => rfl); (case hg => rfl); (case hr => (go_simp; done)); (case hp => exact (Reps.none _ _))
                      intro v516 w21 ho22 hb hg_ hnew_
                      clear hg_ hnew_
                      (rw [← Ny515.out] at ho22)
                      replace HO523 := am (Kd.R_below HO523.out hb)
                      have HO517 := am (Kd.R_lower ho22 (below_size HB.out))
                      replace BK505 := am (blk_below BK505.out hb)
                      replace HB := am (below_step HB.out hb)
                      clear hb ho22
                      refine hK.out _ _ trivial (fun hHeld => ?_)
                      clear hK K
                      refine norm_ (a' := ?_) ?_ ?_
                      rotate_left
                      ·show Act.put _ (some 26) _ = _
                       simp only [Act.put, s2_, s0_, s1_, i64_w, i32_w]
                       rfl
                      exact norm_ (by (simp only [putAll, Act.put, s2_, s0_, s1_]; done)) (hJ4_9 (v516, v522) _ ⟨HO517.out, HO523.out, BK505.out, HB.out⟩)
                   ·skip
                    rintro v516 w20 ⟨h0_, h1_, h2_⟩
                    have HO517 : Aside0 (Kd.R k60 60 w20 w.heap.size (fun _ => True) v516 y515) := ⟨h0_⟩
                    replace BK505 : Aside0 (w20.heap[gb505]? = some (.cells #[.int .i64 0, .slice none 0 0, .slice none 0 0, .slice none 0 0, .int .i64 0] 40 (0, 0))) := ⟨h1_⟩
                    replace HB : Aside0 (Below w.heap.size w w20) := ⟨h2_⟩
                    clear h0_ h1_ h2_
                    have hHeld := trivial
                    refine norm_ (a' := ?_) ?_ ?_
                    rotate_left
                    ·simp only [putAll, Act.put, s2_, s0_, s1_]
                     rfl
                    refine two_ (i := 1) (j := 9) (Ni := some 23) (Nj := some 31) #[true, true, true, false, true, true, false, true, true, false, false, false, false] #[true, false, true, false, true, true, false, true, true, true, false, false, false] rfl rfl rfl rfl (two_of HT_.out (by kernel_rfl)) (by decide) (by decide) (fun K hK => ?_) (fun K hK => ?_)
                    ·skip
                     refine Kd.R_lit_step k60 _ 60 ?hg (N := 23) ?hd (xs := ([] : List (S60))) (inner := []) (ok := fun _ => True) (okp := fun _ => True) ?hr ?hp (fun _ hk => hk) trivial (Below.refl _ _) (Nat.le_refl _) (by simp) ?_; (case hd => rfl); (case hg => rfl); (case hr => (go_simp; done)); (case hp => exact (Reps.none _ _))
                     intro v510 w21 ho22 hb hg_ hnew_
                     clear hg_ hnew_
                     (rw [← Ny509.out] at ho22)
                     have HO511 := am (Kd.R_lower (Kd.R_new' ho22 (Kd.R_lt HO517.out)) (below_size HB.out))
                     replace HO517 := am (Kd.R_elder' HO517.out (Kd.R_base ho22) hb)
                     replace BK505 := am (blk_below BK505.out hb)
                     replace HB := am (below_step HB.out hb)
                     clear hb ho22
                     refine hK.out _ _ trivial (fun hHeld => ?_)
                     clear hK K
                     refine norm_ (a' := ?_) ?_ ?_
                     rotate_left
                     ·show Act.put _ (some 23) _ = _
                      simp only [Act.put, s2_, s0_, s1_, i64_w, i32_w]
                      rfl
                     exact norm_ (by (simp only [putAll, Act.put, s2_, s0_, s1_]; done)) (hJ1_4 (v510, v516) _ ⟨(by exact Kd.R_mono HO511.out (fun _ hk => hk.2)), (by exact Kd.R_mono HO517.out (fun _ hk => hk.2)), BK505.out, HB.out⟩)
                    ·skip
                     refine Kd.R_make_step Kd.bool _ 4 rfl (N := 31) rfl 38 _ _ rfl (l1.length : Int) rfl rfl Try.underlying38 (.bool false) 1 info4 rfl (by decide) (by omega) false (ok := fun _ => True) (okp := fun _ => True) rfl (fun _ hk => hk) trivial (of_decide_eq_true (by (with_reducible assumption))) (Nat.le_trans (Nat.mul_le_mul_right _ (of_decide_eq_true (by (with_reducible assumption)) : (l1.length : Int).toNat ≤ 281474976710656)) (by omega)) (Below.refl _ _) (Nat.le_refl _) ?_
                     intro v522 w21 ho22 hb hg_ hnew_
                     clear hg_ hnew_
                     (rw [← Ny521.out] at ho22)
                     replace HO517 := am (Kd.R_below HO517.out hb)
                     have HO523 := am (Kd.R_lower ho22 (below_size HB.out))
                     replace BK505 := am (blk_below BK505.out hb)
                     replace HB := am (below_step HB.out hb)
                     clear hb ho22
                     refine hK.out _ _ trivial (fun hHeld => ?_)
                     clear hK K
                     refine norm_ (a' := ?_) ?_ ?_
                     rotate_left
                     ·show Act.put _ (some 31) _ = _
                      simp only [Act.put, s2_, s0_, s1_, i64_w, i32_w]
                      rfl
                     exact norm_ (by (simp only [putAll, Act.put, s2_, s0_, s1_]; done)) (hJ4_9 (v516, v522) _ ⟨HO517.out, HO523.out, BK505.out, HB.out⟩)
                  ·skip
                   rintro v510 w20 ⟨h0_, h1_, h2_⟩
                   have HO511 : Aside0 (Kd.R k60 60 w20 w.heap.size (fun _ => True) v510 y509) := ⟨h0_⟩
                   replace BK505 : Aside0 (w20.heap[gb505]? = some (.cells #[.int .i64 0, .slice none 0 0, .slice none 0 0, .slice none 0 0, .int .i64 0] 40 (0, 0))) := ⟨h1_⟩
                   replace HB : Aside0 (Below w.heap.size w w20) := ⟨h2_⟩
                   clear h0_ h1_ h2_
                   have hHeld := trivial
                   refine norm_ (a' := ?_) ?_ ?_
                   rotate_left
                   ·simp only [putAll, Act.put, s2_, s0_, s1_]
                    rfl
                   refine three_ (i := 3) (j := 4) (k := 9) (Ni := some 25) (Nj := some 26) (Nk := some 31) #[true, true, true, true, false, true, false, true, true, false, false, false, false] #[true, true, true, false, true, true, false, true, true, false, false, false, false] #[true, true, true, false, false, true, false, true, true, true, false, false, false] rfl rfl rfl rfl rfl rfl (three_of HT_.out (by kernel_rfl)) (by decide) (by decide) (by decide) (fun K hK => ?_) (fun K hK => ?_) (fun K hK => ?_)
                   ·skip
                    refine Kd.R_append_rows_step k60 (w0 := w) w.heap.size rfl (.tmp 23) (.tmp 24) 24 60 (.agg #[(.int .i64 0), (.int .i64 0), (.int .i64 0)]) 24 rfl Try.underlying24 info60 rfl (by decide) (by omega) v510 y509 l1 _ _ _ (fun _ => True) (fun _ => False) rfl rfl ?aO ?aR (fun _ _ h => h) (fun _ h => h.elim) ?aF ?aB ?aS ?aL ?_
                    (case aR => repeat (exact (Kd.C_below HR1.out HB.out)))
                    (case aB => exact HB.out)
                    (case aF => exact (fun _ _ => trivial))
                    (case aO => exact HO511.out)
                    (case aS => exact (below_size HB.out))
                    (case aL => have := LMc10.out; omega)
                    intro v513 w21 ho hb hg hat
                    rw [← Ny512.out] at ho
                    replace BK505 := am (blk_grown BK505.out hg (Kd.R_ne HO511.out BK505.out (by decide)))
                    replace HB := am (hb)
                    have HO514 := am (ho)
                    clear HO511 ho hb hg hat
                    refine hK.out _ _ trivial (fun hHeld => ?_)
                    clear hK K
                    refine norm_ (a' := ?_) ?_ ?_
                    rotate_left
                    ·show Act.put _ (some 25) _ = _
                     simp only [Act.put, s2_, s0_, s1_, i64_w, i32_w]
                     rfl
                    exact norm_ (by (simp only [putAll, Act.put, s2_, s0_, s1_]; done)) (hJ1_3 (v510, v513) _ ⟨HO514.out, BK505.out, HB.out⟩)
                   ·skip
                    refine Kd.R_lit_step k60 _ 60 ?hg (N := 26) ?hd (xs := ([] : List (S60))) (inner := []) (ok := fun _ => True) (okp := fun _ => True) ?hr ?hp (fun _ hk => hk) trivial (Below.refl _ _) (Nat.le_refl _) (by simp) ?_; (case hd => rfl); (case hg => rfl); (case hr => (go_simp; done)); (case hp => exact (Reps.none _ _))
                    intro v516 w21 ho22 hb hg_ hnew_
                    clear hg_ hnew_
                    (rw [← Ny515.out] at ho22)
                    have HO517 := am (Kd.R_lower (Kd.R_new' ho22 (Kd.R_lt HO511.out)) (below_size HB.out))
                    replace HO511 := am (Kd.R_elder' HO511.out (Kd.R_base ho22) hb)
                    replace BK505 := am (blk_below BK505.out hb)
                    replace HB := am (below_step HB.out hb)
                    clear hb ho22
                    refine hK.out _ _ trivial (fun hHeld => ?_)
                    clear hK K
                    refine norm_ (a' := ?_) ?_ ?_
                    rotate_left
                    ·show Act.put _ (some 26) _ = _
                     simp only [Act.put, s2_, s0_, s1_, i64_w, i32_w]
                     rfl
                    exact norm_ (by (simp only [putAll, Act.put, s2_, s0_, s1_]; done)) (hJ1_4 (v510, v516) _ ⟨(by exact Kd.R_mono HO511.out (fun _ hk => hk.2)), (by exact Kd.R_mono HO517.out (fun _ hk => hk.2)), BK505.out, HB.out⟩)
                   ·skip
                    refine Kd.R_make_step Kd.bool _ 4 rfl (N := 31) rfl 38 _ _ rfl (l1.length : Int) rfl rfl Try.underlying38 (.bool false) 1 info4 rfl (by decide) (by omega) false (ok := fun _ => True) (okp := fun _ => True) rfl (fun _ hk => hk) trivial (of_decide_eq_true (by (with_reducible assumption))) (Nat.le_trans (Nat.mul_le_mul_right _ (of_decide_eq_true (by (with_reducible assumption)) : (l1.length : Int).toNat ≤ 281474976710656)) (by omega)) (Below.refl _ _) (Nat.le_refl _) ?_
                    intro v522 w21 ho22 hb hg_ hnew_
                    clear hg_ hnew_
                    (rw [← Ny521.out] at ho22)
                    replace HO511 := am (Kd.R_below HO511.out hb)
                    have HO523 := am (Kd.R_lower ho22 (below_size HB.out))
                    replace BK505 := am (blk_below BK505.out hb)
                    replace HB := am (below_step HB.out hb)
                    clear hb ho22
                    refine hK.out _ _ trivial (fun hHeld => ?_)
                    clear hK K
                    refine norm_ (a' := ?_) ?_ ?_
                    rotate_left
                    ·show Act.put _ (some 31) _ = _
                     simp only [Act.put, s2_, s0_, s1_, i64_w, i32_w]
                     rfl
                    exact norm_ (by (simp only [putAll, Act.put, s2_, s0_, s1_]; done)) (hJ1_9 (v510, v522) _ ⟨HO511.out, HO523.out, BK505.out, HB.out⟩)
                 ·skip
                  rintro ⟨v516, v522⟩ w22 ⟨h0_, h1_, h2_, h3_⟩
                  have HO517 : Aside0 (Kd.R k60 60 w22 w.heap.size (fun _ => True) v516 y515) := ⟨h0_⟩
                  have HO523 : Aside0 (Kd.R Kd.bool 4 w22 w.heap.size (fun _ => True) v522 y521) := ⟨h1_⟩
                  replace BK505 : Aside0 (w22.heap[gb505]? = some (.cells #[.int .i64 0, .slice none 0 0, .slice none 0 0, .slice none 0 0, .int .i64 0] 40 (0, 0))) := ⟨h2_⟩
                  replace HB : Aside0 (Below w.heap.size w w22) := ⟨h3_⟩
                  clear h0_ h1_ h2_ h3_
                  have hHeld := trivial
                  refine norm_ (a' := ?_) ?_ ?_
                  rotate_left
                  ·simp only [putAll, Act.put, s2_, s0_, s1_]
                   rfl
                  refine one_ (i := 1) (N := some 23) #[true, true, true, false, true, true, false, true, true, true, false, false, false] rfl rfl (one_of HT_.out (by kernel_rfl)) (by decide) (fun K hK => ?_)
                  refine Kd.R_lit_step k60 _ 60 ?hg (N := 23) ?hd (xs := ([] : List (S60))) (inner := []) (ok := fun _ => True) (okp := fun _ => True) ?hr ?hp (fun _ hk => hk) trivial (Below.refl _ _) (Nat.le_refl _) (by simp) ?_; (case hd => rfl); (case hg => rfl); (case hr => (go_simp; done)); (case hp => exact (Reps.none _ _))
                  intro v510 w23 ho24 hb hg_ hnew_
                  clear hg_ hnew_
                  (rw [← Ny509.out] at ho24)
                  replace HO523 := am (Kd.R_below HO523.out hb)
                  have HO511 := am (Kd.R_lower (Kd.R_new' ho24 (Kd.R_lt HO517.out)) (below_size HB.out))
                  replace HO517 := am (Kd.R_elder' HO517.out (Kd.R_base ho24) hb)
                  replace BK505 := am (blk_below BK505.out hb)
                  replace HB := am (below_step HB.out hb)
                  clear hb ho24
                  refine hK.out _ _ trivial (fun hHeld => ?_)
                  clear hK K
                  refine norm_ (a' := ?_) ?_ ?_
                  rotate_left
                  ·show Act.put _ (some 23) _ = _
                   simp only [Act.put, s2_, s0_, s1_, i64_w, i32_w]
                   rfl
                  exact norm_ (by (simp only [putAll, Act.put, s2_, s0_, s1_]; done)) (hJ1_4_9 (v510, v516, v522) _ ⟨(by exact Kd.R_mono HO511.out (fun _ hk => hk.2)), (by exact Kd.R_mono HO517.out (fun _ hk => hk.2)), HO523.out, BK505.out, HB.out⟩)
                ·skip
                 rintro ⟨v510, v522⟩ w22 ⟨h0_, h1_, h2_, h3_⟩
                 have HO511 : Aside0 (Kd.R k60 60 w22 w.heap.size (fun _ => True) v510 y509) := ⟨h0_⟩
                 have HO523 : Aside0 (Kd.R Kd.bool 4 w22 w.heap.size (fun _ => True) v522 y521) := ⟨h1_⟩
                 replace BK505 : Aside0 (w22.heap[gb505]? = some (.cells #[.int .i64 0, .slice none 0 0, .slice none 0 0, .slice none 0 0, .int .i64 0] 40 (0, 0))) := ⟨h2_⟩
                 replace HB : Aside0 (Below w.heap.size w w22) := ⟨h3_⟩
                 clear h0_ h1_ h2_ h3_
                 have hHeld := trivial
                 refine norm_ (a' := ?_) ?_ ?_
                 rotate_left
                 ·simp only [putAll, Act.put, s2_, s0_, s1_]
                  rfl
                 refine two_ (i := 3) (j := 4) (Ni := some 25) (Nj := some 26) #[true, true, true, true, false, true, false, true, true, true, false, false, false] #[true, true, true, false, true, true, false, true, true, true, false, false, false] rfl rfl rfl rfl (two_of HT_.out (by kernel_rfl)) (by decide) (by decide) (fun K hK => ?_) (fun K hK => ?_)
                 ·skip
                  refine Kd.R_append_rows_step k60 (w0 := w) w.heap.size rfl (.tmp 23) (.tmp 24) 24 60 (.agg #[(.int .i64 0), (.int .i64 0), (.int .i64 0)]) 24 rfl Try.underlying24 info60 rfl (by decide) (by omega) v510 y509 l1 _ _ _ (fun _ => True) (fun _ => False) rfl rfl ?aO ?aR (fun _ _ h => h) (fun _ h => h.elim) ?aF ?aB ?aS ?aL ?_
                  (case aR => repeat (exact (Kd.C_below HR1.out HB.out)))
                  (case aB => exact HB.out)
                  (case aF => exact (fun _ _ => trivial))
                  (case aO => exact HO511.out)
                  (case aS => exact (below_size HB.out))
                  (case aL => have := LMc10.out; omega)
                  intro v513 w23 ho hb hg hat
                  rw [← Ny512.out] at ho
                  replace BK505 := am (blk_grown BK505.out hg (Kd.R_ne HO511.out BK505.out (by decide)))
                  replace HO523 := am (Kd.R_over' HO523.out (Kd.R_typed HO511.out) (by decide) hg)
                  replace HB := am (hb)
                  have HO514 := am (ho)
                  clear HO511 ho hb hg hat
                  refine hK.out _ _ trivial (fun hHeld => ?_)
                  clear hK K
                  refine norm_ (a' := ?_) ?_ ?_
                  rotate_left
                  ·show Act.put _ (some 25) _ = _
                   simp only [Act.put, s2_, s0_, s1_, i64_w, i32_w]
                   rfl
                  exact norm_ (by (simp only [putAll, Act.put, s2_, s0_, s1_]; done)) (hJ1_3_9 (v510, v513, v522) _ ⟨HO514.out, HO523.out, BK505.out, HB.out⟩)
                 ·skip
                  refine Kd.R_lit_step k60 _ 60 ?hg (N := 26) ?hd (xs := ([] : List (S60))) (inner := []) (ok := fun _ => True) (okp := fun _ => True) ?hr ?hp (fun _ hk => hk) trivial (Below.refl _ _) (Nat.le_refl _) (by simp) ?_; (case hd => rfl); (case hg => rfl); (case hr => (go_simp; done)); (case hp => exact (Reps.none _ _))
                  intro v516 w23 ho24 hb hg_ hnew_
                  clear hg_ hnew_
                  (rw [← Ny515.out] at ho24)
                  replace HO523 := am (Kd.R_below HO523.out hb)
                  have HO517 := am (Kd.R_lower (Kd.R_new' ho24 (Kd.R_lt HO511.out)) (below_size HB.out))
                  replace HO511 := am (Kd.R_elder' HO511.out (Kd.R_base ho24) hb)
                  replace BK505 := am (blk_below BK505.out hb)
                  replace HB := am (below_step HB.out hb)
                  clear hb ho24
                  refine hK.out _ _ trivial (fun hHeld => ?_)
                  clear hK K
                  refine norm_ (a' := ?_) ?_ ?_
                  rotate_left
                  ·show Act.put _ (some 26) _ = _
                   simp only [Act.put, s2_, s0_, s1_, i64_w, i32_w]
                   rfl
                  exact norm_ (by (simp only [putAll, Act.put, s2_, s0_, s1_]; done)) (hJ1_4_9 (v510, v516, v522) _ ⟨(by exact Kd.R_mono HO511.out (fun _ hk => hk.2)), (by exact Kd.R_mono HO517.out (fun _ hk => hk.2)), HO523.out, BK505.out, HB.out⟩)
               ·skip
                rintro ⟨v510, v516⟩ w22 ⟨h0_, h1_, h2_, h3_⟩
                have HO511 : Aside0 (Kd.R k60 60 w22 w.heap.size (fun k_ => some k_ ≠ (v516 : Value).ownBlock) v510 y509) := ⟨h0_⟩
                have HO517 : Aside0 (Kd.R k60 60 w22 w.heap.size (fun k_ => some k_ ≠ (v510 : Value).ownBlock) v516 y515) := ⟨h1_⟩
                replace BK505 : Aside0 (w22.heap[gb505]? = some (.cells #[.int .i64 0, .slice none 0 0, .slice none 0 0, .slice none 0 0, .int .i64 0] 40 (0, 0))) := ⟨h2_⟩
                replace HB : Aside0 (Below w.heap.size w w22) := ⟨h3_⟩
                clear h0_ h1_ h2_ h3_
                have hHeld := trivial
                refine norm_ (a' := ?_) ?_ ?_
                rotate_left
                ·simp only [putAll, Act.put, s2_, s0_, s1_]
                 rfl
                refine two_ (i := 3) (j := 9) (Ni := some 25) (Nj := some 31) #[true, true, true, true, true, true, false, true, true, false, false, false, false] #[true, true, true, false, true, true, false, true, true, true, false, false, false] rfl rfl rfl rfl (two_of HT_.out (by kernel_rfl)) (by decide) (by decide) (fun K hK => ?_) (fun K hK => ?_)
                ·skip
                 refine Kd.R_append_rows_step k60 (w0 := w) w.heap.size rfl (.tmp 23) (.tmp 24) 24 60 (.agg #[(.int .i64 0), (.int .i64 0), (.int .i64 0)]) 24 rfl Try.underlying24 info60 rfl (by decide) (by omega) v510 y509 l1 _ _ _ (fun k_ => some k_ ≠ (v516 : Value).ownBlock) (fun _ => False) rfl rfl ?aO ?aR (fun _ _ h => h) (fun _ h => h.elim) ?aF ?aB ?aS ?aL ?_
                 (case aR => repeat (exact (Kd.C_below HR1.out HB.out)))
                 (case aB => exact HB.out)
                 (case aF => exact (fun k_ hk => Kd.fresh' (Kd.R_lt HO517.out) k_ hk))
                 (case aO => exact HO511.out)
                 (case aS => exact (below_size HB.out))
                 (case aL => have := LMc10.out; omega)
                 intro v513 w23 ho hb hg hat
                 rw [← Ny512.out] at ho
                 replace BK505 := am (blk_grown BK505.out hg (Kd.R_ne HO511.out BK505.out (by decide)))
                 replace HO517 := am (Kd.R_after (ok := (fun _ => True)) (by exact Kd.R_mono HO517.out (fun _ hk => ⟨trivial, hk⟩)) hg hat)
                 replace HB := am (hb)
                 have HO514 := am (ho)
                 clear HO511 ho hb hg hat
                 refine hK.out _ _ trivial (fun hHeld => ?_)
                 clear hK K
                 refine norm_ (a' := ?_) ?_ ?_
                 rotate_left
                 ·show Act.put _ (some 25) _ = _
                  simp only [Act.put, s2_, s0_, s1_, i64_w, i32_w]
                  rfl
                 exact norm_ (by (simp only [putAll, Act.put, s2_, s0_, s1_]; done)) (hJ1_3_4 (v510, v513, v516) _ ⟨HO514.out, (by exact Kd.R_mono HO517.out (fun _ hk => hk.2)), BK505.out, HB.out⟩)
                ·skip
                 refine Kd.R_make_step Kd.bool _ 4 rfl (N := 31) rfl 38 _ _ rfl (l1.length : Int) rfl rfl Try.underlying38 (.bool false) 1 info4 rfl (by decide) (by omega) false (ok := fun _ => True) (okp := fun _ => True) rfl (fun _ hk => hk) trivial (of_decide_eq_true (by (with_reducible assumption))) (Nat.le_trans (Nat.mul_le_mul_right _ (of_decide_eq_true (by (with_reducible assumption)) : (l1.length : Int).toNat ≤ 281474976710656)) (by omega)) (Below.refl _ _) (Nat.le_refl _) ?_
                 intro v522 w23 ho24 hb hg_ hnew_
                 clear hg_ hnew_
                 (rw [← Ny521.out] at ho24)
                 replace HO511 := am (Kd.R_below HO511.out hb)
                 replace HO517 := am (Kd.R_below HO517.out hb)
                 have HO523 := am (Kd.R_lower ho24 (below_size HB.out))
                 replace BK505 := am (blk_below BK505.out hb)
                 replace HB := am (below_step HB.out hb)
                 clear hb ho24
                 refine hK.out _ _ trivial (fun hHeld => ?_)
                 clear hK K
                 refine norm_ (a' := ?_) ?_ ?_
                 rotate_left
                 ·show Act.put _ (some 31) _ = _
                  simp only [Act.put, s2_, s0_, s1_, i64_w, i32_w]
                  rfl
                 exact norm_ (by (simp only [putAll, Act.put, s2_, s0_, s1_]; done)) (hJ1_4_9 (v510, v516, v522) _ ⟨HO511.out, HO517.out, HO523.out, BK505.out, HB.out⟩)
              ·skip
               rintro ⟨v510, v513⟩ w21 ⟨h0_, h1_, h2_⟩
               have HO514 : Aside0 (Kd.R k60 60 w21 w.heap.size (fun _ => True) v513 y512) := ⟨h0_⟩
               replace BK505 : Aside0 (w21.heap[gb505]? = some (.cells #[.int .i64 0, .slice none 0 0, .slice none 0 0, .slice none 0 0, .int .i64 0] 40 (0, 0))) := ⟨h1_⟩
               replace HB : Aside0 (Below w.heap.size w w21) := ⟨h2_⟩
               clear h0_ h1_ h2_
               have hHeld := trivial
               refine norm_ (a' := ?_) ?_ ?_
               rotate_left
               ·simp only [putAll, Act.put, s2_, s0_, s1_]
                rfl
               refine two_ (i := 4) (j := 9) (Ni := some 26) (Nj := some 31) #[true, true, true, true, true, true, false, true, true, false, false, false, false] #[true, true, true, true, false, true, false, true, true, true, false, false, false] rfl rfl rfl rfl (two_of HT_.out (by kernel_rfl)) (by decide) (by decide) (fun K hK => ?_) (fun K hK => ?_)
               ·skip
                refine Kd.R_lit_step k60 _ 60 ?hg (N := 26) ?hd (xs := ([] : List (S60))) (inner := []) (ok := fun _ => True) (okp := fun _ => True) ?hr ?hp (fun _ hk => hk) trivial (Below.refl _ _) (Nat.le_refl _) (by simp) ?_; (case hd => rfl); (case hg => rfl); (case hr => (go_simp; done)); (case hp => exact (Reps.none _ _))
                intro v516 w22 ho23 hb hg_ hnew_
                clear hg_ hnew_
                (rw [← Ny515.out] at ho23)
                have HO517 := am (Kd.R_lower (Kd.R_new' ho23 (Kd.R_lt HO514.out)) (below_size HB.out))
                replace HO514 := am (Kd.R_elder' HO514.out (Kd.R_base ho23) hb)
                replace BK505 := am (blk_below BK505.out hb)
                replace HB := am (below_step HB.out hb)
                clear hb ho23
                refine hK.out _ _ trivial (fun hHeld => ?_)
                clear hK K
                refine norm_ (a' := ?_) ?_ ?_
                rotate_left
                ·show Act.put _ (some 26) _ = _
                 simp only [Act.put, s2_, s0_, s1_, i64_w, i32_w]
                 rfl
                exact norm_ (by (simp only [putAll, Act.put, s2_, s0_, s1_]; done)) (hJ1_3_4 (v510, v513, v516) _ ⟨(by exact Kd.R_mono HO514.out (fun _ hk => hk.2)), (by exact Kd.R_mono HO517.out (fun _ hk => hk.2)), BK505.out, HB.out⟩)
               ·skip
                refine Kd.R_make_step Kd.bool _ 4 rfl (N := 31) rfl 38 _ _ rfl (l1.length : Int) rfl rfl Try.underlying38 (.bool false) 1 info4 rfl (by decide) (by omega) false (ok := fun _ => True) (okp := fun _ => True) rfl (fun _ hk => hk) trivial (of_decide_eq_true (by (with_reducible assumption))) (Nat.le_trans (Nat.mul_le_mul_right _ (of_decide_eq_true (by (with_reducible assumption)) : (l1.length : Int).toNat ≤ 281474976710656)) (by omega)) (Below.refl _ _) (Nat.le_refl _) ?_
                intro v522 w22 ho23 hb hg_ hnew_
                clear hg_ hnew_
                (rw [← Ny521.out] at ho23)
                replace HO514 := am (Kd.R_below HO514.out hb)
                have HO523 := am (Kd.R_lower ho23 (below_size HB.out))
                replace BK505 := am (blk_below BK505.out hb)
                replace HB := am (below_step HB.out hb)
                clear hb ho23
                refine hK.out _ _ trivial (fun hHeld => ?_)
                clear hK K
                refine norm_ (a' := ?_) ?_ ?_
                rotate_left
                ·show Act.put _ (some 31) _ = _
                 simp only [Act.put, s2_, s0_, s1_, i64_w, i32_w]
                 rfl
                exact norm_ (by (simp only [putAll, Act.put, s2_, s0_, s1_]; done)) (hJ1_3_9 (v510, v513, v522) _ ⟨HO514.out, HO523.out, BK505.out, HB.out⟩)
             ·skip
              rintro ⟨v510, v516, v522⟩ w24 ⟨h0_, h1_, h2_, h3_, h4_⟩
              have HO511 : Aside0 (Kd.R k60 60 w24 w.heap.size (fun k_ => some k_ ≠ (v516 : Value).ownBlock) v510 y509) := ⟨h0_⟩
              have HO517 : Aside0 (Kd.R k60 60 w24 w.heap.size (fun k_ => some k_ ≠ (v510 : Value).ownBlock) v516 y515) := ⟨h1_⟩
              have HO523 : Aside0 (Kd.R Kd.bool 4 w24 w.heap.size (fun _ => True) v522 y521) := ⟨h2_⟩
              replace BK505 : Aside0 (w24.heap[gb505]? = some (.cells #[.int .i64 0, .slice none 0 0, .slice none 0 0, .slice none 0 0, .int .i64 0] 40 (0, 0))) := ⟨h3_⟩
              replace HB : Aside0 (Below w.heap.size w w24) := ⟨h4_⟩
              clear h0_ h1_ h2_ h3_ h4_
              have hHeld := trivial
              refine norm_ (a' := ?_) ?_ ?_
              rotate_left
              ·simp only [putAll, Act.put, s2_, s0_, s1_]
               rfl
              refine one_ (i := 3) (N := some 25) #[true, true, true, true, true, true, false, true, true, true, false, false, false] rfl rfl (one_of HT_.out (by kernel_rfl)) (by decide) (fun K hK => ?_)
              refine Kd.R_append_rows_step k60 (w0 := w) w.heap.size rfl (.tmp 23) (.tmp 24) 24 60 (.agg #[(.int .i64 0), (.int .i64 0), (.int .i64 0)]) 24 rfl Try.underlying24 info60 rfl (by decide) (by omega) v510 y509 l1 _ _ _ (fun k_ => some k_ ≠ (v516 : Value).ownBlock) (fun _ => False) rfl rfl ?aO ?aR (fun _ _ h => h) (fun _ h => h.elim) ?aF ?aB ?aS ?aL ?_
              (case aR => repeat (exact (Kd.C_below HR1.out HB.out)))
              (case aB => exact HB.out)
              (case aF => exact (fun k_ hk => Kd.fresh' (Kd.R_lt HO517.out) k_ hk))
              (case aO => exact HO511.out)
              (case aS => exact (below_size HB.out))
              (case aL => have := LMc10.out; omega)
              intro v513 w25 ho hb hg hat
              rw [← Ny512.out] at ho
              replace BK505 := am (blk_grown BK505.out hg (Kd.R_ne HO511.out BK505.out (by decide)))
              replace HO517 := am (Kd.R_after (ok := (fun _ => True)) (by exact Kd.R_mono HO517.out (fun _ hk => ⟨trivial, hk⟩)) hg hat)
              replace HO523 := am (Kd.R_over' HO523.out (Kd.R_typed HO511.out) (by decide) hg)
              replace HB := am (hb)
              have HO514 := am (ho)
              clear HO511 ho hb hg hat
              refine hK.out _ _ trivial (fun hHeld => ?_)
              clear hK K
              refine norm_ (a' := ?_) ?_ ?_
              rotate_left
              ·show Act.put _ (some 25) _ = _
               simp only [Act.put, s2_, s0_, s1_, i64_w, i32_w]
               rfl
              exact norm_ (by (simp only [putAll, Act.put, s2_, s0_, s1_]; done)) (hJ1_3_4_9 (v510, v513, v516, v522) _ ⟨HO514.out, (by exact Kd.R_mono HO517.out (fun _ hk => hk.2)), HO523.out, BK505.out, HB.out⟩)
            ·skip
             rintro ⟨v510, v513, v522⟩ w23 ⟨h0_, h1_, h2_, h3_⟩
             have HO514 : Aside0 (Kd.R k60 60 w23 w.heap.size (fun _ => True) v513 y512) := ⟨h0_⟩
             have HO523 : Aside0 (Kd.R Kd.bool 4 w23 w.heap.size (fun _ => True) v522 y521) := ⟨h1_⟩
             replace BK505 : Aside0 (w23.heap[gb505]? = some (.cells #[.int .i64 0, .slice none 0 0, .slice none 0 0, .slice none 0 0, .int .i64 0] 40 (0, 0))) := ⟨h2_⟩
             replace HB : Aside0 (Below w.heap.size w w23) := ⟨h3_⟩
             clear h0_ h1_ h2_ h3_
             have hHeld := trivial
             refine norm_ (a' := ?_) ?_ ?_
             rotate_left
             ·simp only [putAll, Act.put, s2_, s0_, s1_]
              rfl
             refine one_ (i := 4) (N := some 26) #[true, true, true, true, true, true, false, true, true, true, false, false, false] rfl rfl (one_of HT_.out (by kernel_rfl)) (by decide) (fun K hK => ?_)
             refine Kd.R_lit_step k60 _ 60 ?hg (N := 26) ?hd (xs := ([] : List (S60))) (inner := []) (ok := fun _ => True) (okp := fun _ => True) ?hr ?hp (fun _ hk => hk) trivial (Below.refl _ _) (Nat.le_refl _) (by simp) ?_; (case hd => rfl); (case hg => rfl); (case hr => (go_simp; done)); (case hp => exact (Reps.none _ _))
             intro v516 w24 ho25 hb hg_ hnew_
             clear hg_ hnew_
             (rw [← Ny515.out] at ho25)
             replace HO523 := am (Kd.R_below HO523.out hb)
             have HO517 := am (Kd.R_lower (Kd.R_new' ho25 (Kd.R_lt HO514.out)) (below_size HB.out))
             replace HO514 := am (Kd.R_elder' HO514.out (Kd.R_base ho25) hb)
             replace BK505 := am (blk_below BK505.out hb)
             replace HB := am (below_step HB.out hb)
             clear hb ho25
             refine hK.out _ _ trivial (fun hHeld => ?_)
             clear hK K
             refine norm_ (a' := ?_) ?_ ?_
             rotate_left
             ·show Act.put _ (some 26) _ = _
              simp only [Act.put, s2_, s0_, s1_, i64_w, i32_w]
              rfl
             exact norm_ (by (simp only [putAll, Act.put, s2_, s0_, s1_]; done)) (hJ1_3_4_9 (v510, v513, v516, v522) _ ⟨(by exact Kd.R_mono HO514.out (fun _ hk => hk.2)), (by exact Kd.R_mono HO517.out (fun _ hk => hk.2)), HO523.out, BK505.out, HB.out⟩)
           ·skip
            rintro ⟨v510, v513, v516⟩ w23 ⟨h0_, h1_, h2_, h3_⟩
            have HO514 : Aside0 (Kd.R k60 60 w23 w.heap.size (fun k_ => some k_ ≠ (v516 : Value).ownBlock) v513 y512) := ⟨h0_⟩
            have HO517 : Aside0 (Kd.R k60 60 w23 w.heap.size (fun k_ => some k_ ≠ (v513 : Value).ownBlock) v516 y515) := ⟨h1_⟩
            replace BK505 : Aside0 (w23.heap[gb505]? = some (.cells #[.int .i64 0, .slice none 0 0, .slice none 0 0, .slice none 0 0, .int .i64 0] 40 (0, 0))) := ⟨h2_⟩
            replace HB : Aside0 (Below w.heap.size w w23) := ⟨h3_⟩
            clear h0_ h1_ h2_ h3_
            have hHeld := trivial
            refine norm_ (a' := ?_) ?_ ?_
            rotate_left
            ·simp only [putAll, Act.put, s2_, s0_, s1_]
             rfl
            refine two_ (i := 6) (j := 9) (Ni := some 28) (Nj := some 31) #[true, true, true, true, true, true, true, true, true, false, false, false, false] #[true, true, true, true, true, true, false, true, true, true, false, false, false] rfl rfl rfl rfl (two_of HT_.out (by kernel_rfl)) (by decide) (by decide) (fun K hK => ?_) (fun K hK => ?_)
            ·skip
             refine Kd.R_append_rows_step k60 (w0 := w) w.heap.size rfl (.tmp 26) (.tmp 27) 24 60 (.agg #[(.int .i64 0), (.int .i64 0), (.int .i64 0)]) 24 rfl Try.underlying24 info60 rfl (by decide) (by omega) v516 y515 l2 _ _ _ (fun k_ => some k_ ≠ (v513 : Value).ownBlock) (fun _ => False) rfl rfl ?aO ?aR (fun _ _ h => h) (fun _ h => h.elim) ?aF ?aB ?aS ?aL ?_
             (case aR => repeat (exact (Kd.C_below HR2.out HB.out)))
             (case aB => exact HB.out)
             (case aF => exact (fun k_ hk => Kd.fresh' (Kd.R_lt HO514.out) k_ hk))
             (case aO => exact HO517.out)
             (case aS => exact (below_size HB.out))
             (case aL => have := LMc11.out; omega)
             intro v519 w24 ho hb hg hat
             rw [← Ny518.out] at ho
             replace BK505 := am (blk_grown BK505.out hg (Kd.R_ne HO517.out BK505.out (by decide)))
             replace HO514 := am (Kd.R_after (ok := (fun _ => True)) (by exact Kd.R_mono HO514.out (fun _ hk => ⟨trivial, hk⟩)) hg hat)
             replace HB := am (hb)
             have HO520 := am (ho)
             clear HO517 ho hb hg hat
             refine hK.out _ _ trivial (fun hHeld => ?_)
             clear hK K
             refine norm_ (a' := ?_) ?_ ?_
             rotate_left
             ·show Act.put _ (some 28) _ = _
              simp only [Act.put, s2_, s0_, s1_, i64_w, i32_w]
              rfl
             exact norm_ (by (simp only [putAll, Act.put, s2_, s0_, s1_]; done)) (hJ1_3_4_6 (v510, v513, v516, v519) _ ⟨(by exact Kd.R_mono HO514.out (fun _ hk => hk.2)), HO520.out, BK505.out, HB.out⟩)
            ·skip
             refine Kd.R_make_step Kd.bool _ 4 rfl (N := 31) rfl 38 _ _ rfl (l1.length : Int) rfl rfl Try.underlying38 (.bool false) 1 info4 rfl (by decide) (by omega) false (ok := fun _ => True) (okp := fun _ => True) rfl (fun _ hk => hk) trivial (of_decide_eq_true (by (with_reducible assumption))) (Nat.le_trans (Nat.mul_le_mul_right _ (of_decide_eq_true (by (with_reducible assumption)) : (l1.length : Int).toNat ≤ 281474976710656)) (by omega)) (Below.refl _ _) (Nat.le_refl _) ?_
             intro v522 w24 ho25 hb hg_ hnew_
             clear hg_ hnew_
             (rw [← Ny521.out] at ho25)
             replace HO514 := am (Kd.R_below HO514.out hb)
             replace HO517 := am (Kd.R_below HO517.out hb)
             have HO523 := am (Kd.R_lower ho25 (below_size HB.out))
             replace BK505 := am (blk_below BK505.out hb)
             replace HB := am (below_step HB.out hb)
             clear hb ho25
             refine hK.out _ _ trivial (fun hHeld => ?_)
             clear hK K
             refine norm_ (a' := ?_) ?_ ?_
             rotate_left
             ·show Act.put _ (some 31) _ = _
              simp only [Act.put, s2_, s0_, s1_, i64_w, i32_w]
              rfl
             exact norm_ (by (simp only [putAll, Act.put, s2_, s0_, s1_]; done)) (hJ1_3_4_9 (v510, v513, v516, v522) _ ⟨HO514.out, HO517.out, HO523.out, BK505.out, HB.out⟩)
          ·skip
           rintro ⟨v510, v513, v516, v522⟩ w25 ⟨h0_, h1_, h2_, h3_, h4_⟩
           have HO514 : Aside0 (Kd.R k60 60 w25 w.heap.size (fun k_ => some k_ ≠ (v516 : Value).ownBlock) v513 y512) := ⟨h0_⟩
           have HO517 : Aside0 (Kd.R k60 60 w25 w.heap.size (fun k_ => some k_ ≠ (v513 : Value).ownBlock) v516 y515) := ⟨h1_⟩
           have HO523 : Aside0 (Kd.R Kd.bool 4 w25 w.heap.size (fun _ => True) v522 y521) := ⟨h2_⟩
           replace BK505 : Aside0 (w25.heap[gb505]? = some (.cells #[.int .i64 0, .slice none 0 0, .slice none 0 0, .slice none 0 0, .int .i64 0] 40 (0, 0))) := ⟨h3_⟩
           replace HB : Aside0 (Below w.heap.size w w25) := ⟨h4_⟩
           clear h0_ h1_ h2_ h3_ h4_
           have hHeld := trivial
           refine norm_ (a' := ?_) ?_ ?_
           rotate_left
           ·simp only [putAll, Act.put, s2_, s0_, s1_]
            rfl
           refine one_ (i := 6) (N := some 28) #[true, true, true, true, true, true, true, true, true, true, false, false, false] rfl rfl (one_of HT_.out (by kernel_rfl)) (by decide) (fun K hK => ?_)
           refine Kd.R_append_rows_step k60 (w0 := w) w.heap.size rfl (.tmp 26) (.tmp 27) 24 60 (.agg #[(.int .i64 0), (.int .i64 0), (.int .i64 0)]) 24 rfl Try.underlying24 info60 rfl (by decide) (by omega) v516 y515 l2 _ _ _ (fun k_ => some k_ ≠ (v513 : Value).ownBlock) (fun _ => False) rfl rfl ?aO ?aR (fun _ _ h => h) (fun _ h => h.elim) ?aF ?aB ?aS ?aL ?_
           (case aR => repeat (exact (Kd.C_below HR2.out HB.out)))
           (case aB => exact HB.out)
           (case aF => exact (fun k_ hk => Kd.fresh' (Kd.R_lt HO514.out) k_ hk))
           (case aO => exact HO517.out)
           (case aS => exact (below_size HB.out))
           (case aL => have := LMc11.out; omega)
           intro v519 w26 ho hb hg hat
           rw [← Ny518.out] at ho
           replace BK505 := am (blk_grown BK505.out hg (Kd.R_ne HO517.out BK505.out (by decide)))
           replace HO514 := am (Kd.R_after (ok := (fun _ => True)) (by exact Kd.R_mono HO514.out (fun _ hk => ⟨trivial, hk⟩)) hg hat)
           replace HO523 := am (Kd.R_over' HO523.out (Kd.R_typed HO517.out) (by decide) hg)
           replace HB := am (hb)
           have HO520 := am (ho)
           clear HO517 ho hb hg hat
           obtain ⟨Ao27, co27, eo27⟩ := Kd.R_slice HO523.out
           (subst eo27)
           obtain ⟨Ao28, co28, eo28⟩ := Kd.R_slice HO520.out
           (subst eo28)
           obtain ⟨Ao29, co29, eo29⟩ := Kd.R_slice HO514.out
           (subst eo29)
           refine hK.out _ _ trivial (fun hHeld => ?_)
           clear hK K
           refine norm_ (a' := ?_) ?_ ?_
           rotate_left
           ·show Act.put _ (some 28) _ = _
            simp only [Act.put, s2_, s0_, s1_, i64_w, i32_w]
            rfl
           exact norm_ (by (simp only [putAll, Act.put, s2_, s0_, s1_]; done)) (hJ1_3_4_6_9 (v510, .slice Ao29 y512.length co29, v516, .slice Ao28 y518.length co28, .slice Ao27 y521.length co27) _ ⟨(by exact Kd.R_mono HO514.out (fun _ hk => hk.2)), HO520.out, HO523.out, BK505.out, HB.out⟩)
         ·skip
          rintro ⟨v510, v513, v516, v519⟩ w24 ⟨h0_, h1_, h2_, h3_⟩
          have HO514 : Aside0 (Kd.R k60 60 w24 w.heap.size (fun k_ => some k_ ≠ (v519 : Value).ownBlock) v513 y512) := ⟨h0_⟩
          have HO520 : Aside0 (Kd.R k60 60 w24 w.heap.size (fun k_ => some k_ ≠ (v513 : Value).ownBlock) v519 y518) := ⟨h1_⟩
          replace BK505 : Aside0 (w24.heap[gb505]? = some (.cells #[.int .i64 0, .slice none 0 0, .slice none 0 0, .slice none 0 0, .int .i64 0] 40 (0, 0))) := ⟨h2_⟩
          replace HB : Aside0 (Below w.heap.size w w24) := ⟨h3_⟩
          clear h0_ h1_ h2_ h3_
          have hHeld := trivial
          refine norm_ (a' := ?_) ?_ ?_
          rotate_left
          ·simp only [putAll, Act.put, s2_, s0_, s1_]
           rfl
          refine one_ (i := 9) (N := some 31) #[true, true, true, true, true, true, true, true, true, true, false, false, false] rfl rfl (one_of HT_.out (by kernel_rfl)) (by decide) (fun K hK => ?_)
          refine Kd.R_make_step Kd.bool _ 4 rfl (N := 31) rfl 38 _ _ rfl (l1.length : Int) rfl rfl Try.underlying38 (.bool false) 1 info4 rfl (by decide) (by omega) false (ok := fun _ => True) (okp := fun _ => True) rfl (fun _ hk => hk) trivial (of_decide_eq_true (by (with_reducible assumption))) (Nat.le_trans (Nat.mul_le_mul_right _ (of_decide_eq_true (by (with_reducible assumption)) : (l1.length : Int).toNat ≤ 281474976710656)) (by omega)) (Below.refl _ _) (Nat.le_refl _) ?_
          intro v522 w25 ho26 hb hg_ hnew_
          clear hg_ hnew_
          (rw [← Ny521.out] at ho26)
          replace HO514 := am (Kd.R_below HO514.out hb)
          replace HO520 := am (Kd.R_below HO520.out hb)
          have HO523 := am (Kd.R_lower ho26 (below_size HB.out))
          replace BK505 := am (blk_below BK505.out hb)
          replace HB := am (below_step HB.out hb)
          clear hb ho26
          obtain ⟨Ao27, co27, eo27⟩ := Kd.R_slice HO523.out
          (subst eo27)
          obtain ⟨Ao28, co28, eo28⟩ := Kd.R_slice HO520.out
          (subst eo28)
          obtain ⟨Ao29, co29, eo29⟩ := Kd.R_slice HO514.out
          (subst eo29)
          refine hK.out _ _ trivial (fun hHeld => ?_)
          clear hK K
          refine norm_ (a' := ?_) ?_ ?_
          rotate_left
          ·show Act.put _ (some 31) _ = _
           simp only [Act.put, s2_, s0_, s1_, i64_w, i32_w]
           rfl
          exact norm_ (by (simp only [putAll, Act.put, s2_, s0_, s1_]; done)) (hJ1_3_4_6_9 (v510, .slice Ao29 y512.length co29, v516, .slice Ao28 y518.length co28, .slice Ao27 y521.length co27) _ ⟨HO514.out, HO520.out, HO523.out, BK505.out, HB.out⟩)
        rintro ⟨v510, v513, v516, v519, v522⟩ w29 ⟨h0_, h1_, h2_, h3_, h4_⟩
        have HO514 : Aside0 (Kd.R k60 60 w29 w.heap.size (fun k_ => some k_ ≠ (v519 : Value).ownBlock) v513 y512) := ⟨h0_⟩
        have HO520 : Aside0 (Kd.R k60 60 w29 w.heap.size (fun k_ => some k_ ≠ (v513 : Value).ownBlock) v519 y518) := ⟨h1_⟩
        have HO523 : Aside0 (Kd.R Kd.bool 4 w29 w.heap.size (fun _ => True) v522 y521) := ⟨h2_⟩
        replace BK505 : Aside0 (w29.heap[gb505]? = some (.cells #[.int .i64 0, .slice none 0 0, .slice none 0 0, .slice none 0 0, .int .i64 0] 40 (0, 0))) := ⟨h3_⟩
        replace HB : Aside0 (Below w.heap.size w w29) := ⟨h4_⟩
        clear h0_ h1_ h2_ h3_ h4_
        have hHeld := trivial
        obtain ⟨Ao30, co30, eo30⟩ := Kd.R_slice HO523.out
        (subst eo30)
        obtain ⟨Ao31, co31, eo31⟩ := Kd.R_slice HO520.out
        (subst eo31)
        obtain ⟨Ao32, co32, eo32⟩ := Kd.R_slice HO514.out
        (subst eo32)
        refine norm_ (a' := ?_) ?_ ?_
        rotate_left
        ·simp only [putAll, Act.put, s2_, s0_, s1_]
         rfl
        refine pure_ (i := 10) (N := some 32) (v := ?_) (a' := ?_) #[true, true, true, true, true, true, true, true, true, true, true, false, false] rfl rfl (any_of HT_.out (by kernel_rfl)) (fun _ _ _ h => h) (Or.inl ⟨rfl, ?_⟩) ?_ ?_
        rotate_left
        ·intro w'
         go_simp
         with_reducible rfl
        rotate_left
        ·simp only [Act.put, s2_, s0_, s1_, i64_w, i32_w]
         rfl
        refine one_ (i := 11) (N := none) #[true, true, true, true, true, true, true, true, true, true, true, true, false] rfl rfl (one_of HT_.out (by kernel_rfl)) (by decide) (fun K hK => ?_)
        have hs33 : w29.cell? ⟨gb505, 0, none⟩ = some (.int .i64 0) := (blk_cell BK505.out 0).trans rfl
        have hfs33 := blk_frozen BK505.out 0
        have hs34 : w29.cell? ⟨gb505, 1, none⟩ = some (.slice none 0 0) := (blk_cell BK505.out 1).trans rfl
        have hfs34 := blk_frozen BK505.out 1
        have hs35 : w29.cell? ⟨gb505, 2, none⟩ = some (.slice none 0 0) := (blk_cell BK505.out 2).trans rfl
        have hfs35 := blk_frozen BK505.out 2
        have hs36 : w29.cell? ⟨gb505, 3, none⟩ = some (.slice none 0 0) := (blk_cell BK505.out 3).trans rfl
        have hfs36 := blk_frozen BK505.out 3
        have hs37 : w29.cell? ⟨gb505, 4, none⟩ = some (.int .i64 0) := (blk_cell BK505.out 4).trans rfl
        have hfs37 := blk_frozen BK505.out 4
        refine skip_ (w1 := ?_) rfl rfl ?_ ?_
        rotate_left
        ·go_simp
         rfl
        refine hK.out _ _ trivial (fun hHeld => ?_)
        clear hK K
        refine pure_ (i := 12) (N := some 7) (v := ?_) (a' := ?_) #[true, true, true, true, true, true, true, true, true, true, true, true, true] rfl rfl (any_of HT_.out (by kernel_rfl)) (fun _ _ _ h => h) (Or.inl ⟨rfl, ?_⟩) ?_ ?_
        rotate_left
        ·intro w'
         go_simp
         with_reducible rfl
        rotate_left
        ·simp only [Act.put, s2_, s0_, s1_, i64_w, i32_w]
         rfl
        refine done_ (done_of HT_.out (by kernel_rfl)) ?_
        try go_wp2
        refine bodyPost_ret (results_ct rfl _ _ gb505 40 #[.int .i64 a0, .slice Ao32 y512.length co32, .slice Ao31 y518.length co31, .slice Ao30 y521.length co30, .int .i64 0] (0, 0) _ rfl (by refine blk_put (cs := #[.int .i64 a0, .slice Ao32 y512.length co32, .slice Ao31 y518.length co31, .slice Ao30 y521.length co30, .int .i64 0]) ?_ 4 _ rfl; refine blk_put (cs := #[.int .i64 a0, .slice Ao32 y512.length co32, .slice Ao31 y518.length co31, .slice none 0 0, .int .i64 0]) ?_ 3 _ rfl; refine blk_put (cs := #[.int .i64 a0, .slice Ao32 y512.length co32, .slice none 0 0, .slice none 0 0, .int .i64 0]) ?_ 2 _ rfl; refine blk_put (cs := #[.int .i64 a0, .slice none 0 0, .slice none 0 0, .slice none 0 0, .int .i64 0]) ?_ 1 _ rfl; refine blk_put (cs := #[.int .i64 0, .slice none 0 0, .slice none 0 0, .slice none 0 0, .int .i64 0]) ?_ 0 _ rfl; exact BK505.out) Try.underlying40 rfl (by kernel_rfl)) rfl ?_
        exact ⟨_, _, _, rfl, by exact Kd.R_mono (Kd.R_far (p := ⟨gb505, 4, none⟩) (Kd.R_far (p := ⟨gb505, 3, none⟩) (Kd.R_far (p := ⟨gb505, 2, none⟩) (Kd.R_far (p := ⟨gb505, 1, none⟩) (Kd.R_far (p := ⟨gb505, 0, none⟩) (Kd.R_types HO514.out BK505.out (by decide)) (fun _ hk => hk.2) (.int .i64 a0)) (fun _ hk => hk.2) (.slice Ao32 y512.length co32)) (fun _ hk => hk.2) (.slice Ao31 y518.length co31)) (fun _ hk => hk.2) (.slice Ao30 y521.length co30)) (fun _ hk => hk.2) (.int .i64 0)) (fun _ hk => hk.1), by exact Kd.R_mono (Kd.R_far (p := ⟨gb505, 4, none⟩) (Kd.R_far (p := ⟨gb505, 3, none⟩) (Kd.R_far (p := ⟨gb505, 2, none⟩) (Kd.R_far (p := ⟨gb505, 1, none⟩) (Kd.R_far (p := ⟨gb505, 0, none⟩) (Kd.R_types HO520.out BK505.out (by decide)) (fun _ hk => hk.2) (.int .i64 a0)) (fun _ hk => hk.2) (.slice Ao32 y512.length co32)) (fun _ hk => hk.2) (.slice Ao31 y518.length co31)) (fun _ hk => hk.2) (.slice Ao30 y521.length co30)) (fun _ hk => hk.2) (.int .i64 0)) (fun _ hk => hk.1), by exact Kd.R_mono (Kd.R_far (p := ⟨gb505, 4, none⟩) (Kd.R_far (p := ⟨gb505, 3, none⟩) (Kd.R_far (p := ⟨gb505, 2, none⟩) (Kd.R_far (p := ⟨gb505, 1, none⟩) (Kd.R_far (p := ⟨gb505, 0, none⟩) (Kd.R_types HO523.out BK505.out (by decide)) (fun _ hk => hk.2) (.int .i64 a0)) (fun _ hk => hk.2) (.slice Ao32 y512.length co32)) (fun _ hk => hk.2) (.slice Ao31 y518.length co31)) (fun _ hk => hk.2) (.slice Ao30 y521.length co30)) (fun _ hk => hk.2) (.int .i64 0)) (fun _ hk => trivial), by repeat ((with_reducible first | exact HB.out | refine below_set ?_ GE505.out))⟩
       ·rw [if_neg c13] at H
        exact absurd H (by simp)
      ·rw [if_neg c12] at H
       exact absurd H (by simp)
     ·rw [if_neg c11] at H
      exact absurd H (by simp)
    ·rw [if_neg c10] at H
     exact absurd H (by simp)
   ·replace c9 := Bool.eq_false_iff.mpr c9
    subst c9
    rw [if_neg (show ¬ (false = true) by decide)] at H
    simp only [Option.some.injEq, Prod.mk.injEq] at H
    obtain ⟨rfl, rfl, rfl, rfl, rfl, rfl⟩ := H
    go_enter Try.func64, Try.ntmps64
    go_wp2_with (first | ((with_reducible refine gate_dst (N := 6) rfl ?_); refine box_event ?hg (N := 6) ?hd (cs := #[.int .i64 0, .slice none 0 0, .slice none 0 0, .slice none 0 0, .int .i64 0]) (t := 40) ?hr ?_; (case hd => rfl); (case hg => rfl); (case hr => (go_simp; done)); intro gb505 hg w38 hbox hb; have BK505 := am (hbox); have GW505 := am (gw_ hg HB.out); have GE505 := am (gw_ hg HB.out); replace HB := am (below_step HB.out hb); clear hb hbox hg) | ((with_reducible refine gate_callee (f := 47) rfl ?_); refine goesL_ (some 9) rfl rfl Try.func47 (by kernel_rfl) rfl #[.int .i64 a0] rfl (by (try simp only [List.map_toArray, List.map_cons, List.map_nil]); rfl) ?_; (with_reducible refine (spec_IsValidJoinKind.calls a0 true _ A4.out).mono ?_); rintro e w' ⟨rfl, ⟨nd, rfl⟩⟩; refine ⟨_, rfl, ?_⟩; (try (rw [drewN_self w38]; generalize hq_ : World.drewN w38 _ = w38; replace BK505 : Aside0 (w38.heap[gb505]? = some (.cells #[.int .i64 0, .slice none 0 0, .slice none 0 0, .slice none 0 0, .int .i64 0] 40 (0, 0))) := ⟨by rw [← hq_]; exact (by (with_reducible repeat (refine blk_drewN ?_ _)); exact BK505.out)⟩; replace HB : Aside0 (Below w.heap.size w w38) := ⟨by rw [← hq_]; exact (by repeat (with_reducible first | exact HB.out | apply pw_below_drewN))⟩; clear hq_))) | (go_at_call 46; (with_reducible refine (spec_AreValidRows.calls k _ _ l1 true _ ?side1 ?side2 A6.out).mono ?_); (case side1 => repeat (exact (Kd.C_below HR1.out HB.out))); (case side2 => exact HC1.out); rintro e w39 ⟨rfl, hb⟩; replace BK505 := am (blk_below BK505.out hb); replace HB := am (below_step HB.out hb); (try clear hb)) | (go_at_call 46; (with_reducible refine (spec_AreValidRows.calls k _ _ l2 false _ ?side1 ?side2 A8.out).mono ?_); (case side1 => repeat (exact (Kd.C_below HR2.out HB.out))); (case side2 => exact HC2.out); rintro e w40 ⟨rfl, hb⟩; replace BK505 := am (blk_below BK505.out hb); replace HB := am (below_step HB.out hb); (try clear hb); obtain ⟨hcz41_0, hcz41_1, hcz41_2, hcz41_3, hcz41_4, hfz41_0, hfz41_1, hfz41_2, hfz41_3, hfz41_4⟩ := cells5_ BK505.out))
    refine bodyPost_ret (results_ct rfl _ _ gb505 40 #[.int .i64 0, .slice none 0 0, .slice none 0 0, .slice none 0 0, .int .i64 0] (0, 0) _ rfl (by refine blk_put (cs := #[.int .i64 0, .slice none 0 0, .slice none 0 0, .slice none 0 0, .int .i64 0]) ?_ 4 _ rfl; refine blk_put (cs := #[.int .i64 0, .slice none 0 0, .slice none 0 0, .slice none 0 0, .int .i64 0]) ?_ 3 _ rfl; refine blk_put (cs := #[.int .i64 0, .slice none 0 0, .slice none 0 0, .slice none 0 0, .int .i64 0]) ?_ 2 _ rfl; refine blk_put (cs := #[.int .i64 0, .slice none 0 0, .slice none 0 0, .slice none 0 0, .int .i64 0]) ?_ 1 _ rfl; refine blk_put (cs := #[.int .i64 0, .slice none 0 0, .slice none 0 0, .slice none 0 0, .int .i64 0]) ?_ 0 _ rfl; exact BK505.out) Try.underlying40 rfl (by kernel_rfl)) rfl ?_
    exact ⟨_, _, _, rfl, by exact Kd.R_nil _ _ _ _ _, by exact Kd.R_nil _ _ _ _ _, by exact Kd.R_nil _ _ _ _ _, by repeat ((with_reducible first | exact HB.out | refine below_set ?_ GE505.out))⟩
  ·replace c7 := Bool.eq_false_iff.mpr c7
   subst c7
   rw [if_neg (show ¬ (false = true) by decide)] at H
   simp only [Option.some.injEq, Prod.mk.injEq] at H
   obtain ⟨rfl, rfl, rfl, rfl, rfl, rfl⟩ := H
   go_enter Try.func64, Try.ntmps64
   go_wp2_with (first | ((with_reducible refine gate_dst (N := 6) rfl ?_); refine box_event ?hg (N := 6) ?hd (cs := #[.int .i64 0, .slice none 0 0, .slice none 0 0, .slice none 0 0, .int .i64 0]) (t := 40) ?hr ?_; (case hd => rfl); (case hg => rfl); (case hr => (go_simp; done)); intro gb505 hg w42 hbox hb; have BK505 := am (hbox); have GW505 := am (gw_ hg HB.out); have GE505 := am (gw_ hg HB.out); replace HB := am (below_step HB.out hb); clear hb hbox hg) | ((with_reducible refine gate_callee (f := 47) rfl ?_); refine goesL_ (some 9) rfl rfl Try.func47 (by kernel_rfl) rfl #[.int .i64 a0] rfl (by (try simp only [List.map_toArray, List.map_cons, List.map_nil]); rfl) ?_; (with_reducible refine (spec_IsValidJoinKind.calls a0 true _ A4.out).mono ?_); rintro e w' ⟨rfl, ⟨nd, rfl⟩⟩; refine ⟨_, rfl, ?_⟩; (try (rw [drewN_self w42]; generalize hq_ : World.drewN w42 _ = w42; replace BK505 : Aside0 (w42.heap[gb505]? = some (.cells #[.int .i64 0, .slice none 0 0, .slice none 0 0, .slice none 0 0, .int .i64 0] 40 (0, 0))) := ⟨by rw [← hq_]; exact (by (with_reducible repeat (refine blk_drewN ?_ _)); exact BK505.out)⟩; replace HB : Aside0 (Below w.heap.size w w42) := ⟨by rw [← hq_]; exact (by repeat (with_reducible first | exact HB.out | apply pw_below_drewN))⟩; clear hq_))) | (go_at_call 46; (with_reducible refine (spec_AreValidRows.calls k _ _ l1 false _ ?side1 ?side2 A6.out).mono ?_); (case side1 => repeat (exact (Kd.C_below HR1.out HB.out))); (case side2 => exact HC1.out); rintro e w43 ⟨rfl, hb⟩; replace BK505 := am (blk_below BK505.out hb); replace HB := am (below_step HB.out hb); (try clear hb); obtain ⟨hcz44_0, hcz44_1, hcz44_2, hcz44_3, hcz44_4, hfz44_0, hfz44_1, hfz44_2, hfz44_3, hfz44_4⟩ := cells5_ BK505.out))
   refine bodyPost_ret (results_ct rfl _ _ gb505 40 #[.int .i64 0, .slice none 0 0, .slice none 0 0, .slice none 0 0, .int .i64 0] (0, 0) _ rfl (by refine blk_put (cs := #[.int .i64 0, .slice none 0 0, .slice none 0 0, .slice none 0 0, .int .i64 0]) ?_ 4 _ rfl; refine blk_put (cs := #[.int .i64 0, .slice none 0 0, .slice none 0 0, .slice none 0 0, .int .i64 0]) ?_ 3 _ rfl; refine blk_put (cs := #[.int .i64 0, .slice none 0 0, .slice none 0 0, .slice none 0 0, .int .i64 0]) ?_ 2 _ rfl; refine blk_put (cs := #[.int .i64 0, .slice none 0 0, .slice none 0 0, .slice none 0 0, .int .i64 0]) ?_ 1 _ rfl; refine blk_put (cs := #[.int .i64 0, .slice none 0 0, .slice none 0 0, .slice none 0 0, .int .i64 0]) ?_ 0 _ rfl; exact BK505.out) Try.underlying40 rfl (by kernel_rfl)) rfl ?_
   exact ⟨_, _, _, rfl, by exact Kd.R_nil _ _ _ _ _, by exact Kd.R_nil _ _ _ _ _, by exact Kd.R_nil _ _ _ _ _, by repeat ((with_reducible first | exact HB.out | refine below_set ?_ GE505.out))⟩
 ·replace c5 := Bool.eq_false_iff.mpr c5
  subst c5
  rw [if_neg (show ¬ (false = true) by decide)] at H
  simp only [Option.some.injEq, Prod.mk.injEq] at H
  obtain ⟨rfl, rfl, rfl, rfl, rfl, rfl⟩ := H
  go_enter Try.func64, Try.ntmps64
  go_wp2_with (first | ((with_reducible refine gate_dst (N := 6) rfl ?_); refine box_event ?hg (N := 6) ?hd (cs := #[.int .i64 0, .slice none 0 0, .slice none 0 0, .slice none 0 0, .int .i64 0]) (t := 40) ?hr ?_; (case hd => rfl); (case hg => rfl); (case hr => (go_simp; done)); intro gb505 hg w45 hbox hb; have BK505 := am (hbox); have GW505 := am (gw_ hg HB.out); have GE505 := am (gw_ hg HB.out); replace HB := am (below_step HB.out hb); clear hb hbox hg) | ((with_reducible refine gate_callee (f := 47) rfl ?_); refine goesL_ (some 9) rfl rfl Try.func47 (by kernel_rfl) rfl #[.int .i64 a0] rfl (by (try simp only [List.map_toArray, List.map_cons, List.map_nil]); rfl) ?_; (with_reducible refine (spec_IsValidJoinKind.calls a0 false _ A4.out).mono ?_); rintro e w' ⟨rfl, ⟨nd, rfl⟩⟩; refine ⟨_, rfl, ?_⟩; (try (rw [drewN_self w45]; generalize hq_ : World.drewN w45 _ = w45; replace BK505 : Aside0 (w45.heap[gb505]? = some (.cells #[.int .i64 0, .slice none 0 0, .slice none 0 0, .slice none 0 0, .int .i64 0] 40 (0, 0))) := ⟨by rw [← hq_]; exact (by (with_reducible repeat (refine blk_drewN ?_ _)); exact BK505.out)⟩; replace HB : Aside0 (Below w.heap.size w w45) := ⟨by rw [← hq_]; exact (by repeat (with_reducible first | exact HB.out | apply pw_below_drewN))⟩; clear hq_)); obtain ⟨hcz46_0, hcz46_1, hcz46_2, hcz46_3, hcz46_4, hfz46_0, hfz46_1, hfz46_2, hfz46_3, hfz46_4⟩ := cells5_ BK505.out))
  refine bodyPost_ret (results_ct rfl _ _ gb505 40 #[.int .i64 0, .slice none 0 0, .slice none 0 0, .slice none 0 0, .int .i64 0] (0, 0) _ rfl (by refine blk_put (cs := #[.int .i64 0, .slice none 0 0, .slice none 0 0, .slice none 0 0, .int .i64 0]) ?_ 4 _ rfl; refine blk_put (cs := #[.int .i64 0, .slice none 0 0, .slice none 0 0, .slice none 0 0, .int .i64 0]) ?_ 3 _ rfl; refine blk_put (cs := #[.int .i64 0, .slice none 0 0, .slice none 0 0, .slice none 0 0, .int .i64 0]) ?_ 2 _ rfl; refine blk_put (cs := #[.int .i64 0, .slice none 0 0, .slice none 0 0, .slice none 0 0, .int .i64 0]) ?_ 1 _ rfl; refine blk_put (cs := #[.int .i64 0, .slice none 0 0, .slice none 0 0, .slice none 0 0, .int .i64 0]) ?_ 0 _ rfl; exact BK505.out) Try.underlying40 rfl (by kernel_rfl)) rfl ?_
  exact ⟨_, _, _, rfl, by exact Kd.R_nil _ _ _ _ _, by exact Kd.R_nil _ _ _ _ _, by exact Kd.R_nil _ _ _ _ _, by repeat ((with_reducible first | exact HB.out | refine below_set ?_ GE505.out))⟩

def spec_IsValidTask.f (k : Nat) (a0_0 : Int) (l0_1 : List (S60)) (l0_2 : List (S60)) (l0_3 : List Bool) (a0_4 : Int) : Option (Bool) := (spec_IsValidJoinKind.f a0_0).bind fun t525 => (if t525 = true then ((spec_AreValidRows.f k l0_1).bind fun t526 => (if t526 = true then ((spec_AreValidRows.f k l0_2).bind fun t527 => (if t527 = true then (if (l0_3.length : Int) = (l0_1.length : Int) then ((spec_l1In.f a0_4 0 4).bind fun t528 => (some t528)) else (some false)) else (some false))) else (some false))) else (some false))
theorem spec_IsValidTask.calls (k : Nat) (a0_0 : Int) (A0_1 : Option Addr) (c0_1 : Nat) (l0_1 : List (S60)) (A0_2 : Option Addr) (c0_2 : Nat) (l0_2 : List (S60)) (A0_3 : Option Addr) (c0_3 : Nat) (l0_3 : List Bool) (a0_4 : Int) (r : Bool) (w : World) (hr0_1 : Kd.C k60 w A0_1 l0_1.length l0_1) (hc0_1 : l0_1.length ≤ c0_1) (hr0_2 : Kd.C k60 w A0_2 l0_2.length l0_2) (hc0_2 : l0_2.length ≤ c0_2) (hr0_3 : Kd.C Kd.bool w A0_3 l0_3.length l0_3) (hc0_3 : l0_3.length ≤ c0_3) (h : spec_IsValidTask.f k a0_0 l0_1 l0_2 l0_3 a0_4 = some r) :
  Calls Try.prog 65 #[.agg #[.int .i64 a0_0, .slice A0_1 l0_1.length c0_1, .slice A0_2 l0_2.length c0_2, .slice A0_3 l0_3.length c0_3, .int .i64 a0_4]] w fun e w' => e = .returned (.bool r) ∧ Below w.heap.size w w' := by
 have hu40 := Try.underlying40
 have HR0_1 := am hr0_1
 have HC0_1 := am hc0_1
 clear hr0_1 hc0_1
 have HR0_2 := am hr0_2
 have HC0_2 := am hc0_2
 clear hr0_2 hc0_2
 have HR0_3 := am hr0_3
 have HC0_3 := am hc0_3
 clear hr0_3 hc0_3
 have HB := am (Below.refl w.heap.size w)
 have H : ((spec_IsValidJoinKind.f a0_0).bind fun t525 => (if t525 = true then ((spec_AreValidRows.f k l0_1).bind fun t526 => (if t526 = true then ((spec_AreValidRows.f k l0_2).bind fun t527 => (if t527 = true then (if (l0_3.length : Int) = (l0_1.length : Int) then ((spec_l1In.f a0_4 0 4).bind fun t528 => (some t528)) else (some false)) else (some false))) else (some false))) else (some false))) = some r := h
 clear h
 replace H := Option.bind_eq_some_iff.mp H
 obtain ⟨t525, A20, H⟩ := H
 have A2 := am A20
 clear A20
 by_cases c3 : t525 = true
 ·subst c3
  rw [if_pos rfl] at H
  replace H := Option.bind_eq_some_iff.mp H
  obtain ⟨t526, A40, H⟩ := H
  have A4 := am A40
  clear A40
  by_cases c5 : t526 = true
  ·subst c5
   rw [if_pos rfl] at H
   replace H := Option.bind_eq_some_iff.mp H
   obtain ⟨t527, A60, H⟩ := H
   have A6 := am A60
   clear A60
   by_cases c7 : t527 = true
   ·subst c7
    rw [if_pos rfl] at H
    by_cases c8 : (l0_3.length : Int) = (l0_1.length : Int)
    ·rw [if_pos c8] at H
     have c8b0 : ((l0_3.length : Int) == (l0_1.length : Int)) = true := beq_iff_eq.mpr c8
     have c8b1 : ((l0_3.length : Int) != (l0_1.length : Int)) = false := bne_eq_false_iff_eq.mpr c8
     have c8b2 : (l0_3.length == l0_1.length) = true := by (simp at c8 ⊢; omega)
     clear c8
     replace H := Option.bind_eq_some_iff.mp H
     obtain ⟨t528, A90, H⟩ := H
     have A9 := am A90
     clear A90
     obtain rfl := Option.some.inj H
     go_enter Try.func65, Try.ntmps65
     go_wp2_with (first | ((with_reducible refine gate_dst (N := 1) rfl ?_); (try (refine gate_guard rfl ?_; dsimp only)); refine box_event ?hg (N := 1) ?hd (cs := #[.int .i64 a0_0, .slice A0_1 l0_1.length c0_1, .slice A0_2 l0_2.length c0_2, .slice A0_3 l0_3.length c0_3, .int .i64 a0_4]) (t := 40) ?hr ?_; (case hd => rfl); (case hg => rfl); (case hr => (go_simp; done)); intro gb524 hg w10 hbox hb; have BK524 := am (hbox); have GW524 := am (gw_ hg HB.out); have GE524 := am (gw_ hg HB.out); replace HB := am (below_step HB.out hb); clear hb hbox hg; obtain ⟨hcz11_0, hcz11_1, hcz11_2, hcz11_3, hcz11_4, hfz11_0, hfz11_1, hfz11_2, hfz11_3, hfz11_4⟩ := cells5_ BK524.out) | ((with_reducible refine gate_callee (f := 47) rfl ?_); refine goesL_ (some 5) rfl rfl Try.func47 (by kernel_rfl) rfl #[.int .i64 a0_0] rfl (by (try simp only [List.map_toArray, List.map_cons, List.map_nil]); rfl) ?_; (with_reducible refine (spec_IsValidJoinKind.calls a0_0 true _ A2.out).mono ?_); rintro e w' ⟨rfl, ⟨nd, rfl⟩⟩; refine ⟨_, rfl, ?_⟩) | (go_at_call 46; (with_reducible refine (spec_AreValidRows.calls k _ _ l0_1 true _ ?side1 ?side2 A4.out).mono ?_); (case side1 => repeat (exact (Kd.C_below HR0_1.out (by repeat (with_reducible first | exact HB.out | apply pw_below_drewN))))); (case side2 => exact HC0_1.out); rintro e w12 ⟨rfl, hb⟩; replace BK524 := am (blk_below (g := gb524) (o := .cells #[.int .i64 a0_0, .slice A0_1 l0_1.length c0_1, .slice A0_2 l0_2.length c0_2, .slice A0_3 l0_3.length c0_3, .int .i64 a0_4] 40 (0, 0)) (by (with_reducible repeat (refine blk_drewN ?_ _)); exact BK524.out) hb); replace HB := am (below_step (by repeat (with_reducible first | exact HB.out | apply pw_below_drewN)) hb); (try clear hb); obtain ⟨hcz13_0, hcz13_1, hcz13_2, hcz13_3, hcz13_4, hfz13_0, hfz13_1, hfz13_2, hfz13_3, hfz13_4⟩ := cells5_ BK524.out) | (go_at_call 46; (with_reducible refine (spec_AreValidRows.calls k _ _ l0_2 true _ ?side1 ?side2 A6.out).mono ?_); (case side1 => repeat (exact (Kd.C_below HR0_2.out HB.out))); (case side2 => exact HC0_2.out); rintro e w14 ⟨rfl, hb⟩; replace BK524 := am (blk_below BK524.out hb); replace HB := am (below_step HB.out hb); (try clear hb); obtain ⟨hcz15_0, hcz15_1, hcz15_2, hcz15_3, hcz15_4, hfz15_0, hfz15_1, hfz15_2, hfz15_3, hfz15_4⟩ := cells5_ BK524.out) | (go_at_call 119; (with_reducible refine (spec_l1In.calls a0_4 0 4 t528 _ A9.out).mono ?_); rintro e w' ⟨rfl, ⟨nd, rfl⟩⟩))
     go_ret
     exact ⟨rfl, by repeat ((with_reducible first | exact HB.out | apply pw_below_drewN))⟩
    ·rw [if_neg c8] at H
     have c8b0 : ((l0_3.length : Int) == (l0_1.length : Int)) = false := beq_eq_false_iff_ne.mpr c8
     have c8b1 : ((l0_3.length : Int) != (l0_1.length : Int)) = true := bne_iff_ne.mpr c8
     have c8b2 : (l0_3.length == l0_1.length) = false := by (simp at c8 ⊢; omega)
     obtain rfl := Option.some.inj H
     go_enter Try.func65, Try.ntmps65
     go_wp2_with (first | ((with_reducible refine gate_dst (N := 1) rfl ?_); (try (refine gate_guard rfl ?_; dsimp only)); refine box_event ?hg (N := 1) ?hd (cs := #[.int .i64 a0_0, .slice A0_1 l0_1.length c0_1, .slice A0_2 l0_2.length c0_2, .slice A0_3 l0_3.length c0_3, .int .i64 a0_4]) (t := 40) ?hr ?_; (case hd => rfl); (case hg => rfl); (case hr => (go_simp; done)); intro gb524 hg w16 hbox hb; have BK524 := am (hbox); have GW524 := am (gw_ hg HB.out); have GE524 := am (gw_ hg HB.out); replace HB := am (below_step HB.out hb); clear hb hbox hg; obtain ⟨hcz17_0, hcz17_1, hcz17_2, hcz17_3, hcz17_4, hfz17_0, hfz17_1, hfz17_2, hfz17_3, hfz17_4⟩ := cells5_ BK524.out) | ((with_reducible refine gate_callee (f := 47) rfl ?_); refine goesL_ (some 5) rfl rfl Try.func47 (by kernel_rfl) rfl #[.int .i64 a0_0] rfl (by (try simp only [List.map_toArray, List.map_cons, List.map_nil]); rfl) ?_; (with_reducible refine (spec_IsValidJoinKind.calls a0_0 true _ A2.out).mono ?_); rintro e w' ⟨rfl, ⟨nd, rfl⟩⟩; refine ⟨_, rfl, ?_⟩) | (go_at_call 46; (with_reducible refine (spec_AreValidRows.calls k _ _ l0_1 true _ ?side1 ?side2 A4.out).mono ?_); (case side1 => repeat (exact (Kd.C_below HR0_1.out (by repeat (with_reducible first | exact HB.out | apply pw_below_drewN))))); (case side2 => exact HC0_1.out); rintro e w18 ⟨rfl, hb⟩; replace BK524 := am (blk_below (g := gb524) (o := .cells #[.int .i64 a0_0, .slice A0_1 l0_1.length c0_1, .slice A0_2 l0_2.length c0_2, .slice A0_3 l0_3.length c0_3, .int .i64 a0_4] 40 (0, 0)) (by (with_reducible repeat (refine blk_drewN ?_ _)); exact BK524.out) hb); replace HB := am (below_step (by repeat (with_reducible first | exact HB.out | apply pw_below_drewN)) hb); (try clear hb); obtain ⟨hcz19_0, hcz19_1, hcz19_2, hcz19_3, hcz19_4, hfz19_0, hfz19_1, hfz19_2, hfz19_3, hfz19_4⟩ := cells5_ BK524.out) | (go_at_call 46; (with_reducible refine (spec_AreValidRows.calls k _ _ l0_2 true _ ?side1 ?side2 A6.out).mono ?_); (case side1 => repeat (exact (Kd.C_below HR0_2.out HB.out))); (case side2 => exact HC0_2.out); rintro e w20 ⟨rfl, hb⟩; replace BK524 := am (blk_below BK524.out hb); replace HB := am (below_step HB.out hb); (try clear hb); obtain ⟨hcz21_0, hcz21_1, hcz21_2, hcz21_3, hcz21_4, hfz21_0, hfz21_1, hfz21_2, hfz21_3, hfz21_4⟩ := cells5_ BK524.out))
     go_ret
     exact ⟨rfl, HB.out⟩
   ·replace c7 := Bool.eq_false_iff.mpr c7
    subst c7
    rw [if_neg (show ¬ (false = true) by decide)] at H
    obtain rfl := Option.some.inj H
    go_enter Try.func65, Try.ntmps65
    go_wp2_with (first | ((with_reducible refine gate_dst (N := 1) rfl ?_); (try (refine gate_guard rfl ?_; dsimp only)); refine box_event ?hg (N := 1) ?hd (cs := #[.int .i64 a0_0, .slice A0_1 l0_1.length c0_1, .slice A0_2 l0_2.length c0_2, .slice A0_3 l0_3.length c0_3, .int .i64 a0_4]) (t := 40) ?hr ?_; (case hd => rfl); (case hg => rfl); (case hr => (go_simp; done)); intro gb524 hg w22 hbox hb; have BK524 := am (hbox); have GW524 := am (gw_ hg HB.out); have GE524 := am (gw_ hg HB.out); replace HB := am (below_step HB.out hb); clear hb hbox hg; obtain ⟨hcz23_0, hcz23_1, hcz23_2, hcz23_3, hcz23_4, hfz23_0, hfz23_1, hfz23_2, hfz23_3, hfz23_4⟩ := cells5_ BK524.out) | ((with_reducible refine gate_callee (f := 47) rfl ?_); refine goesL_ (some 5) rfl rfl Try.func47 (by kernel_rfl) rfl #[.int .i64 a0_0] rfl (by (try simp only [List.map_toArray, List.map_cons, List.map_nil]); rfl) ?_; (with_reducible refine (spec_IsValidJoinKind.calls a0_0 true _ A2.out).mono ?_); rintro e w' ⟨rfl, ⟨nd, rfl⟩⟩; refine ⟨_, rfl, ?_⟩) | (go_at_call 46; (with_reducible refine (spec_AreValidRows.calls k _ _ l0_1 true _ ?side1 ?side2 A4.out).mono ?_); (case side1 => repeat (exact (Kd.C_below HR0_1.out (by repeat (with_reducible first | exact HB.out | apply pw_below_drewN))))); (case side2 => exact HC0_1.out); rintro e w24 ⟨rfl, hb⟩; replace BK524 := am (blk_below (g := gb524) (o := .cells #[.int .i64 a0_0, .slice A0_1 l0_1.length c0_1, .slice A0_2 l0_2.length c0_2, .slice A0_3 l0_3.length c0_3, .int .i64 a0_4] 40 (0, 0)) (by (with_reducible repeat (refine blk_drewN ?_ _)); exact BK524.out) hb); replace HB := am (below_step (by repeat (with_reducible first | exact HB.out | apply pw_below_drewN)) hb); (try clear hb); obtain ⟨hcz25_0, hcz25_1, hcz25_2, hcz25_3, hcz25_4, hfz25_0, hfz25_1, hfz25_2, hfz25_3, hfz25_4⟩ := cells5_ BK524.out) | (go_at_call 46; (with_reducible refine (spec_AreValidRows.calls k _ _ l0_2 false _ ?side1 ?side2 A6.out).mono ?_); (case side1 => repeat (exact (Kd.C_below HR0_2.out HB.out))); (case side2 => exact HC0_2.out); rintro e w26 ⟨rfl, hb⟩; replace BK524 := am (blk_below BK524.out hb); replace HB := am (below_step HB.out hb); (try clear hb)))
    go_ret
    exact ⟨rfl, HB.out⟩
  ·replace c5 := Bool.eq_false_iff.mpr c5
   subst c5
   rw [if_neg (show ¬ (false = true) by decide)] at H
   obtain rfl := Option.some.inj H
   go_enter Try.func65, Try.ntmps65
   go_wp2_with (first | ((with_reducible refine gate_dst (N := 1) rfl ?_); (try (refine gate_guard rfl ?_; dsimp only)); refine box_event ?hg (N := 1) ?hd (cs := #[.int .i64 a0_0, .slice A0_1 l0_1.length c0_1, .slice A0_2 l0_2.length c0_2, .slice A0_3 l0_3.length c0_3, .int .i64 a0_4]) (t := 40) ?hr ?_; (case hd => rfl); (case hg => rfl); (case hr => (go_simp; done)); intro gb524 hg w27 hbox hb; have BK524 := am (hbox); have GW524 := am (gw_ hg HB.out); have GE524 := am (gw_ hg HB.out); replace HB := am (below_step HB.out hb); clear hb hbox hg; obtain ⟨hcz28_0, hcz28_1, hcz28_2, hcz28_3, hcz28_4, hfz28_0, hfz28_1, hfz28_2, hfz28_3, hfz28_4⟩ := cells5_ BK524.out) | ((with_reducible refine gate_callee (f := 47) rfl ?_); refine goesL_ (some 5) rfl rfl Try.func47 (by kernel_rfl) rfl #[.int .i64 a0_0] rfl (by (try simp only [List.map_toArray, List.map_cons, List.map_nil]); rfl) ?_; (with_reducible refine (spec_IsValidJoinKind.calls a0_0 true _ A2.out).mono ?_); rintro e w' ⟨rfl, ⟨nd, rfl⟩⟩; refine ⟨_, rfl, ?_⟩) | (go_at_call 46; (with_reducible refine (spec_AreValidRows.calls k _ _ l0_1 false _ ?side1 ?side2 A4.out).mono ?_); (case side1 => repeat (exact (Kd.C_below HR0_1.out (by repeat (with_reducible first | exact HB.out | apply pw_below_drewN))))); (case side2 => exact HC0_1.out); rintro e w29 ⟨rfl, hb⟩; replace BK524 := am (blk_below (g := gb524) (o := .cells #[.int .i64 a0_0, .slice A0_1 l0_1.length c0_1, .slice A0_2 l0_2.length c0_2, .slice A0_3 l0_3.length c0_3, .int .i64 a0_4] 40 (0, 0)) (by (with_reducible repeat (refine blk_drewN ?_ _)); exact BK524.out) hb); replace HB := am (below_step (by repeat (with_reducible first | exact HB.out | apply pw_below_drewN)) hb); (try clear hb)))
   go_ret
   exact ⟨rfl, HB.out⟩
 ·replace c3 := Bool.eq_false_iff.mpr c3
  subst c3
  rw [if_neg (show ¬ (false = true) by decide)] at H
  obtain rfl := Option.some.inj H
  go_enter Try.func65, Try.ntmps65
  go_wp2_with (first | ((with_reducible refine gate_dst (N := 1) rfl ?_); (try (refine gate_guard rfl ?_; dsimp only)); refine box_event ?hg (N := 1) ?hd (cs := #[.int .i64 a0_0, .slice A0_1 l0_1.length c0_1, .slice A0_2 l0_2.length c0_2, .slice A0_3 l0_3.length c0_3, .int .i64 a0_4]) (t := 40) ?hr ?_; (case hd => rfl); (case hg => rfl); (case hr => (go_simp; done)); intro gb524 hg w30 hbox hb; have BK524 := am (hbox); have GW524 := am (gw_ hg HB.out); have GE524 := am (gw_ hg HB.out); replace HB := am (below_step HB.out hb); clear hb hbox hg; obtain ⟨hcz31_0, hcz31_1, hcz31_2, hcz31_3, hcz31_4, hfz31_0, hfz31_1, hfz31_2, hfz31_3, hfz31_4⟩ := cells5_ BK524.out) | ((with_reducible refine gate_callee (f := 47) rfl ?_); refine goesL_ (some 5) rfl rfl Try.func47 (by kernel_rfl) rfl #[.int .i64 a0_0] rfl (by (try simp only [List.map_toArray, List.map_cons, List.map_nil]); rfl) ?_; (with_reducible refine (spec_IsValidJoinKind.calls a0_0 false _ A2.out).mono ?_); rintro e w' ⟨rfl, ⟨nd, rfl⟩⟩; refine ⟨_, rfl, ?_⟩))
  go_ret
  exact ⟨rfl, by repeat ((with_reducible first | exact HB.out | apply pw_below_drewN))⟩

def spec_CountMatches.l0 : Nat → List (S60) → Int → Int → Int → Int → Int → Option (Int)
 | 0, _, _, _, _, _, _ => none
 | k + 1, x1, x5, x6, x530000, x530001, x530002 => if x6 < (x1.length : Int) then (if 0 ≤ x6 then (if ((rd_T60 x1 x6).f0) = x530000 then (spec_CountMatches.l0 k x1 (wrap64 (x5 + 1)) (wrap64 (x6 + 1)) x530000 x530001 x530002) else (spec_CountMatches.l0 k x1 x5 (wrap64 (x6 + 1)) x530000 x530001 x530002)) else (none)) else (some x5)
def spec_CountMatches.f (k : Nat) (a0_0 : Int) (a0_1 : Int) (a0_2 : Int) (l1 : List (S60)) : Option (Int) := spec_CountMatches.l0 k l1 0 0 a0_0 a0_1 a0_2
theorem spec_CountMatches.calls (k : Nat) (a0_0 : Int) (a0_1 : Int) (a0_2 : Int) (A1 : Option Addr) (c1 : Nat) (l1 : List (S60)) (r : Int) (w : World) (hr1 : Kd.C k60 w A1 l1.length l1) (hc1 : l1.length ≤ c1) (h : spec_CountMatches.f k a0_0 a0_1 a0_2 l1 = some r) :
  Calls Try.prog 181 #[.agg #[.int .i64 a0_0, .int .i64 a0_1, .int .i64 a0_2], .slice A1 l1.length c1] w fun e w' => e = .returned (.int .i64 r) ∧ Below w.heap.size w w' := by
 have hu60 := Try.underlying60
 have HR1 := am hr1
 have HC1 := am hc1
 clear hr1 hc1
 have HB := am (Below.refl w.heap.size w)
 have H : (spec_CountMatches.l0 k l1 0 0 a0_0 a0_1 a0_2) = some r := h
 clear h
 have H' := am H
 clear H
 go_enter Try.func181, Try.ntmps181
 go_wp2_with (((with_reducible refine gate_dst (N := 2) rfl ?_); refine box_event ?hg (N := 2) ?hd (cs := #[.int .i64 a0_0, .int .i64 a0_1, .int .i64 a0_2]) (t := 60) ?hr ?_; (case hd => rfl); (case hg => rfl); (case hr => (go_simp; done)); intro gb529 hg w3 hbox hb; have BK529 := am (hbox); have GW529 := am (gw_ hg HB.out); have GE529 := am (gw_ hg HB.out); replace HB := am (below_step HB.out hb); clear hb hbox hg))
 repeat (go_quiet (first | ((with_reducible refine gate_dst (N := 2) rfl ?_); refine box_event ?hg (N := 2) ?hd (cs := #[.int .i64 a0_0, .int .i64 a0_1, .int .i64 a0_2]) (t := 60) ?hr ?_; (case hd => rfl); (case hg => rfl); (case hr => first | (go_simp; done) | (go_simp; rfl)); intro gb529 hg w3 hbox hb; replace HB := am (below_step (by skip) hb); have BK529 := am (hbox); have GW529 := am ((by rw [hg]; exact (below_size (by skip)) : w.heap.size ≤ gb529)); have GE529 := am ((by rw [hg]; exact (below_size (by skip)) : w.heap.size ≤ gb529)); clear hb hbox hg)))
 go_loopg [5, 6] k (fun kq v5 v6 w' => ∃ (x5_1 : Int) (x6_1 : Int), v5 = .int .i64 x5_1 ∧ v6 = .int .i64 x6_1 ∧ Aside0 (spec_CountMatches.l0 kq l1 x5_1 x6_1 a0_0 a0_1 a0_2 = some r) ∧ Aside0 (kq ≤ k) ∧ Aside0 (w'.heap[gb529]? = some (.cells #[.int .i64 a0_0, .int .i64 a0_1, .int .i64 a0_2] 60 (0, 0))) ∧ Aside0 (Below w.heap.size w w'))
 case atStart => exact ⟨(0), (0), rfl, rfl, H', ⟨Nat.le_refl _⟩, ⟨BK529.out⟩, ⟨HB.out⟩⟩
 case round =>
  clear H'
  obtain ⟨x5_1, x6_1, rfl, rfl, HA, HK1, BK529, HB⟩ := hrel
  cases gk with
  | zero => exact absurd HA.out (by simp [spec_CountMatches.l0])
  | succ k1 =>
   have H := HA.out
   clear HA
   simp only [spec_CountMatches.l0] at H
   by_cases c4 : x6_1 < (l1.length : Int)
   ·rw [if_pos c4] at H
    have c4b0 : decide (x6_1 < (l1.length : Int)) = true := decide_eq_true c4
    clear c4
    by_cases c5 : 0 ≤ x6_1
    ·rw [if_pos c5] at H
     have c5b0 : decide (0 ≤ x6_1) = true := decide_eq_true c5
     clear c5
     by_cases c6 : ((rd_T60 l1 x6_1).f0) = a0_0
     ·rw [if_pos c6] at H
      have c6b0 : (((rd_T60 l1 x6_1).f0) == a0_0) = true := beq_iff_eq.mpr c6
      have c6b1 : (((rd_T60 l1 x6_1).f0) != a0_0) = false := bne_eq_false_iff_eq.mpr c6
      clear c6
      have H' := am H
      clear H
      have p530 : 0 ≤ (x6_1 : Int) := of_decide_eq_true (by (with_reducible assumption))
      have q530 : x6_1 < (l1.length : Int) := of_decide_eq_true (by (with_reducible assumption))
      obtain ⟨ad530, e530, hx530_0, hx530_1, hx530_2⟩ := at_T60 HR1.out x6_1 p530 q530
      cases e530
      replace hx530_0 := bc_ HB.out hx530_0
      replace hx530_1 := bc_ HB.out hx530_1
      replace hx530_2 := bc_ HB.out hx530_2
      replace p530 := eq_true p530
      replace q530 := eq_true q530
      obtain ⟨hcz7_0, hcz7_1, hcz7_2, hfz7_0, hfz7_1, hfz7_2⟩ := cells3_ BK529.out
      go_wp2
      repeat (go_quiet (fail); try go_wp2)
      go_roundg k1
      case measure => have := HK1.out; omega
      case rel => exact ⟨(wrap64 (x5_1 + 1)), (wrap64 (x6_1 + 1)), rfl, rfl, H', ⟨by have := HK1.out; omega⟩, ⟨by (with_reducible repeat (refine blk_drewN ?_ _)); exact BK529.out⟩, ⟨by repeat ((with_reducible first | exact HB.out | apply pw_below_drewN))⟩⟩
     ·rw [if_neg c6] at H
      have c6b0 : (((rd_T60 l1 x6_1).f0) == a0_0) = false := beq_eq_false_iff_ne.mpr c6
      have c6b1 : (((rd_T60 l1 x6_1).f0) != a0_0) = true := bne_iff_ne.mpr c6
      have H' := am H
      clear H
      have p530 : 0 ≤ (x6_1 : Int) := of_decide_eq_true (by (with_reducible assumption))
      have q530 : x6_1 < (l1.length : Int) := of_decide_eq_true (by (with_reducible assumption))
      obtain ⟨ad530, e530, hx530_0, hx530_1, hx530_2⟩ := at_T60 HR1.out x6_1 p530 q530
      cases e530
      replace hx530_0 := bc_ HB.out hx530_0
      replace hx530_1 := bc_ HB.out hx530_1
      replace hx530_2 := bc_ HB.out hx530_2
      replace p530 := eq_true p530
      replace q530 := eq_true q530
      obtain ⟨hcz8_0, hcz8_1, hcz8_2, hfz8_0, hfz8_1, hfz8_2⟩ := cells3_ BK529.out
      go_wp2
      repeat (go_quiet (fail); try go_wp2)
      go_roundg k1
      case measure => have := HK1.out; omega
      case rel => exact ⟨(x5_1), (wrap64 (x6_1 + 1)), rfl, rfl, H', ⟨by have := HK1.out; omega⟩, ⟨by (with_reducible repeat (refine blk_drewN ?_ _)); exact BK529.out⟩, ⟨by repeat ((with_reducible first | exact HB.out | apply pw_below_drewN))⟩⟩
    ·rw [if_neg c5] at H
     exact absurd H (by simp)
   ·rw [if_neg c4] at H
    have c4b0 : decide (x6_1 < (l1.length : Int)) = false := decide_eq_false c4
    clear c4
    obtain rfl := Option.some.inj H
    go_wp2
    repeat (go_quiet (fail))
    go_ret
    exact ⟨rfl, HB.out⟩

def spec_l7One.l0 : Nat → Int → List (S60) → List (S128) → Int → Int → Int → Int → Int → Option ((List (S128)))
 | 0, _, _, _, _, _, _, _, _ => none
 | k + 1, x0, x2, x7, x8, x9, x532000, x532001, x532002 => if x9 < (x2.length : Int) then (if 0 ≤ x9 then (if ((rd_T60 x2 x9).f0) = x532000 then (if x7.length < 2513169434916 then (spec_l7One.l0 k x0 x2 (x7 ++ [(⟨(⟨x532000, x532001, x532002⟩ : S60), (⟨(rd_T60 x2 x9).f0, (rd_T60 x2 x9).f1, (rd_T60 x2 x9).f2⟩ : S60), true⟩ : S128)]) x8 (wrap64 (x9 + 1)) x532000 x532001 x532002) else (none)) else (spec_l7One.l0 k x0 x2 x7 x8 (wrap64 (x9 + 1)) x532000 x532001 x532002)) else (none)) else (if x8 = 0 then (if x0 = 4 then (if x7.length < 2513169434916 then (some (x7 ++ [(⟨(⟨x532000, x532001, x532002⟩ : S60), (⟨0, 0, 0⟩ : S60), false⟩ : S128)])) else (none)) else (some x7)) else (some x7))
def spec_l7One.f (k : Nat) (a0 : Int) (a1_0 : Int) (a1_1 : Int) (a1_2 : Int) (l2 : List (S60)) : Option ((List (S128))) := (some (([] : List (S128)) : List (S128))).bind fun y532 => ((spec_CountMatches.f k a1_0 a1_1 a1_2 l2).bind fun t535 => (if a0 = 2 then (if t535 > 0 then (if y532.length < 2513169434916 then (some (y532 ++ [(⟨(⟨a1_0, a1_1, a1_2⟩ : S60), (⟨0, 0, 0⟩ : S60), false⟩ : S128)])) else (none)) else (some y532)) else (if a0 = 3 then (if t535 = 0 then (if y532.length < 2513169434916 then (some (y532 ++ [(⟨(⟨a1_0, a1_1, a1_2⟩ : S60), (⟨0, 0, 0⟩ : S60), false⟩ : S128)])) else (none)) else (some y532)) else (spec_l7One.l0 k a0 l2 y532 t535 0 a1_0 a1_1 a1_2))))
def spec_l7One.T15 : Bool × List (List Nat × List Nat) := (true, [([], []), ([], []), ([0, 1], [0, 1]), ([2], [2]), ([3], [3]), ([], []), ([5], [5]), ([4, 6], [4, 6])])
def spec_l7One.B15 : List Nat := [0, 0, 3, 7, 15, 0, 32, 127]
theorem spec_l7One.tab15 : rtab .any (opsOf Try.f123 15) = spec_l7One.T15 := by kernel_rfl
theorem spec_l7One.bits15 : waitsOk spec_l7One.T15.2 spec_l7One.B15 = true := by kernel_rfl
def spec_l7One.T16 : Bool × List (List Nat × List Nat) := (true, [([], []), ([], []), ([], []), ([], []), ([2, 3], [2, 3]), ([4], [4]), ([1, 5], [1, 5]), ([6], [6]), ([0, 7], [0, 7]), ([8, 8, 0, 1, 2, 3, 4, 5, 6, 7, 8], [0, 8])])
def spec_l7One.B16 : List Nat := [0, 0, 0, 0, 12, 28, 62, 126, 255, 511]
theorem spec_l7One.tab16 : rtab .any (opsOf Try.f123 16) = spec_l7One.T16 := by kernel_rfl
theorem spec_l7One.bits16 : waitsOk spec_l7One.T16.2 spec_l7One.B16 = true := by kernel_rfl
theorem spec_l7One.calls (k : Nat) (a0 : Int) (a1_0 : Int) (a1_1 : Int) (a1_2 : Int) (A2 : Option Addr) (c2 : Nat) (l2 : List (S60)) (r : List (S128)) (w : World) (hr2 : Kd.C k60 w A2 l2.length l2) (hc2 : l2.length ≤ c2) (h : spec_l7One.f k a0 a1_0 a1_1 a1_2 l2 = some r) :
  Calls Try.prog 123 #[.int .i64 a0, .agg #[.int .i64 a1_0, .int .i64 a1_1, .int .i64 a1_2], .slice A2 l2.length c2] w fun e w' => ∃ v0_ : Value, e = .returned (v0_) ∧ Kd.R k128 128 w' w.heap.size (fun _ => True) v0_ r ∧ Below w.heap.size w w' := by
 have hu60 := Try.underlying60
 have hu128 := Try.underlying128
 have HR2 := am hr2
 have HC2 := am hc2
 clear hr2 hc2
 have HB := am (Below.refl w.heap.size w)
 have H : ((some (([] : List (S128)) : List (S128))).bind fun y532 => ((spec_CountMatches.f k a1_0 a1_1 a1_2 l2).bind fun t535 => (if a0 = 2 then (if t535 > 0 then (if y532.length < 2513169434916 then (some (y532 ++ [(⟨(⟨a1_0, a1_1, a1_2⟩ : S60), (⟨0, 0, 0⟩ : S60), false⟩ : S128)])) else (none)) else (some y532)) else (if a0 = 3 then (if t535 = 0 then (if y532.length < 2513169434916 then (some (y532 ++ [(⟨(⟨a1_0, a1_1, a1_2⟩ : S60), (⟨0, 0, 0⟩ : S60), false⟩ : S128)])) else (none)) else (some y532)) else (spec_l7One.l0 k a0 l2 y532 t535 0 a1_0 a1_1 a1_2))))) = some r := h
 clear h
 obtain ⟨y532, hy532, H⟩ := bindO_ H
 have Ny532 := am hy532
 clear hy532
 replace H := Option.bind_eq_some_iff.mp H
 obtain ⟨t535, A40, H⟩ := H
 have A4 := am A40
 clear A40
 by_cases c5 : a0 = 2
 ·rw [if_pos c5] at H
  have c5b0 : (a0 == 2) = true := beq_iff_eq.mpr c5
  have c5b1 : (a0 != 2) = false := bne_eq_false_iff_eq.mpr c5
  clear c5
  by_cases c6 : t535 > 0
  ·rw [if_pos c6] at H
   have c6b0 : decide (0 < t535) = true := decide_eq_true c6
   clear c6
   by_cases c7 : y532.length < 2513169434916
   ·rw [if_pos c7] at H
    have LMc7 := am c7
    clear c7
    obtain ⟨y536, hy536⟩ : ∃ y_ : List (S128), y_ = (y532 ++ [(⟨(⟨a1_0, a1_1, a1_2⟩ : S60), (⟨0, 0, 0⟩ : S60), false⟩ : S128)]) := ⟨_, rfl⟩
    replace H : (some y536) = some r := by (rw [hy536]; with_reducible exact H)
    have Ny536 := am hy536
    clear hy536
    obtain rfl := Option.some.inj H
    go_enter Try.func123, Try.ntmps123
    go_wp2_with (first | ((with_reducible refine gate_dst (N := 4) rfl ?_); refine box_event ?hg (N := 4) ?hd (cs := #[.int .i64 a1_0, .int .i64 a1_1, .int .i64 a1_2]) (t := 60) ?hr ?_; (case hd => rfl); (case hg => rfl); (case hr => (go_simp; done)); intro gb531 hg w8 hbox hb; have BK531 := am (hbox); have GW531 := am (gw_ hg HB.out); have GE531 := am (gw_ hg HB.out); replace HB := am (below_step HB.out hb); clear hb hbox hg) | ((with_reducible refine gate_dst (N := 10) rfl ?_); refine Kd.R_lit k128 _ 128 ?hg (N := 10) ?hd (xs := ([] : List (S128))) (inner := []) (ok := fun _ => True) (okp := fun _ => True) ?hr ?hp (fun _ hk => hk) trivial (Below.refl _ _) (Nat.le_refl _) (by simp) ?_; (case hd => rfl); (case hg => rfl); (case hr => (go_simp; done)); (case hp => exact (Reps.none _ _)); intro v533 w9 ho10 hb hg_ hnew_; clear hg_ hnew_; (rw [← Ny532.out] at ho10); have HO534 := am (Kd.R_lower ho10 (below_size HB.out)); replace BK531 := am (blk_below BK531.out hb); replace HB := am (below_step HB.out hb); clear hb ho10; obtain ⟨hcz11_0, hcz11_1, hcz11_2, hfz11_0, hfz11_1, hfz11_2⟩ := cells3_ BK531.out) | ((with_reducible refine gate_callee (f := 181) rfl ?_); refine goesL_ (some 13) rfl rfl Try.func181 (by kernel_rfl) rfl #[.agg #[.int .i64 a1_0, .int .i64 a1_1, .int .i64 a1_2], .slice A2 l2.length c2] rfl (by (try simp only [List.map_toArray, List.map_cons, List.map_nil]); rfl) ?_; (with_reducible refine (spec_CountMatches.calls k a1_0 a1_1 a1_2 _ _ l2 t535 _ ?side1 ?side2 A4.out).mono ?_); (case side1 => repeat (exact (Kd.C_below HR2.out HB.out))); (case side2 => exact HC2.out); rintro e w12 ⟨rfl, hb⟩; refine ⟨_, rfl, ?_⟩; replace HO534 := am (Kd.R_below HO534.out hb); replace BK531 := am (blk_below BK531.out hb); replace HB := am (below_step HB.out hb); (try clear hb); obtain ⟨hcz13_0, hcz13_1, hcz13_2, hfz13_0, hfz13_1, hfz13_2⟩ := cells3_ BK531.out) | ((with_reducible refine gate_builtin (b := .append) (xs := #[.tmp 19, .tmp 22]) rfl ?_); at_builtin; refine Kd.R_append k128 (w0 := w) w.heap.size rfl (.tmp 19) (.tmp 22) 33 128 (.agg #[(.int .i64 0), (.int .i64 0), (.int .i64 0), (.int .i64 0), (.int .i64 0), (.int .i64 0), (.bool false)]) 56 rfl Try.underlying33 info128 rfl (by decide) (by omega) v533 y532 (⟨(⟨a1_0, a1_1, a1_2⟩ : S60), (⟨0, 0, 0⟩ : S60), false⟩ : S128) [.int .i64 a1_0, .int .i64 a1_1, .int .i64 a1_2, .int .i64 0, .int .i64 0, .int .i64 0, .bool false] (fun _ => True) (fun _ => False) rfl rfl ?aP (fun _ hk => hk.elim) ?aF ?aO ?aB ?aS ?aL ?_; (case aP => exact k128_mkM _ _ _ (⟨(⟨a1_0, a1_1, a1_2⟩ : S60), (⟨0, 0, 0⟩ : S60), false⟩ : S128)); (case aB => exact HB.out); (case aF => exact (fun _ _ => trivial)); (case aO => exact HO534.out); (case aS => exact (below_size HB.out)); (case aL => have := LMc7.out; omega); intro v537 w14 ho hb hg hat; rw [← Ny536.out] at ho; replace BK531 := am (blk_grown BK531.out hg (Kd.R_ne HO534.out BK531.out (by decide))); replace HB := am (hb); have HO538 := am (ho); clear HO534 ho hb hg hat))
    go_ret
    exact ⟨_, rfl, HO538.out, HB.out⟩
   ·rw [if_neg c7] at H
    exact absurd H (by simp)
  ·rw [if_neg c6] at H
   have c6b0 : decide (0 < t535) = false := decide_eq_false c6
   clear c6
   obtain rfl := Option.some.inj H
   go_enter Try.func123, Try.ntmps123
   go_wp2_with (first | ((with_reducible refine gate_dst (N := 4) rfl ?_); refine box_event ?hg (N := 4) ?hd (cs := #[.int .i64 a1_0, .int .i64 a1_1, .int .i64 a1_2]) (t := 60) ?hr ?_; (case hd => rfl); (case hg => rfl); (case hr => (go_simp; done)); intro gb531 hg w15 hbox hb; have BK531 := am (hbox); have GW531 := am (gw_ hg HB.out); have GE531 := am (gw_ hg HB.out); replace HB := am (below_step HB.out hb); clear hb hbox hg) | ((with_reducible refine gate_dst (N := 10) rfl ?_); refine Kd.R_lit k128 _ 128 ?hg (N := 10) ?hd (xs := ([] : List (S128))) (inner := []) (ok := fun _ => True) (okp := fun _ => True) ?hr ?hp (fun _ hk => hk) trivial (Below.refl _ _) (Nat.le_refl _) (by simp) ?_; (case hd => rfl); (case hg => rfl); (case hr => (go_simp; done)); (case hp => exact (Reps.none _ _)); intro v533 w16 ho17 hb hg_ hnew_; clear hg_ hnew_; (rw [← Ny532.out] at ho17); have HO534 := am (Kd.R_lower ho17 (below_size HB.out)); replace BK531 := am (blk_below BK531.out hb); replace HB := am (below_step HB.out hb); clear hb ho17; obtain ⟨hcz18_0, hcz18_1, hcz18_2, hfz18_0, hfz18_1, hfz18_2⟩ := cells3_ BK531.out) | ((with_reducible refine gate_callee (f := 181) rfl ?_); refine goesL_ (some 13) rfl rfl Try.func181 (by kernel_rfl) rfl #[.agg #[.int .i64 a1_0, .int .i64 a1_1, .int .i64 a1_2], .slice A2 l2.length c2] rfl (by (try simp only [List.map_toArray, List.map_cons, List.map_nil]); rfl) ?_; (with_reducible refine (spec_CountMatches.calls k a1_0 a1_1 a1_2 _ _ l2 t535 _ ?side1 ?side2 A4.out).mono ?_); (case side1 => repeat (exact (Kd.C_below HR2.out HB.out))); (case side2 => exact HC2.out); rintro e w19 ⟨rfl, hb⟩; refine ⟨_, rfl, ?_⟩; replace HO534 := am (Kd.R_below HO534.out hb); replace BK531 := am (blk_below BK531.out hb); replace HB := am (below_step HB.out hb); (try clear hb)))
   go_ret
   exact ⟨_, rfl, HO534.out, HB.out⟩
 ·rw [if_neg c5] at H
  have c5b0 : (a0 == 2) = false := beq_eq_false_iff_ne.mpr c5
  have c5b1 : (a0 != 2) = true := bne_iff_ne.mpr c5
  by_cases c20 : a0 = 3
  ·rw [if_pos c20] at H
   have c20b0 : (a0 == 3) = true := beq_iff_eq.mpr c20
   have c20b1 : (a0 != 3) = false := bne_eq_false_iff_eq.mpr c20
   clear c20
   by_cases c21 : t535 = 0
   ·rw [if_pos c21] at H
    have c21b0 : (t535 == 0) = true := beq_iff_eq.mpr c21
    have c21b1 : (t535 != 0) = false := bne_eq_false_iff_eq.mpr c21
    clear c21
    by_cases c22 : y532.length < 2513169434916
    ·rw [if_pos c22] at H
     have LMc22 := am c22
     clear c22
     obtain ⟨y539, hy539⟩ : ∃ y_ : List (S128), y_ = (y532 ++ [(⟨(⟨a1_0, a1_1, a1_2⟩ : S60), (⟨0, 0, 0⟩ : S60), false⟩ : S128)]) := ⟨_, rfl⟩
     replace H : (some y539) = some r := by (rw [hy539]; with_reducible exact H)
     have Ny539 := am hy539
     clear hy539
     obtain rfl := Option.some.inj H
     go_enter Try.func123, Try.ntmps123
     go_wp2_with (first | ((with_reducible refine gate_dst (N := 4) rfl ?_); refine box_event ?hg (N := 4) ?hd (cs := #[.int .i64 a1_0, .int .i64 a1_1, .int .i64 a1_2]) (t := 60) ?hr ?_; (case hd => rfl); (case hg => rfl); (case hr => (go_simp; done)); intro gb531 hg w23 hbox hb; have BK531 := am (hbox); have GW531 := am (gw_ hg HB.out); have GE531 := am (gw_ hg HB.out); replace HB := am (below_step HB.out hb); clear hb hbox hg) | ((with_reducible refine gate_dst (N := 10) rfl ?_); refine Kd.R_lit k128 _ 128 ?hg (N := 10) ?hd (xs := ([] : List (S128))) (inner := []) (ok := fun _ => True) (okp := fun _ => True) ?hr ?hp (fun _ hk => hk) trivial (Below.refl _ _) (Nat.le_refl _) (by simp) ?_; (case hd => rfl); (case hg => rfl); (case hr => (go_simp; done)); (case hp => exact (Reps.none _ _)); intro v533 w24 ho25 hb hg_ hnew_; clear hg_ hnew_; (rw [← Ny532.out] at ho25); have HO534 := am (Kd.R_lower ho25 (below_size HB.out)); replace BK531 := am (blk_below BK531.out hb); replace HB := am (below_step HB.out hb); clear hb ho25; obtain ⟨hcz26_0, hcz26_1, hcz26_2, hfz26_0, hfz26_1, hfz26_2⟩ := cells3_ BK531.out) | ((with_reducible refine gate_callee (f := 181) rfl ?_); refine goesL_ (some 13) rfl rfl Try.func181 (by kernel_rfl) rfl #[.agg #[.int .i64 a1_0, .int .i64 a1_1, .int .i64 a1_2], .slice A2 l2.length c2] rfl (by (try simp only [List.map_toArray, List.map_cons, List.map_nil]); rfl) ?_; (with_reducible refine (spec_CountMatches.calls k a1_0 a1_1 a1_2 _ _ l2 t535 _ ?side1 ?side2 A4.out).mono ?_); (case side1 => repeat (exact (Kd.C_below HR2.out HB.out))); (case side2 => exact HC2.out); rintro e w27 ⟨rfl, hb⟩; refine ⟨_, rfl, ?_⟩; replace HO534 := am (Kd.R_below HO534.out hb); replace BK531 := am (blk_below BK531.out hb); replace HB := am (below_step HB.out hb); (try clear hb); obtain ⟨hcz28_0, hcz28_1, hcz28_2, hfz28_0, hfz28_1, hfz28_2⟩ := cells3_ BK531.out) | ((with_reducible refine gate_builtin (b := .append) (xs := #[.tmp 29, .tmp 32]) rfl ?_); at_builtin; refine Kd.R_append k128 (w0 := w) w.heap.size rfl (.tmp 29) (.tmp 32) 33 128 (.agg #[(.int .i64 0), (.int .i64 0), (.int .i64 0), (.int .i64 0), (.int .i64 0), (.int .i64 0), (.bool false)]) 56 rfl Try.underlying33 info128 rfl (by decide) (by omega) v533 y532 (⟨(⟨a1_0, a1_1, a1_2⟩ : S60), (⟨0, 0, 0⟩ : S60), false⟩ : S128) [.int .i64 a1_0, .int .i64 a1_1, .int .i64 a1_2, .int .i64 0, .int .i64 0, .int .i64 0, .bool false] (fun _ => True) (fun _ => False) rfl rfl ?aP (fun _ hk => hk.elim) ?aF ?aO ?aB ?aS ?aL ?_; (case aP => exact k128_mkM _ _ _ (⟨(⟨a1_0, a1_1, a1_2⟩ : S60), (⟨0, 0, 0⟩ : S60), false⟩ : S128)); (case aB => exact HB.out); (case aF => exact (fun _ _ => trivial)); (case aO => exact HO534.out); (case aS => exact (below_size HB.out)); (case aL => have := LMc22.out; omega); intro v540 w29 ho hb hg hat; rw [← Ny539.out] at ho; replace BK531 := am (blk_grown BK531.out hg (Kd.R_ne HO534.out BK531.out (by decide))); replace HB := am (hb); have HO541 := am (ho); clear HO534 ho hb hg hat))
     go_ret
     exact ⟨_, rfl, HO541.out, HB.out⟩
    ·rw [if_neg c22] at H
     exact absurd H (by simp)
   ·rw [if_neg c21] at H
    have c21b0 : (t535 == 0) = false := beq_eq_false_iff_ne.mpr c21
    have c21b1 : (t535 != 0) = true := bne_iff_ne.mpr c21
    obtain rfl := Option.some.inj H
    go_enter Try.func123, Try.ntmps123
    go_wp2_with (first | ((with_reducible refine gate_dst (N := 4) rfl ?_); refine box_event ?hg (N := 4) ?hd (cs := #[.int .i64 a1_0, .int .i64 a1_1, .int .i64 a1_2]) (t := 60) ?hr ?_; (case hd => rfl); (case hg => rfl); (case hr => (go_simp; done)); intro gb531 hg w30 hbox hb; have BK531 := am (hbox); have GW531 := am (gw_ hg HB.out); have GE531 := am (gw_ hg HB.out); replace HB := am (below_step HB.out hb); clear hb hbox hg) | ((with_reducible refine gate_dst (N := 10) rfl ?_); refine Kd.R_lit k128 _ 128 ?hg (N := 10) ?hd (xs := ([] : List (S128))) (inner := []) (ok := fun _ => True) (okp := fun _ => True) ?hr ?hp (fun _ hk => hk) trivial (Below.refl _ _) (Nat.le_refl _) (by simp) ?_; (case hd => rfl); (case hg => rfl); (case hr => (go_simp; done)); (case hp => exact (Reps.none _ _)); intro v533 w31 ho32 hb hg_ hnew_; clear hg_ hnew_; (rw [← Ny532.out] at ho32); have HO534 := am (Kd.R_lower ho32 (below_size HB.out)); replace BK531 := am (blk_below BK531.out hb); replace HB := am (below_step HB.out hb); clear hb ho32; obtain ⟨hcz33_0, hcz33_1, hcz33_2, hfz33_0, hfz33_1, hfz33_2⟩ := cells3_ BK531.out) | ((with_reducible refine gate_callee (f := 181) rfl ?_); refine goesL_ (some 13) rfl rfl Try.func181 (by kernel_rfl) rfl #[.agg #[.int .i64 a1_0, .int .i64 a1_1, .int .i64 a1_2], .slice A2 l2.length c2] rfl (by (try simp only [List.map_toArray, List.map_cons, List.map_nil]); rfl) ?_; (with_reducible refine (spec_CountMatches.calls k a1_0 a1_1 a1_2 _ _ l2 t535 _ ?side1 ?side2 A4.out).mono ?_); (case side1 => repeat (exact (Kd.C_below HR2.out HB.out))); (case side2 => exact HC2.out); rintro e w34 ⟨rfl, hb⟩; refine ⟨_, rfl, ?_⟩; replace HO534 := am (Kd.R_below HO534.out hb); replace BK531 := am (blk_below BK531.out hb); replace HB := am (below_step HB.out hb); (try clear hb)))
    go_ret
    exact ⟨_, rfl, HO534.out, HB.out⟩
  ·rw [if_neg c20] at H
   have c20b0 : (a0 == 3) = false := beq_eq_false_iff_ne.mpr c20
   have c20b1 : (a0 != 3) = true := bne_iff_ne.mpr c20
   have H' := am H
   clear H
   go_enter Try.func123, Try.ntmps123
   go_wp2_with (first | ((with_reducible refine gate_dst (N := 4) rfl ?_); refine box_event ?hg (N := 4) ?hd (cs := #[.int .i64 a1_0, .int .i64 a1_1, .int .i64 a1_2]) (t := 60) ?hr ?_; (case hd => rfl); (case hg => rfl); (case hr => (go_simp; done)); intro gb531 hg w35 hbox hb; have BK531 := am (hbox); have GW531 := am (gw_ hg HB.out); have GE531 := am (gw_ hg HB.out); replace HB := am (below_step HB.out hb); clear hb hbox hg) | ((with_reducible refine gate_dst (N := 10) rfl ?_); refine Kd.R_lit k128 _ 128 ?hg (N := 10) ?hd (xs := ([] : List (S128))) (inner := []) (ok := fun _ => True) (okp := fun _ => True) ?hr ?hp (fun _ hk => hk) trivial (Below.refl _ _) (Nat.le_refl _) (by simp) ?_; (case hd => rfl); (case hg => rfl); (case hr => (go_simp; done)); (case hp => exact (Reps.none _ _)); intro v533 w36 ho37 hb hg_ hnew_; clear hg_ hnew_; (rw [← Ny532.out] at ho37); have HO534 := am (Kd.R_lower ho37 (below_size HB.out)); replace BK531 := am (blk_below BK531.out hb); replace HB := am (below_step HB.out hb); clear hb ho37; obtain ⟨hcz38_0, hcz38_1, hcz38_2, hfz38_0, hfz38_1, hfz38_2⟩ := cells3_ BK531.out) | ((with_reducible refine gate_callee (f := 181) rfl ?_); refine goesL_ (some 13) rfl rfl Try.func181 (by kernel_rfl) rfl #[.agg #[.int .i64 a1_0, .int .i64 a1_1, .int .i64 a1_2], .slice A2 l2.length c2] rfl (by (try simp only [List.map_toArray, List.map_cons, List.map_nil]); rfl) ?_; (with_reducible refine (spec_CountMatches.calls k a1_0 a1_1 a1_2 _ _ l2 t535 _ ?side1 ?side2 A4.out).mono ?_); (case side1 => repeat (exact (Kd.C_below HR2.out HB.out))); (case side2 => exact HC2.out); rintro e w39 ⟨rfl, hb⟩; refine ⟨_, rfl, ?_⟩; replace HO534 := am (Kd.R_below HO534.out hb); replace BK531 := am (blk_below BK531.out hb); replace HB := am (below_step HB.out hb); (try clear hb)))
   go_loopg [7, 9] k (fun kq v7 v9 w' => ∃ (x7_1 : List (S128)) (x9_1 : Int), v9 = .int .i64 x9_1 ∧ Aside0 (spec_l7One.l0 kq a0 l2 x7_1 t535 x9_1 a1_0 a1_1 a1_2 = some r) ∧ Aside0 (kq ≤ k) ∧ Aside0 (Kd.R k128 128 w' w.heap.size (fun _ => True) v7 x7_1) ∧ Aside0 (w'.heap[gb531]? = some (.cells #[.int .i64 a1_0, .int .i64 a1_1, .int .i64 a1_2] 60 (0, 0))) ∧ Aside0 (Below w.heap.size w w'))
   case atStart => exact ⟨(y532), (0), rfl, H', ⟨Nat.le_refl _⟩, ⟨HO534.out⟩, ⟨BK531.out⟩, ⟨HB.out⟩⟩
   case round =>
    clear H'
    try clear c5
    try clear c5b0
    try clear c5b1
    try clear c20
    try clear c20b0
    try clear c20b1
    try clear hcz38_0
    try clear hcz38_1
    try clear hcz38_2
    try clear hfz38_0
    try clear hfz38_1
    try clear hfz38_2
    obtain ⟨x7_1, x9_1, rfl, HA, HK1, HO_7, BK531, HB⟩ := hrel
    cases gk with
    | zero => exact absurd HA.out (by simp [spec_l7One.l0])
    | succ k1 =>
     have H := HA.out
     clear HA
     simp only [spec_l7One.l0] at H
     by_cases c40 : x9_1 < (l2.length : Int)
     ·rw [if_pos c40] at H
      have c40b0 : decide (x9_1 < (l2.length : Int)) = true := decide_eq_true c40
      clear c40
      by_cases c41 : 0 ≤ x9_1
      ·rw [if_pos c41] at H
       have c41b0 : decide (0 ≤ x9_1) = true := decide_eq_true c41
       clear c41
       by_cases c42 : ((rd_T60 l2 x9_1).f0) = a1_0
       ·rw [if_pos c42] at H
        have c42b0 : (((rd_T60 l2 x9_1).f0) == a1_0) = true := beq_iff_eq.mpr c42
        have c42b1 : (((rd_T60 l2 x9_1).f0) != a1_0) = false := bne_eq_false_iff_eq.mpr c42
        clear c42
        by_cases c43 : x7_1.length < 2513169434916
        ·rw [if_pos c43] at H
         have LMc43 := am c43
         clear c43
         obtain ⟨y544, hy544⟩ : ∃ y_ : List (S128), y_ = (x7_1 ++ [(⟨(⟨a1_0, a1_1, a1_2⟩ : S60), (⟨(rd_T60 l2 x9_1).f0, (rd_T60 l2 x9_1).f1, (rd_T60 l2 x9_1).f2⟩ : S60), true⟩ : S128)]) := ⟨_, rfl⟩
         replace H : (spec_l7One.l0 k1 a0 l2 y544 t535 (wrap64 (x9_1 + 1)) a1_0 a1_1 a1_2) = some r := by (rw [hy544]; with_reducible exact H)
         have Ny544 := am hy544
         clear hy544
         have H' := am H
         clear H
         try go_wp2
         replace HO_7 := am (Kd.R_drew HO_7.out)
         replace BK531 := am (blk_drew BK531.out)
         replace HB := am (below_drew1 HB.out)
         have p542 : 0 ≤ (x9_1 : Int) := of_decide_eq_true (by (with_reducible assumption))
         have q542 : x9_1 < (l2.length : Int) := of_decide_eq_true (by (with_reducible assumption))
         obtain ⟨ad542, e542, hx542_0, hx542_1, hx542_2⟩ := at_T60 HR2.out x9_1 p542 q542
         have hw542_2 := hx542_2
         have hw542_1 := hx542_1
         have hw542_0 := hx542_0
         cases e542
         replace hx542_0 := bc_ HB.out hx542_0
         replace hx542_1 := bc_ HB.out hx542_1
         replace hx542_2 := bc_ HB.out hx542_2
         replace p542 := eq_true p542
         replace q542 := eq_true q542
         refine start_ (n := 8) (S := fun w' => w'.cell? ⟨gb531, 0, none⟩ = some (.int .i64 a1_0) ∧ w'.cell? ⟨gb531, 1, none⟩ = some (.int .i64 a1_1) ∧ w'.cell? ⟨gb531, 2, none⟩ = some (.int .i64 a1_2) ∧ w'.cell? (ad542.add ((x9_1).toNat * 3)) = some (.int .i64 ((rd_T60 l2 x9_1).f0)) ∧ w'.cell? ⟨(ad542.add ((x9_1).toNat * 3)).block, (ad542.add ((x9_1).toNat * 3)).off + 1, none⟩ = some (.int .i64 ((rd_T60 l2 x9_1).f1)) ∧ w'.cell? ⟨(ad542.add ((x9_1).toNat * 3)).block, (ad542.add ((x9_1).toNat * 3)).off + 2, none⟩ = some (.int .i64 ((rd_T60 l2 x9_1).f2))) (ds := []) #[false, false, false, false, false, false, false, false] (by kernel_rfl) rfl rfl ⟨(blk_cell BK531.out 0).trans rfl, (blk_cell BK531.out 1).trans rfl, (blk_cell BK531.out 2).trans rfl, (bc_ HB.out hw542_0), (bc_ HB.out hw542_1), (bc_ HB.out hw542_2)⟩ (fun hHeld => ?_); refine with_tabW spec_l7One.tab15 spec_l7One.bits15 (fun HT_ HW_ => ?_)
         generalize wr.drew = w44 at HO_7 BK531 HB hx542_0 hx542_1 hx542_2 hHeld ⊢
         refine pure_ (i := 0) (N := some 41) (v := ?_) (a' := ?_) #[true, false, false, false, false, false, false, false] rfl rfl (any_of HT_.out (by kernel_rfl)) (fun _ _ _ h => h) (Or.inl ⟨rfl, ?_⟩) ?_ ?_
         rotate_left
         ·intro w'
          go_simp
          with_reducible rfl
         rotate_left
         ·simp only [Act.put, s2_, s0_, s1_, i64_w, i32_w]
          rfl
         refine pure_ (i := 1) (N := some 42) (v := ?_) (a' := ?_) #[true, true, false, false, false, false, false, false] rfl rfl (any_of HT_.out (by kernel_rfl)) (fun _ _ _ h => h) (Or.inl ⟨rfl, ?_⟩) ?_ ?_
         rotate_left
         ·intro w'
          go_simp
          with_reducible rfl
         rotate_left
         ·simp only [Act.put, s2_, s0_, s1_, i64_w, i32_w]
          rfl
         refine pure_ (i := 2) (N := some 43) (v := ?_) (a' := ?_) #[true, true, true, false, false, false, false, false] rfl rfl (any_of HT_.out (by kernel_rfl)) (fun _ _ _ h => h) (Or.inl ⟨rfl, ?_⟩) ?_ ?_
         rotate_left
         ·intro w'
          go_simp
          with_reducible rfl
         rotate_left
         ·simp only [Act.put, s2_, s0_, s1_, i64_w, i32_w]
          rfl
         refine pure_ (i := 3) (N := some 44) (v := ?_) (a' := ?_) #[true, true, true, true, false, false, false, false] rfl rfl (any_of HT_.out (by kernel_rfl)) (fun _ _ _ h => h) (Or.inl ⟨rfl, ?_⟩) ?_ ?_
         rotate_left
         ·intro w'
          go_simp
          with_reducible rfl
         rotate_left
         ·simp only [Act.put, s2_, s0_, s1_, i64_w, i32_w]
          rfl
         refine pure_ (i := 5) (N := some 46) (v := ?_) (a' := ?_) #[true, true, true, true, false, true, false, false] rfl rfl (any_of HT_.out (by kernel_rfl)) (fun _ _ _ h => h) (Or.inl ⟨rfl, ?_⟩) ?_ ?_
         rotate_left
         ·intro w'
          go_simp
          with_reducible rfl
         rotate_left
         ·simp only [Act.put, s2_, s0_, s1_, i64_w, i32_w]
          rfl
         refine take_ (i := 4) (N := some 45) (v := ?_) (a' := ?_) #[true, true, true, true, true, true, false, false] rfl rfl (take_ofW HT_.out HW_.out (by kernel_rfl)) (fun _ _ _ h => h) (Or.inl ⟨rfl, ?_⟩) hHeld ?_ ?_
         rotate_left
         ·rintro w' ⟨s0, s1, s2, s3, s4, s5⟩
          go_simp
          with_reducible rfl
         rotate_left
         ·simp only [Act.put, s2_, s0_, s1_, i64_w, i32_w]
          rfl
         refine take_ (i := 6) (N := some 47) (v := ?_) (a' := ?_) #[true, true, true, true, true, true, true, false] rfl rfl (take_ofW HT_.out HW_.out (by kernel_rfl)) (fun _ _ _ h => h) (Or.inl ⟨rfl, ?_⟩) hHeld ?_ ?_
         rotate_left
         ·rintro w' ⟨s0, s1, s2, s3, s4, s5⟩
          go_simp
          with_reducible rfl
         rotate_left
         ·simp only [Act.put, s2_, s0_, s1_, i64_w, i32_w]
          rfl
         refine pure_ (i := 7) (N := some 48) (v := ?_) (a' := ?_) #[true, true, true, true, true, true, true, true] rfl rfl (any_of HT_.out (by kernel_rfl)) (fun _ _ _ h => h) (Or.inl ⟨rfl, ?_⟩) ?_ ?_
         rotate_left
         ·intro w'
          go_simp
          with_reducible rfl
         rotate_left
         ·simp only [Act.put, s2_, s0_, s1_, i64_w, i32_w]
          rfl
         refine done_ (done_of HT_.out (by kernel_rfl)) ?_
         try go_wp2
         replace HO_7 := am (Kd.R_drew HO_7.out)
         replace BK531 := am (blk_drew BK531.out)
         replace HB := am (below_drew1 HB.out)
         have p543 : 0 ≤ (x9_1 : Int) := of_decide_eq_true (by (with_reducible assumption))
         have q543 : x9_1 < (l2.length : Int) := of_decide_eq_true (by (with_reducible assumption))
         obtain ⟨ad543, e543, hx543_0, hx543_1, hx543_2⟩ := at_T60 HR2.out x9_1 p543 q543
         have hw543_2 := hx543_2
         have hw543_1 := hx543_1
         have hw543_0 := hx543_0
         obtain rfl : ad542 = ad543 := (by injection e543)
         replace hx543_0 := bc_ HB.out hx543_0
         replace hx543_1 := bc_ HB.out hx543_1
         replace hx543_2 := bc_ HB.out hx543_2
         replace p543 := eq_true p543
         replace q543 := eq_true q543
         refine start_ (n := 10) (S := fun w' => w'.cell? ⟨gb531, 0, none⟩ = some (.int .i64 a1_0) ∧ w'.cell? ⟨gb531, 1, none⟩ = some (.int .i64 a1_1) ∧ w'.cell? ⟨gb531, 2, none⟩ = some (.int .i64 a1_2) ∧ w'.cell? (ad542.add ((x9_1).toNat * 3)) = some (.int .i64 ((rd_T60 l2 x9_1).f0)) ∧ w'.cell? ⟨(ad542.add ((x9_1).toNat * 3)).block, (ad542.add ((x9_1).toNat * 3)).off + 1, none⟩ = some (.int .i64 ((rd_T60 l2 x9_1).f1)) ∧ w'.cell? ⟨(ad542.add ((x9_1).toNat * 3)).block, (ad542.add ((x9_1).toNat * 3)).off + 2, none⟩ = some (.int .i64 ((rd_T60 l2 x9_1).f2))) (ds := []) #[false, false, false, false, false, false, false, false, false, false] (by kernel_rfl) rfl rfl ⟨(blk_cell BK531.out 0).trans rfl, (blk_cell BK531.out 1).trans rfl, (blk_cell BK531.out 2).trans rfl, (bc_ HB.out hw543_0), (bc_ HB.out hw543_1), (bc_ HB.out hw543_2)⟩ (fun hHeld => ?_); refine with_tabW spec_l7One.tab16 spec_l7One.bits16 (fun HT_ HW_ => ?_)
         generalize w44.drew = w45 at HO_7 BK531 HB hx543_0 hx543_1 hx543_2 hHeld ⊢
         refine pure_ (i := 0) (N := some 49) (v := ?_) (a' := ?_) #[true, false, false, false, false, false, false, false, false, false] rfl rfl (any_of HT_.out (by kernel_rfl)) (fun _ _ _ h => h) (Or.inl ⟨rfl, ?_⟩) ?_ ?_
         rotate_left
         ·intro w'
          go_simp
          with_reducible rfl
         rotate_left
         ·simp only [Act.put, s2_, s0_, s1_, i64_w, i32_w]
          rfl
         refine pure_ (i := 2) (N := some 51) (v := ?_) (a' := ?_) #[true, false, true, false, false, false, false, false, false, false] rfl rfl (any_of HT_.out (by kernel_rfl)) (fun _ _ _ h => h) (Or.inl ⟨rfl, ?_⟩) ?_ ?_
         rotate_left
         ·intro w'
          go_simp
          with_reducible rfl
         rotate_left
         ·simp only [Act.put, s2_, s0_, s1_, i64_w, i32_w]
          rfl
         refine pure_ (i := 3) (N := some 52) (v := ?_) (a' := ?_) #[true, false, true, true, false, false, false, false, false, false] rfl rfl (any_of HT_.out (by kernel_rfl)) (fun _ _ _ h => h) (Or.inl ⟨rfl, ?_⟩) ?_ ?_
         rotate_left
         ·intro w'
          go_simp
          with_reducible rfl
         rotate_left
         ·simp only [Act.put, s2_, s0_, s1_, i64_w, i32_w]
          rfl
         refine pure_ (i := 4) (N := some 53) (v := ?_) (a' := ?_) #[true, false, true, true, true, false, false, false, false, false] rfl rfl (any_of HT_.out (by kernel_rfl)) (fun _ _ _ h => h) (Or.inl ⟨rfl, ?_⟩) ?_ ?_
         rotate_left
         ·intro w'
          go_simp
          with_reducible rfl
         rotate_left
         ·simp only [Act.put, s2_, s0_, s1_, i64_w, i32_w]
          rfl
         refine take_ (i := 1) (N := some 50) (v := ?_) (a' := ?_) #[true, true, true, true, true, false, false, false, false, false] rfl rfl (take_ofW HT_.out HW_.out (by kernel_rfl)) (fun _ _ _ h => h) (Or.inl ⟨rfl, ?_⟩) hHeld ?_ ?_
         rotate_left
         ·rintro w' ⟨s0, s1, s2, s3, s4, s5⟩
          go_simp
          with_reducible rfl
         rotate_left
         ·simp only [Act.put, s2_, s0_, s1_, i64_w, i32_w]
          rfl
         refine take_ (i := 5) (N := some 54) (v := ?_) (a' := ?_) #[true, true, true, true, true, true, false, false, false, false] rfl rfl (take_ofW HT_.out HW_.out (by kernel_rfl)) (fun _ _ _ h => h) (Or.inl ⟨rfl, ?_⟩) hHeld ?_ ?_
         rotate_left
         ·rintro w' ⟨s0, s1, s2, s3, s4, s5⟩
          go_simp
          with_reducible rfl
         rotate_left
         ·simp only [Act.put, s2_, s0_, s1_, i64_w, i32_w]
          rfl
         refine pure_ (i := 6) (N := some 55) (v := ?_) (a' := ?_) #[true, true, true, true, true, true, true, false, false, false] rfl rfl (any_of HT_.out (by kernel_rfl)) (fun _ _ _ h => h) (Or.inl ⟨rfl, ?_⟩) ?_ ?_
         rotate_left
         ·intro w'
          go_simp
          with_reducible rfl
         rotate_left
         ·simp only [Act.put, s2_, s0_, s1_, i64_w, i32_w]
          rfl
         refine one_ (i := 7) (N := some 56) #[true, true, true, true, true, true, true, true, false, false] rfl rfl (one_of HT_.out (by kernel_rfl)) (by decide) (fun K hK => ?_)
         refine value_ (w1 := ?_) (v := ?_) rfl rfl ?_ ?_
         rotate_left 2
         ·go_simp
          constructor
          ·rfl
          ·rfl
         refine hK.out _ _ ⟨(blk_cell (blk_alloc BK531.out _) 0).trans rfl, (blk_cell (blk_alloc BK531.out _) 1).trans rfl, (blk_cell (blk_alloc BK531.out _) 2).trans rfl, (World.cell?_alloc_lt _ _ _ (World.block_lt_of_cell? _ _ ((bc_ HB.out hw543_0)))).trans ((bc_ HB.out hw543_0)), (World.cell?_alloc_lt _ _ _ (World.block_lt_of_cell? _ _ ((bc_ HB.out hw543_1)))).trans ((bc_ HB.out hw543_1)), (World.cell?_alloc_lt _ _ _ (World.block_lt_of_cell? _ _ ((bc_ HB.out hw543_2)))).trans ((bc_ HB.out hw543_2))⟩ (fun hHeld => ?_)
         clear hK K
         refine norm_ (a' := ?_) ?_ ?_
         rotate_left
         ·show Act.put _ (some 56) _ = _
          simp only [Act.put, s2_, s0_, s1_, i64_w, i32_w]
          rfl
         refine one_ (i := 8) (N := some 57) #[true, true, true, true, true, true, true, true, true, false] rfl rfl (one_of HT_.out (by kernel_rfl)) (by decide) (fun K hK => ?_)
         refine Kd.R_append_step k128 (w0 := w) w.heap.size rfl (.tmp 49) (.tmp 56) 33 128 (.agg #[(.int .i64 0), (.int .i64 0), (.int .i64 0), (.int .i64 0), (.int .i64 0), (.int .i64 0), (.bool false)]) 56 rfl Try.underlying33 info128 rfl (by decide) (by omega) u7 x7_1 (⟨(⟨a1_0, a1_1, a1_2⟩ : S60), (⟨(rd_T60 l2 x9_1).f0, (rd_T60 l2 x9_1).f1, (rd_T60 l2 x9_1).f2⟩ : S60), true⟩ : S128) [.int .i64 a1_0, .int .i64 a1_1, .int .i64 a1_2, .int .i64 ((rd_T60 l2 x9_1).f0), .int .i64 ((rd_T60 l2 x9_1).f1), .int .i64 ((rd_T60 l2 x9_1).f2), .bool true] (fun _ => True) (fun _ => False) rfl rfl ?aP (fun _ hk => hk.elim) ?aF ?aO ?aB ?aS ?aL ?_
         (case aP => exact k128_mkM _ _ _ (⟨(⟨a1_0, a1_1, a1_2⟩ : S60), (⟨(rd_T60 l2 x9_1).f0, (rd_T60 l2 x9_1).f1, (rd_T60 l2 x9_1).f2⟩ : S60), true⟩ : S128))
         (case aB => exact HB.out)
         (case aF => exact (fun _ _ => trivial))
         (case aO => exact HO_7.out)
         (case aS => exact (below_size HB.out))
         (case aL => have := LMc43.out; omega)
         intro v545 w46 ho hb hg hat
         rw [← Ny544.out] at ho
         replace BK531 := am (blk_grown BK531.out hg (Kd.R_ne HO_7.out BK531.out (by decide)))
         replace HB := am (hb)
         have HO546 := am (ho)
         clear HO_7 ho hb hg hat
         refine hK.out _ _ ⟨(blk_cell BK531.out 0).trans rfl, (blk_cell BK531.out 1).trans rfl, (blk_cell BK531.out 2).trans rfl, (bc_ HB.out hw543_0), (bc_ HB.out hw543_1), (bc_ HB.out hw543_2)⟩ (fun hHeld => ?_)
         clear hK K
         refine norm_ (a' := ?_) ?_ ?_
         rotate_left
         ·show Act.put _ (some 57) _ = _
          simp only [Act.put, s2_, s0_, s1_, i64_w, i32_w]
          rfl
         refine pure_ (i := 9) (N := some 7) (v := ?_) (a' := ?_) #[true, true, true, true, true, true, true, true, true, true] rfl rfl (any_of HT_.out (by kernel_rfl)) (fun _ _ _ h => h) (Or.inl ⟨rfl, ?_⟩) ?_ ?_
         rotate_left
         ·intro w'
          go_simp
          with_reducible rfl
         rotate_left
         ·simp only [Act.put, s2_, s0_, s1_, i64_w, i32_w]
          rfl
         refine done_ (done_of HT_.out (by kernel_rfl)) ?_
         try go_wp2
         go_roundg k1
         case measure => have := HK1.out; omega
         case rel => exact ⟨(y544), (wrap64 (x9_1 + 1)), rfl, H', ⟨by have := HK1.out; omega⟩, ⟨HO546.out⟩, ⟨BK531.out⟩, ⟨HB.out⟩⟩
        ·rw [if_neg c43] at H
         exact absurd H (by simp)
       ·rw [if_neg c42] at H
        have c42b0 : (((rd_T60 l2 x9_1).f0) == a1_0) = false := beq_eq_false_iff_ne.mpr c42
        have c42b1 : (((rd_T60 l2 x9_1).f0) != a1_0) = true := bne_iff_ne.mpr c42
        have H' := am H
        clear H
        try go_wp2
        replace HO_7 := am (Kd.R_drew HO_7.out)
        replace BK531 := am (blk_drew BK531.out)
        replace HB := am (below_drew1 HB.out)
        have p542 : 0 ≤ (x9_1 : Int) := of_decide_eq_true (by (with_reducible assumption))
        have q542 : x9_1 < (l2.length : Int) := of_decide_eq_true (by (with_reducible assumption))
        obtain ⟨ad542, e542, hx542_0, hx542_1, hx542_2⟩ := at_T60 HR2.out x9_1 p542 q542
        have hw542_2 := hx542_2
        have hw542_1 := hx542_1
        have hw542_0 := hx542_0
        cases e542
        replace hx542_0 := bc_ HB.out hx542_0
        replace hx542_1 := bc_ HB.out hx542_1
        replace hx542_2 := bc_ HB.out hx542_2
        replace p542 := eq_true p542
        replace q542 := eq_true q542
        refine start_ (n := 8) (S := fun w' => w'.cell? ⟨gb531, 0, none⟩ = some (.int .i64 a1_0) ∧ w'.cell? ⟨gb531, 1, none⟩ = some (.int .i64 a1_1) ∧ w'.cell? ⟨gb531, 2, none⟩ = some (.int .i64 a1_2) ∧ w'.cell? (ad542.add ((x9_1).toNat * 3)) = some (.int .i64 ((rd_T60 l2 x9_1).f0)) ∧ w'.cell? ⟨(ad542.add ((x9_1).toNat * 3)).block, (ad542.add ((x9_1).toNat * 3)).off + 1, none⟩ = some (.int .i64 ((rd_T60 l2 x9_1).f1)) ∧ w'.cell? ⟨(ad542.add ((x9_1).toNat * 3)).block, (ad542.add ((x9_1).toNat * 3)).off + 2, none⟩ = some (.int .i64 ((rd_T60 l2 x9_1).f2))) (ds := []) #[false, false, false, false, false, false, false, false] (by kernel_rfl) rfl rfl ⟨(blk_cell BK531.out 0).trans rfl, (blk_cell BK531.out 1).trans rfl, (blk_cell BK531.out 2).trans rfl, (bc_ HB.out hw542_0), (bc_ HB.out hw542_1), (bc_ HB.out hw542_2)⟩ (fun hHeld => ?_); refine with_tabW spec_l7One.tab15 spec_l7One.bits15 (fun HT_ HW_ => ?_)
        generalize wr.drew = w47 at HO_7 BK531 HB hx542_0 hx542_1 hx542_2 hHeld ⊢
        refine pure_ (i := 0) (N := some 41) (v := ?_) (a' := ?_) #[true, false, false, false, false, false, false, false] rfl rfl (any_of HT_.out (by kernel_rfl)) (fun _ _ _ h => h) (Or.inl ⟨rfl, ?_⟩) ?_ ?_
        rotate_left
        ·intro w'
         go_simp
         with_reducible rfl
        rotate_left
        ·simp only [Act.put, s2_, s0_, s1_, i64_w, i32_w]
         rfl
        refine pure_ (i := 1) (N := some 42) (v := ?_) (a' := ?_) #[true, true, false, false, false, false, false, false] rfl rfl (any_of HT_.out (by kernel_rfl)) (fun _ _ _ h => h) (Or.inl ⟨rfl, ?_⟩) ?_ ?_
        rotate_left
        ·intro w'
         go_simp
         with_reducible rfl
        rotate_left
        ·simp only [Act.put, s2_, s0_, s1_, i64_w, i32_w]
         rfl
        refine pure_ (i := 2) (N := some 43) (v := ?_) (a' := ?_) #[true, true, true, false, false, false, false, false] rfl rfl (any_of HT_.out (by kernel_rfl)) (fun _ _ _ h => h) (Or.inl ⟨rfl, ?_⟩) ?_ ?_
        rotate_left
        ·intro w'
         go_simp
         with_reducible rfl
        rotate_left
        ·simp only [Act.put, s2_, s0_, s1_, i64_w, i32_w]
         rfl
        refine pure_ (i := 3) (N := some 44) (v := ?_) (a' := ?_) #[true, true, true, true, false, false, false, false] rfl rfl (any_of HT_.out (by kernel_rfl)) (fun _ _ _ h => h) (Or.inl ⟨rfl, ?_⟩) ?_ ?_
        rotate_left
        ·intro w'
         go_simp
         with_reducible rfl
        rotate_left
        ·simp only [Act.put, s2_, s0_, s1_, i64_w, i32_w]
         rfl
        refine pure_ (i := 5) (N := some 46) (v := ?_) (a' := ?_) #[true, true, true, true, false, true, false, false] rfl rfl (any_of HT_.out (by kernel_rfl)) (fun _ _ _ h => h) (Or.inl ⟨rfl, ?_⟩) ?_ ?_
        rotate_left
        ·intro w'
         go_simp
         with_reducible rfl
        rotate_left
        ·simp only [Act.put, s2_, s0_, s1_, i64_w, i32_w]
         rfl
        refine take_ (i := 4) (N := some 45) (v := ?_) (a' := ?_) #[true, true, true, true, true, true, false, false] rfl rfl (take_ofW HT_.out HW_.out (by kernel_rfl)) (fun _ _ _ h => h) (Or.inl ⟨rfl, ?_⟩) hHeld ?_ ?_
        rotate_left
        ·rintro w' ⟨s0, s1, s2, s3, s4, s5⟩
         go_simp
         with_reducible rfl
        rotate_left
        ·simp only [Act.put, s2_, s0_, s1_, i64_w, i32_w]
         rfl
        refine take_ (i := 6) (N := some 47) (v := ?_) (a' := ?_) #[true, true, true, true, true, true, true, false] rfl rfl (take_ofW HT_.out HW_.out (by kernel_rfl)) (fun _ _ _ h => h) (Or.inl ⟨rfl, ?_⟩) hHeld ?_ ?_
        rotate_left
        ·rintro w' ⟨s0, s1, s2, s3, s4, s5⟩
         go_simp
         with_reducible rfl
        rotate_left
        ·simp only [Act.put, s2_, s0_, s1_, i64_w, i32_w]
         rfl
        refine pure_ (i := 7) (N := some 48) (v := ?_) (a' := ?_) #[true, true, true, true, true, true, true, true] rfl rfl (any_of HT_.out (by kernel_rfl)) (fun _ _ _ h => h) (Or.inl ⟨rfl, ?_⟩) ?_ ?_
        rotate_left
        ·intro w'
         go_simp
         with_reducible rfl
        rotate_left
        ·simp only [Act.put, s2_, s0_, s1_, i64_w, i32_w]
         rfl
        refine done_ (done_of HT_.out (by kernel_rfl)) ?_
        try go_wp2
        go_roundg k1
        case measure => have := HK1.out; omega
        case rel => exact ⟨(x7_1), (wrap64 (x9_1 + 1)), rfl, H', ⟨by have := HK1.out; omega⟩, ⟨HO_7.out⟩, ⟨BK531.out⟩, ⟨HB.out⟩⟩
      ·rw [if_neg c41] at H
       exact absurd H (by simp)
     ·rw [if_neg c40] at H
      have c40b0 : decide (x9_1 < (l2.length : Int)) = false := decide_eq_false c40
      clear c40
      by_cases c48 : t535 = 0
      ·rw [if_pos c48] at H
       have c48b0 : (t535 == 0) = true := beq_iff_eq.mpr c48
       have c48b1 : (t535 != 0) = false := bne_eq_false_iff_eq.mpr c48
       clear c48
       by_cases c49 : a0 = 4
       ·rw [if_pos c49] at H
        have c49b0 : (a0 == 4) = true := beq_iff_eq.mpr c49
        have c49b1 : (a0 != 4) = false := bne_eq_false_iff_eq.mpr c49
        clear c49
        by_cases c50 : x7_1.length < 2513169434916
        ·rw [if_pos c50] at H
         have LMc50 := am c50
         clear c50
         obtain ⟨y547, hy547⟩ : ∃ y_ : List (S128), y_ = (x7_1 ++ [(⟨(⟨a1_0, a1_1, a1_2⟩ : S60), (⟨0, 0, 0⟩ : S60), false⟩ : S128)]) := ⟨_, rfl⟩
         replace H : (some y547) = some r := by (rw [hy547]; with_reducible exact H)
         have Ny547 := am hy547
         clear hy547
         obtain rfl := Option.some.inj H
         obtain ⟨hcz51_0, hcz51_1, hcz51_2, hfz51_0, hfz51_1, hfz51_2⟩ := cells3_ BK531.out
         go_wp2_with (((with_reducible refine gate_builtin (b := .append) (xs := #[.tmp 64, .tmp 67]) rfl ?_); at_builtin; refine Kd.R_append k128 (w0 := w) w.heap.size rfl (.tmp 64) (.tmp 67) 33 128 (.agg #[(.int .i64 0), (.int .i64 0), (.int .i64 0), (.int .i64 0), (.int .i64 0), (.int .i64 0), (.bool false)]) 56 rfl Try.underlying33 info128 rfl (by decide) (by omega) u7 x7_1 (⟨(⟨a1_0, a1_1, a1_2⟩ : S60), (⟨0, 0, 0⟩ : S60), false⟩ : S128) [.int .i64 a1_0, .int .i64 a1_1, .int .i64 a1_2, .int .i64 0, .int .i64 0, .int .i64 0, .bool false] (fun _ => True) (fun _ => False) rfl rfl ?aP (fun _ hk => hk.elim) ?aF ?aO ?aB ?aS ?aL ?_; (case aP => exact k128_mkM _ _ _ (⟨(⟨a1_0, a1_1, a1_2⟩ : S60), (⟨0, 0, 0⟩ : S60), false⟩ : S128)); (case aB => exact HB.out); (case aF => exact (fun _ _ => trivial)); (case aO => exact HO_7.out); (case aS => exact (below_size HB.out)); (case aL => have := LMc50.out; omega); intro v548 w52 ho hb hg hat; rw [← Ny547.out] at ho; replace BK531 := am (blk_grown BK531.out hg (Kd.R_ne HO_7.out BK531.out (by decide))); replace HB := am (hb); have HO549 := am (ho); clear HO_7 ho hb hg hat))
         go_ret
         exact ⟨_, rfl, HO549.out, HB.out⟩
        ·rw [if_neg c50] at H
         exact absurd H (by simp)
       ·rw [if_neg c49] at H
        have c49b0 : (a0 == 4) = false := beq_eq_false_iff_ne.mpr c49
        have c49b1 : (a0 != 4) = true := bne_iff_ne.mpr c49
        obtain rfl := Option.some.inj H
        go_wp2
        go_ret
        exact ⟨_, rfl, HO_7.out, HB.out⟩
      ·rw [if_neg c48] at H
       have c48b0 : (t535 == 0) = false := beq_eq_false_iff_ne.mpr c48
       have c48b1 : (t535 != 0) = true := bne_iff_ne.mpr c48
       obtain rfl := Option.some.inj H
       go_wp2
       go_ret
       exact ⟨_, rfl, HO_7.out, HB.out⟩

def spec_l16Copy.f (a0_0 : Int) (l0_1 : List (S60)) (l0_2 : List (S60)) (l0_3 : List Bool) (a0_4 : Int) : Option (Int × (List (S60)) × (List (S60)) × List Bool × Int) := (some (([] : List (S60)) : List (S60))).bind fun y552 => (if y552.length + l0_1.length < 5864062014805 then ((some (([] : List (S60)) : List (S60))).bind fun y558 => (if y558.length + l0_2.length < 5864062014805 then ((some (([] : List Bool) : List Bool)).bind fun y564 => (if y564.length + l0_3.length < 140737488355328 then (some (a0_0, (y552 ++ l0_1), (y558 ++ l0_2), (y564 ++ l0_3), a0_4)) else (none))) else (none))) else (none))
def spec_l16Copy.T1 : Bool × List (List Nat × List Nat) := (true, [([], []), ([0], [0]), ([], []), ([], []), ([3], [3]), ([2, 4], [2, 4]), ([], []), ([], []), ([7], [7]), ([6, 8, 5], [6, 8]), ([], []), ([], []), ([11], [11]), ([10, 12, 9], [10, 12]), ([], []), ([14], [14]), ([1, 5, 9, 13, 15], [1, 5, 9, 13, 15]), ([16, 13, 0, 1, 2, 3, 4, 5, 6, 7, 8, 9, 10, 11, 12, 13, 14, 15, 16], [16])])
def spec_l16Copy.B1 : List Nat := [0, 1, 0, 0, 8, 28, 0, 0, 128, 508, 0, 0, 2048, 8188, 0, 16384, 65535, 131071]
theorem spec_l16Copy.tab1 : rtab .any (opsOf Try.f161 1) = spec_l16Copy.T1 := by kernel_rfl
theorem spec_l16Copy.bits1 : waitsOk spec_l16Copy.T1.2 spec_l16Copy.B1 = true := by kernel_rfl
theorem spec_l16Copy.calls (a0_0 : Int) (A0_1 : Option Addr) (c0_1 : Nat) (l0_1 : List (S60)) (A0_2 : Option Addr) (c0_2 : Nat) (l0_2 : List (S60)) (A0_3 : Option Addr) (c0_3 : Nat) (l0_3 : List Bool) (a0_4 : Int) (r1 : Int) (r2 : List (S60)) (r3 : List (S60)) (r4 : List Bool) (r5 : Int) (w : World) (hr0_1 : Kd.C k60 w A0_1 l0_1.length l0_1) (hc0_1 : l0_1.length ≤ c0_1) (hr0_2 : Kd.C k60 w A0_2 l0_2.length l0_2) (hc0_2 : l0_2.length ≤ c0_2) (hr0_3 : Kd.C Kd.bool w A0_3 l0_3.length l0_3) (hc0_3 : l0_3.length ≤ c0_3) (h : spec_l16Copy.f a0_0 l0_1 l0_2 l0_3 a0_4 = some (r1, r2, r3, r4, r5)) :
  Calls Try.prog 161 #[.agg #[.int .i64 a0_0, .slice A0_1 l0_1.length c0_1, .slice A0_2 l0_2.length c0_2, .slice A0_3 l0_3.length c0_3, .int .i64 a0_4]] w fun e w' => ∃ v1_ v2_ v3_ : Value, e = .returned (.agg #[.int .i64 r1, v1_, v2_, v3_, .int .i64 r5]) ∧ Kd.R k60 60 w' w.heap.size (fun k_ => some k_ ≠ (v2_ : Value).ownBlock) v1_ r2 ∧ Kd.R k60 60 w' w.heap.size (fun k_ => some k_ ≠ (v1_ : Value).ownBlock) v2_ r3 ∧ Kd.R Kd.bool 4 w' w.heap.size (fun _ => True) v3_ r4 ∧ Below w.heap.size w w' := by
 have hu40 := Try.underlying40
 have HR0_1 := am hr0_1
 have HC0_1 := am hc0_1
 clear hr0_1 hc0_1
 have HR0_2 := am hr0_2
 have HC0_2 := am hc0_2
 clear hr0_2 hc0_2
 have HR0_3 := am hr0_3
 have HC0_3 := am hc0_3
 clear hr0_3 hc0_3
 have HB := am (Below.refl w.heap.size w)
 have H : ((some (([] : List (S60)) : List (S60))).bind fun y552 => (if y552.length + l0_1.length < 5864062014805 then ((some (([] : List (S60)) : List (S60))).bind fun y558 => (if y558.length + l0_2.length < 5864062014805 then ((some (([] : List Bool) : List Bool)).bind fun y564 => (if y564.length + l0_3.length < 140737488355328 then (some (a0_0, (y552 ++ l0_1), (y558 ++ l0_2), (y564 ++ l0_3), a0_4)) else (none))) else (none))) else (none))) = some (r1, r2, r3, r4, r5) := h
 clear h
 obtain ⟨y552, hy552, H⟩ := bindO_ H
 have Ny552 := am hy552
 clear hy552
 by_cases c2 : y552.length + l0_1.length < 5864062014805
 ·rw [if_pos c2] at H
  have LMc2 := am c2
  clear c2
  obtain ⟨y555, hy555⟩ : ∃ y_ : List (S60), y_ = (y552 ++ l0_1) := ⟨_, rfl⟩
  replace H : ((some (([] : List (S60)) : List (S60))).bind fun y558 => (if y558.length + l0_2.length < 5864062014805 then ((some (([] : List Bool) : List Bool)).bind fun y564 => (if y564.length + l0_3.length < 140737488355328 then (some (a0_0, y555, (y558 ++ l0_2), (y564 ++ l0_3), a0_4)) else (none))) else (none))) = some (r1, r2, r3, r4, r5) := by (rw [hy555]; with_reducible exact H)
  have Ny555 := am hy555
  clear hy555
  obtain ⟨y558, hy558, H⟩ := bindO_ H
  have Ny558 := am hy558
  clear hy558
  by_cases c3 : y558.length + l0_2.length < 5864062014805
  ·rw [if_pos c3] at H
   have LMc3 := am c3
   clear c3
   obtain ⟨y561, hy561⟩ : ∃ y_ : List (S60), y_ = (y558 ++ l0_2) := ⟨_, rfl⟩
   replace H : ((some (([] : List Bool) : List Bool)).bind fun y564 => (if y564.length + l0_3.length < 140737488355328 then (some (a0_0, y555, y561, (y564 ++ l0_3), a0_4)) else (none))) = some (r1, r2, r3, r4, r5) := by (rw [hy561]; with_reducible exact H)
   have Ny561 := am hy561
   clear hy561
   obtain ⟨y564, hy564, H⟩ := bindO_ H
   have Ny564 := am hy564
   clear hy564
   by_cases c4 : y564.length + l0_3.length < 140737488355328
   ·rw [if_pos c4] at H
    have LMc4 := am c4
    clear c4
    obtain ⟨y567, hy567⟩ : ∃ y_ : List Bool, y_ = (y564 ++ l0_3) := ⟨_, rfl⟩
    replace H : (some (a0_0, y555, y561, y567, a0_4)) = some (r1, r2, r3, r4, r5) := by (rw [hy567]; with_reducible exact H)
    have Ny567 := am hy567
    clear hy567
    simp only [Option.some.injEq, Prod.mk.injEq] at H
    obtain ⟨rfl, rfl, rfl, rfl, rfl⟩ := H
    go_enter Try.func161, Try.ntmps161
    try go_wp2_with (first | ((with_reducible refine gate_dst (N := 1) rfl ?_); refine box_event ?hg (N := 1) ?hd (cs := #[.int .i64 a0_0, .slice A0_1 l0_1.length c0_1, .slice A0_2 l0_2.length c0_2, .slice A0_3 l0_3.length c0_3, .int .i64 a0_4]) (t := 40) ?hr ?_; (case hd => rfl); (case hg => rfl); (case hr => (go_simp; done)); intro gb550 hg w5 hbox hb; have BK550 := am (hbox); have GW550 := am (gw_ hg HB.out); have GE550 := am (gw_ hg HB.out); replace HB := am (below_step HB.out hb); clear hb hbox hg) | ((with_reducible refine gate_dst (N := 2) rfl ?_); refine box_event ?hg (N := 2) ?hd (cs := #[.int .i64 0, .slice none 0 0, .slice none 0 0, .slice none 0 0, .int .i64 0]) (t := 40) ?hr ?_; (case hd => rfl); (case hg => rfl); (case hr => (go_simp; done)); intro gb551 hg w6 hbox hb; have BK551 := am (hbox); have GW551 := am (gw_ hg HB.out); have GE551 := am (gw_ hg HB.out); replace HB := am (below_step HB.out hb); have NB550_551 := am ((by rw [hg]; exact Nat.ne_of_lt (blk_lt (g := gb550) (o := .cells #[.int .i64 a0_0, .slice A0_1 l0_1.length c0_1, .slice A0_2 l0_2.length c0_2, .slice A0_3 l0_3.length c0_3, .int .i64 a0_4] 40 (0, 0)) BK550.out) : gb550 ≠ gb551)); have NB551_550 := am ((by rw [hg]; exact Nat.ne_of_gt (blk_lt (g := gb550) (o := .cells #[.int .i64 a0_0, .slice A0_1 l0_1.length c0_1, .slice A0_2 l0_2.length c0_2, .slice A0_3 l0_3.length c0_3, .int .i64 a0_4] 40 (0, 0)) BK550.out) : gb551 ≠ gb550)); replace BK550 := am (blk_below BK550.out hb); clear hb hbox hg))
    replace BK550 := am (blk_drew BK550.out)
    replace BK551 := am (blk_drew BK551.out)
    replace HB := am (below_drew1 HB.out)
    refine start_ (n := 18) (S := fun w' => w'.cell? ⟨gb550, 0, none⟩ = some (.int .i64 a0_0) ∧ w'.cell? ⟨gb550, 1, none⟩ = some (.slice A0_1 l0_1.length c0_1) ∧ w'.cell? ⟨gb550, 2, none⟩ = some (.slice A0_2 l0_2.length c0_2) ∧ w'.cell? ⟨gb550, 3, none⟩ = some (.slice A0_3 l0_3.length c0_3) ∧ w'.cell? ⟨gb550, 4, none⟩ = some (.int .i64 a0_4)) (ds := []) #[false, false, false, false, false, false, false, false, false, false, false, false, false, false, false, false, false, false] (by kernel_rfl) rfl rfl ⟨(blk_cell BK550.out 0).trans rfl, (blk_cell BK550.out 1).trans rfl, (blk_cell BK550.out 2).trans rfl, (blk_cell BK550.out 3).trans rfl, (blk_cell BK550.out 4).trans rfl⟩ (fun hHeld => ?_); refine with_tabW spec_l16Copy.tab1 spec_l16Copy.bits1 (fun HT_ HW_ => ?_)
    generalize w6.drew = w7 at BK550 BK551 HB hHeld ⊢
    refine pure_ (i := 0) (N := some 3) (v := ?_) (a' := ?_) #[true, false, false, false, false, false, false, false, false, false, false, false, false, false, false, false, false, false] rfl rfl (any_of HT_.out (by kernel_rfl)) (fun _ _ _ h => h) (Or.inl ⟨rfl, ?_⟩) ?_ ?_
    rotate_left
    ·intro w'
     go_simp
     with_reducible rfl
    rotate_left
    ·simp only [Act.put, s2_, s0_, s1_, i64_w, i32_w]
     rfl
    refine pure_ (i := 3) (N := some 6) (v := ?_) (a' := ?_) #[true, false, false, true, false, false, false, false, false, false, false, false, false, false, false, false, false, false] rfl rfl (any_of HT_.out (by kernel_rfl)) (fun _ _ _ h => h) (Or.inl ⟨rfl, ?_⟩) ?_ ?_
    rotate_left
    ·intro w'
     go_simp
     with_reducible rfl
    rotate_left
    ·simp only [Act.put, s2_, s0_, s1_, i64_w, i32_w]
     rfl
    refine pure_ (i := 7) (N := some 10) (v := ?_) (a' := ?_) #[true, false, false, true, false, false, false, true, false, false, false, false, false, false, false, false, false, false] rfl rfl (any_of HT_.out (by kernel_rfl)) (fun _ _ _ h => h) (Or.inl ⟨rfl, ?_⟩) ?_ ?_
    rotate_left
    ·intro w'
     go_simp
     with_reducible rfl
    rotate_left
    ·simp only [Act.put, s2_, s0_, s1_, i64_w, i32_w]
     rfl
    refine pure_ (i := 11) (N := some 14) (v := ?_) (a' := ?_) #[true, false, false, true, false, false, false, true, false, false, false, true, false, false, false, false, false, false] rfl rfl (any_of HT_.out (by kernel_rfl)) (fun _ _ _ h => h) (Or.inl ⟨rfl, ?_⟩) ?_ ?_
    rotate_left
    ·intro w'
     go_simp
     with_reducible rfl
    rotate_left
    ·simp only [Act.put, s2_, s0_, s1_, i64_w, i32_w]
     rfl
    refine pure_ (i := 14) (N := some 17) (v := ?_) (a' := ?_) #[true, false, false, true, false, false, false, true, false, false, false, true, false, false, true, false, false, false] rfl rfl (any_of HT_.out (by kernel_rfl)) (fun _ _ _ h => h) (Or.inl ⟨rfl, ?_⟩) ?_ ?_
    rotate_left
    ·intro w'
     go_simp
     with_reducible rfl
    rotate_left
    ·simp only [Act.put, s2_, s0_, s1_, i64_w, i32_w]
     rfl
    refine take_ (i := 1) (N := some 4) (v := ?_) (a' := ?_) #[true, true, false, true, false, false, false, true, false, false, false, true, false, false, true, false, false, false] rfl rfl (take_ofW HT_.out HW_.out (by kernel_rfl)) (fun _ _ _ h => h) (Or.inl ⟨rfl, ?_⟩) hHeld ?_ ?_
    rotate_left
    ·rintro w' ⟨s0, s1, s2, s3, s4⟩
     go_simp
     with_reducible rfl
    rotate_left
    ·simp only [Act.put, s2_, s0_, s1_, i64_w, i32_w]
     rfl
    refine take_ (i := 4) (N := some 7) (v := ?_) (a' := ?_) #[true, true, false, true, true, false, false, true, false, false, false, true, false, false, true, false, false, false] rfl rfl (take_ofW HT_.out HW_.out (by kernel_rfl)) (fun _ _ _ h => h) (Or.inl ⟨rfl, ?_⟩) hHeld ?_ ?_
    rotate_left
    ·rintro w' ⟨s0, s1, s2, s3, s4⟩
     go_simp
     with_reducible rfl
    rotate_left
    ·simp only [Act.put, s2_, s0_, s1_, i64_w, i32_w]
     rfl
    refine take_ (i := 8) (N := some 11) (v := ?_) (a' := ?_) #[true, true, false, true, true, false, false, true, true, false, false, true, false, false, true, false, false, false] rfl rfl (take_ofW HT_.out HW_.out (by kernel_rfl)) (fun _ _ _ h => h) (Or.inl ⟨rfl, ?_⟩) hHeld ?_ ?_
    rotate_left
    ·rintro w' ⟨s0, s1, s2, s3, s4⟩
     go_simp
     with_reducible rfl
    rotate_left
    ·simp only [Act.put, s2_, s0_, s1_, i64_w, i32_w]
     rfl
    refine take_ (i := 12) (N := some 15) (v := ?_) (a' := ?_) #[true, true, false, true, true, false, false, true, true, false, false, true, true, false, true, false, false, false] rfl rfl (take_ofW HT_.out HW_.out (by kernel_rfl)) (fun _ _ _ h => h) (Or.inl ⟨rfl, ?_⟩) hHeld ?_ ?_
    rotate_left
    ·rintro w' ⟨s0, s1, s2, s3, s4⟩
     go_simp
     with_reducible rfl
    rotate_left
    ·simp only [Act.put, s2_, s0_, s1_, i64_w, i32_w]
     rfl
    refine take_ (i := 15) (N := some 18) (v := ?_) (a' := ?_) #[true, true, false, true, true, false, false, true, true, false, false, true, true, false, true, true, false, false] rfl rfl (take_ofW HT_.out HW_.out (by kernel_rfl)) (fun _ _ _ h => h) (Or.inl ⟨rfl, ?_⟩) hHeld ?_ ?_
    rotate_left
    ·rintro w' ⟨s0, s1, s2, s3, s4⟩
     go_simp
     with_reducible rfl
    rotate_left
    ·simp only [Act.put, s2_, s0_, s1_, i64_w, i32_w]
     rfl
    refine join_ (σ := Value × Value × Value × Value × Value) 3 #[true, true, true, true, true, true, true, true, true, true, true, true, true, false, true, true, false, false] (fun s_ => [(5, s_.1), (8, s_.2.1), (9, s_.2.2.1), (12, s_.2.2.2.1), (13, s_.2.2.2.2)]) (fun s_ w' => (w'.cell? ⟨gb550, 0, none⟩ = some (.int .i64 a0_0) ∧ w'.cell? ⟨gb550, 1, none⟩ = some (.slice A0_1 l0_1.length c0_1) ∧ w'.cell? ⟨gb550, 2, none⟩ = some (.slice A0_2 l0_2.length c0_2) ∧ w'.cell? ⟨gb550, 3, none⟩ = some (.slice A0_3 l0_3.length c0_3) ∧ w'.cell? ⟨gb550, 4, none⟩ = some (.int .i64 a0_4)) ∧ (Kd.R k60 60 w' w.heap.size (fun k_ => some k_ ≠ (s_.2.2.2.1 : Value).ownBlock) s_.2.1 y555) ∧ (Kd.R k60 60 w' w.heap.size (fun k_ => some k_ ≠ (s_.2.1 : Value).ownBlock) s_.2.2.2.1 y561) ∧ (Kd.R Kd.bool 4 w' w.heap.size (fun _ => True) s_.2.2.2.2 y564) ∧ (w'.heap[gb550]? = some (.cells #[.int .i64 a0_0, .slice A0_1 l0_1.length c0_1, .slice A0_2 l0_2.length c0_2, .slice A0_3 l0_3.length c0_3, .int .i64 a0_4] 40 (0, 0))) ∧ (w'.heap[gb551]? = some (.cells #[.int .i64 0, .slice none 0 0, .slice none 0 0, .slice none 0 0, .int .i64 0] 40 (0, 0))) ∧ (Below w.heap.size w w')) ?_ ?_
    rotate_left
    ·intro hJ2_5_6_9_10
     refine join_ (σ := Value × Value × Value × Value) 4 #[true, true, true, true, true, true, true, true, true, true, false, true, true, false, true, true, false, false] (fun s_ => [(5, s_.1), (8, s_.2.1), (9, s_.2.2.1), (12, s_.2.2.2)]) (fun s_ w' => (w'.cell? ⟨gb550, 0, none⟩ = some (.int .i64 a0_0) ∧ w'.cell? ⟨gb550, 1, none⟩ = some (.slice A0_1 l0_1.length c0_1) ∧ w'.cell? ⟨gb550, 2, none⟩ = some (.slice A0_2 l0_2.length c0_2) ∧ w'.cell? ⟨gb550, 3, none⟩ = some (.slice A0_3 l0_3.length c0_3) ∧ w'.cell? ⟨gb550, 4, none⟩ = some (.int .i64 a0_4)) ∧ (Kd.R k60 60 w' w.heap.size (fun k_ => some k_ ≠ (s_.2.2.2 : Value).ownBlock) s_.2.1 y555) ∧ (Kd.R k60 60 w' w.heap.size (fun k_ => some k_ ≠ (s_.2.1 : Value).ownBlock) s_.2.2.2 y561) ∧ (w'.heap[gb550]? = some (.cells #[.int .i64 a0_0, .slice A0_1 l0_1.length c0_1, .slice A0_2 l0_2.length c0_2, .slice A0_3 l0_3.length c0_3, .int .i64 a0_4] 40 (0, 0))) ∧ (w'.heap[gb551]? = some (.cells #[.int .i64 0, .slice none 0 0, .slice none 0 0, .slice none 0 0, .int .i64 0] 40 (0, 0))) ∧ (Below w.heap.size w w')) ?_ ?_
     rotate_left
     ·intro hJ2_5_6_9
      refine join_ (σ := Value × Value × Value × Value) 4 #[true, true, true, true, true, true, true, true, true, false, true, true, true, false, true, true, false, false] (fun s_ => [(5, s_.1), (8, s_.2.1), (9, s_.2.2.1), (13, s_.2.2.2)]) (fun s_ w' => (w'.cell? ⟨gb550, 0, none⟩ = some (.int .i64 a0_0) ∧ w'.cell? ⟨gb550, 1, none⟩ = some (.slice A0_1 l0_1.length c0_1) ∧ w'.cell? ⟨gb550, 2, none⟩ = some (.slice A0_2 l0_2.length c0_2) ∧ w'.cell? ⟨gb550, 3, none⟩ = some (.slice A0_3 l0_3.length c0_3) ∧ w'.cell? ⟨gb550, 4, none⟩ = some (.int .i64 a0_4)) ∧ (Kd.R k60 60 w' w.heap.size (fun k_ => some k_ ≠ (s_.2.2.1 : Value).ownBlock) s_.2.1 y555) ∧ (Kd.R k60 60 w' w.heap.size (fun k_ => some k_ ≠ (s_.2.1 : Value).ownBlock) s_.2.2.1 y558) ∧ (Kd.R Kd.bool 4 w' w.heap.size (fun _ => True) s_.2.2.2 y564) ∧ (w'.heap[gb550]? = some (.cells #[.int .i64 a0_0, .slice A0_1 l0_1.length c0_1, .slice A0_2 l0_2.length c0_2, .slice A0_3 l0_3.length c0_3, .int .i64 a0_4] 40 (0, 0))) ∧ (w'.heap[gb551]? = some (.cells #[.int .i64 0, .slice none 0 0, .slice none 0 0, .slice none 0 0, .int .i64 0] 40 (0, 0))) ∧ (Below w.heap.size w w')) ?_ ?_
      rotate_left
      ·intro hJ2_5_6_10
       refine join_ (σ := Value × Value × Value) 5 #[true, true, true, true, true, true, true, true, true, false, false, true, true, false, true, true, false, false] (fun s_ => [(5, s_.1), (8, s_.2.1), (9, s_.2.2)]) (fun s_ w' => (w'.cell? ⟨gb550, 0, none⟩ = some (.int .i64 a0_0) ∧ w'.cell? ⟨gb550, 1, none⟩ = some (.slice A0_1 l0_1.length c0_1) ∧ w'.cell? ⟨gb550, 2, none⟩ = some (.slice A0_2 l0_2.length c0_2) ∧ w'.cell? ⟨gb550, 3, none⟩ = some (.slice A0_3 l0_3.length c0_3) ∧ w'.cell? ⟨gb550, 4, none⟩ = some (.int .i64 a0_4)) ∧ (Kd.R k60 60 w' w.heap.size (fun k_ => some k_ ≠ (s_.2.2 : Value).ownBlock) s_.2.1 y555) ∧ (Kd.R k60 60 w' w.heap.size (fun k_ => some k_ ≠ (s_.2.1 : Value).ownBlock) s_.2.2 y558) ∧ (w'.heap[gb550]? = some (.cells #[.int .i64 a0_0, .slice A0_1 l0_1.length c0_1, .slice A0_2 l0_2.length c0_2, .slice A0_3 l0_3.length c0_3, .int .i64 a0_4] 40 (0, 0))) ∧ (w'.heap[gb551]? = some (.cells #[.int .i64 0, .slice none 0 0, .slice none 0 0, .slice none 0 0, .int .i64 0] 40 (0, 0))) ∧ (Below w.heap.size w w')) ?_ ?_
       rotate_left
       ·intro hJ2_5_6
        refine join_ (σ := Value × Value × Value) 5 #[true, true, true, true, true, true, false, true, true, false, true, true, true, false, true, true, false, false] (fun s_ => [(5, s_.1), (8, s_.2.1), (13, s_.2.2)]) (fun s_ w' => (w'.cell? ⟨gb550, 0, none⟩ = some (.int .i64 a0_0) ∧ w'.cell? ⟨gb550, 1, none⟩ = some (.slice A0_1 l0_1.length c0_1) ∧ w'.cell? ⟨gb550, 2, none⟩ = some (.slice A0_2 l0_2.length c0_2) ∧ w'.cell? ⟨gb550, 3, none⟩ = some (.slice A0_3 l0_3.length c0_3) ∧ w'.cell? ⟨gb550, 4, none⟩ = some (.int .i64 a0_4)) ∧ (Kd.R k60 60 w' w.heap.size (fun _ => True) s_.2.1 y555) ∧ (Kd.R Kd.bool 4 w' w.heap.size (fun _ => True) s_.2.2 y564) ∧ (w'.heap[gb550]? = some (.cells #[.int .i64 a0_0, .slice A0_1 l0_1.length c0_1, .slice A0_2 l0_2.length c0_2, .slice A0_3 l0_3.length c0_3, .int .i64 a0_4] 40 (0, 0))) ∧ (w'.heap[gb551]? = some (.cells #[.int .i64 0, .slice none 0 0, .slice none 0 0, .slice none 0 0, .int .i64 0] 40 (0, 0))) ∧ (Below w.heap.size w w')) ?_ ?_
        rotate_left
        ·intro hJ2_5_10
         refine join_ (σ := Value × Value × Value) 5 #[true, true, true, true, true, false, true, true, true, false, true, true, true, false, true, true, false, false] (fun s_ => [(5, s_.1), (9, s_.2.1), (13, s_.2.2)]) (fun s_ w' => (w'.cell? ⟨gb550, 0, none⟩ = some (.int .i64 a0_0) ∧ w'.cell? ⟨gb550, 1, none⟩ = some (.slice A0_1 l0_1.length c0_1) ∧ w'.cell? ⟨gb550, 2, none⟩ = some (.slice A0_2 l0_2.length c0_2) ∧ w'.cell? ⟨gb550, 3, none⟩ = some (.slice A0_3 l0_3.length c0_3) ∧ w'.cell? ⟨gb550, 4, none⟩ = some (.int .i64 a0_4)) ∧ (Kd.R k60 60 w' w.heap.size (fun k_ => some k_ ≠ (s_.2.1 : Value).ownBlock) s_.1 y552) ∧ (Kd.R k60 60 w' w.heap.size (fun k_ => some k_ ≠ (s_.1 : Value).ownBlock) s_.2.1 y558) ∧ (Kd.R Kd.bool 4 w' w.heap.size (fun _ => True) s_.2.2 y564) ∧ (w'.heap[gb550]? = some (.cells #[.int .i64 a0_0, .slice A0_1 l0_1.length c0_1, .slice A0_2 l0_2.length c0_2, .slice A0_3 l0_3.length c0_3, .int .i64 a0_4] 40 (0, 0))) ∧ (w'.heap[gb551]? = some (.cells #[.int .i64 0, .slice none 0 0, .slice none 0 0, .slice none 0 0, .int .i64 0] 40 (0, 0))) ∧ (Below w.heap.size w w')) ?_ ?_
         rotate_left
         ·intro hJ2_6_10
          refine join_ (σ := Value × Value) 6 #[true, true, true, true, true, true, false, true, true, false, false, true, true, false, true, true, false, false] (fun s_ => [(5, s_.1), (8, s_.2)]) (fun s_ w' => (w'.cell? ⟨gb550, 0, none⟩ = some (.int .i64 a0_0) ∧ w'.cell? ⟨gb550, 1, none⟩ = some (.slice A0_1 l0_1.length c0_1) ∧ w'.cell? ⟨gb550, 2, none⟩ = some (.slice A0_2 l0_2.length c0_2) ∧ w'.cell? ⟨gb550, 3, none⟩ = some (.slice A0_3 l0_3.length c0_3) ∧ w'.cell? ⟨gb550, 4, none⟩ = some (.int .i64 a0_4)) ∧ (Kd.R k60 60 w' w.heap.size (fun _ => True) s_.2 y555) ∧ (w'.heap[gb550]? = some (.cells #[.int .i64 a0_0, .slice A0_1 l0_1.length c0_1, .slice A0_2 l0_2.length c0_2, .slice A0_3 l0_3.length c0_3, .int .i64 a0_4] 40 (0, 0))) ∧ (w'.heap[gb551]? = some (.cells #[.int .i64 0, .slice none 0 0, .slice none 0 0, .slice none 0 0, .int .i64 0] 40 (0, 0))) ∧ (Below w.heap.size w w')) ?_ ?_
          rotate_left
          ·intro hJ2_5
           refine join_ (σ := Value × Value) 6 #[true, true, true, true, true, false, true, true, true, false, false, true, true, false, true, true, false, false] (fun s_ => [(5, s_.1), (9, s_.2)]) (fun s_ w' => (w'.cell? ⟨gb550, 0, none⟩ = some (.int .i64 a0_0) ∧ w'.cell? ⟨gb550, 1, none⟩ = some (.slice A0_1 l0_1.length c0_1) ∧ w'.cell? ⟨gb550, 2, none⟩ = some (.slice A0_2 l0_2.length c0_2) ∧ w'.cell? ⟨gb550, 3, none⟩ = some (.slice A0_3 l0_3.length c0_3) ∧ w'.cell? ⟨gb550, 4, none⟩ = some (.int .i64 a0_4)) ∧ (Kd.R k60 60 w' w.heap.size (fun k_ => some k_ ≠ (s_.2 : Value).ownBlock) s_.1 y552) ∧ (Kd.R k60 60 w' w.heap.size (fun k_ => some k_ ≠ (s_.1 : Value).ownBlock) s_.2 y558) ∧ (w'.heap[gb550]? = some (.cells #[.int .i64 a0_0, .slice A0_1 l0_1.length c0_1, .slice A0_2 l0_2.length c0_2, .slice A0_3 l0_3.length c0_3, .int .i64 a0_4] 40 (0, 0))) ∧ (w'.heap[gb551]? = some (.cells #[.int .i64 0, .slice none 0 0, .slice none 0 0, .slice none 0 0, .int .i64 0] 40 (0, 0))) ∧ (Below w.heap.size w w')) ?_ ?_
           rotate_left
           ·intro hJ2_6
            refine join_ (σ := Value × Value) 6 #[true, true, true, true, true, false, false, true, true, false, true, true, true, false, true, true, false, false] (fun s_ => [(5, s_.1), (13, s_.2)]) (fun s_ w' => (w'.cell? ⟨gb550, 0, none⟩ = some (.int .i64 a0_0) ∧ w'.cell? ⟨gb550, 1, none⟩ = some (.slice A0_1 l0_1.length c0_1) ∧ w'.cell? ⟨gb550, 2, none⟩ = some (.slice A0_2 l0_2.length c0_2) ∧ w'.cell? ⟨gb550, 3, none⟩ = some (.slice A0_3 l0_3.length c0_3) ∧ w'.cell? ⟨gb550, 4, none⟩ = some (.int .i64 a0_4)) ∧ (Kd.R k60 60 w' w.heap.size (fun _ => True) s_.1 y552) ∧ (Kd.R Kd.bool 4 w' w.heap.size (fun _ => True) s_.2 y564) ∧ (w'.heap[gb550]? = some (.cells #[.int .i64 a0_0, .slice A0_1 l0_1.length c0_1, .slice A0_2 l0_2.length c0_2, .slice A0_3 l0_3.length c0_3, .int .i64 a0_4] 40 (0, 0))) ∧ (w'.heap[gb551]? = some (.cells #[.int .i64 0, .slice none 0 0, .slice none 0 0, .slice none 0 0, .int .i64 0] 40 (0, 0))) ∧ (Below w.heap.size w w')) ?_ ?_
            rotate_left
            ·intro hJ2_10
             refine join_ (σ := Value × Value) 6 #[true, true, false, true, true, false, true, true, true, false, true, true, true, false, true, true, false, false] (fun s_ => [(9, s_.1), (13, s_.2)]) (fun s_ w' => (w'.cell? ⟨gb550, 0, none⟩ = some (.int .i64 a0_0) ∧ w'.cell? ⟨gb550, 1, none⟩ = some (.slice A0_1 l0_1.length c0_1) ∧ w'.cell? ⟨gb550, 2, none⟩ = some (.slice A0_2 l0_2.length c0_2) ∧ w'.cell? ⟨gb550, 3, none⟩ = some (.slice A0_3 l0_3.length c0_3) ∧ w'.cell? ⟨gb550, 4, none⟩ = some (.int .i64 a0_4)) ∧ (Kd.R k60 60 w' w.heap.size (fun _ => True) s_.1 y558) ∧ (Kd.R Kd.bool 4 w' w.heap.size (fun _ => True) s_.2 y564) ∧ (w'.heap[gb550]? = some (.cells #[.int .i64 a0_0, .slice A0_1 l0_1.length c0_1, .slice A0_2 l0_2.length c0_2, .slice A0_3 l0_3.length c0_3, .int .i64 a0_4] 40 (0, 0))) ∧ (w'.heap[gb551]? = some (.cells #[.int .i64 0, .slice none 0 0, .slice none 0 0, .slice none 0 0, .int .i64 0] 40 (0, 0))) ∧ (Below w.heap.size w w')) ?_ ?_
             rotate_left
             ·intro hJ6_10
              refine join_ (σ := Value) 7 #[true, true, true, true, true, false, false, true, true, false, false, true, true, false, true, true, false, false] (fun s_ => [(5, s_)]) (fun s_ w' => (w'.cell? ⟨gb550, 0, none⟩ = some (.int .i64 a0_0) ∧ w'.cell? ⟨gb550, 1, none⟩ = some (.slice A0_1 l0_1.length c0_1) ∧ w'.cell? ⟨gb550, 2, none⟩ = some (.slice A0_2 l0_2.length c0_2) ∧ w'.cell? ⟨gb550, 3, none⟩ = some (.slice A0_3 l0_3.length c0_3) ∧ w'.cell? ⟨gb550, 4, none⟩ = some (.int .i64 a0_4)) ∧ (Kd.R k60 60 w' w.heap.size (fun _ => True) s_ y552) ∧ (w'.heap[gb550]? = some (.cells #[.int .i64 a0_0, .slice A0_1 l0_1.length c0_1, .slice A0_2 l0_2.length c0_2, .slice A0_3 l0_3.length c0_3, .int .i64 a0_4] 40 (0, 0))) ∧ (w'.heap[gb551]? = some (.cells #[.int .i64 0, .slice none 0 0, .slice none 0 0, .slice none 0 0, .int .i64 0] 40 (0, 0))) ∧ (Below w.heap.size w w')) ?_ ?_
              rotate_left
              ·intro hJ2
               refine join_ (σ := Value) 7 #[true, true, false, true, true, false, true, true, true, false, false, true, true, false, true, true, false, false] (fun s_ => [(9, s_)]) (fun s_ w' => (w'.cell? ⟨gb550, 0, none⟩ = some (.int .i64 a0_0) ∧ w'.cell? ⟨gb550, 1, none⟩ = some (.slice A0_1 l0_1.length c0_1) ∧ w'.cell? ⟨gb550, 2, none⟩ = some (.slice A0_2 l0_2.length c0_2) ∧ w'.cell? ⟨gb550, 3, none⟩ = some (.slice A0_3 l0_3.length c0_3) ∧ w'.cell? ⟨gb550, 4, none⟩ = some (.int .i64 a0_4)) ∧ (Kd.R k60 60 w' w.heap.size (fun _ => True) s_ y558) ∧ (w'.heap[gb550]? = some (.cells #[.int .i64 a0_0, .slice A0_1 l0_1.length c0_1, .slice A0_2 l0_2.length c0_2, .slice A0_3 l0_3.length c0_3, .int .i64 a0_4] 40 (0, 0))) ∧ (w'.heap[gb551]? = some (.cells #[.int .i64 0, .slice none 0 0, .slice none 0 0, .slice none 0 0, .int .i64 0] 40 (0, 0))) ∧ (Below w.heap.size w w')) ?_ ?_
               rotate_left
               ·intro hJ6
                refine join_ (σ := Value) 7 #[true, true, false, true, true, false, false, true, true, false, true, true, true, false, true, true, false, false] (fun s_ => [(13, s_)]) (fun s_ w' => (w'.cell? ⟨gb550, 0, none⟩ = some (.int .i64 a0_0) ∧ w'.cell? ⟨gb550, 1, none⟩ = some (.slice A0_1 l0_1.length c0_1) ∧ w'.cell? ⟨gb550, 2, none⟩ = some (.slice A0_2 l0_2.length c0_2) ∧ w'.cell? ⟨gb550, 3, none⟩ = some (.slice A0_3 l0_3.length c0_3) ∧ w'.cell? ⟨gb550, 4, none⟩ = some (.int .i64 a0_4)) ∧ (Kd.R Kd.bool 4 w' w.heap.size (fun _ => True) s_ y564) ∧ (w'.heap[gb550]? = some (.cells #[.int .i64 a0_0, .slice A0_1 l0_1.length c0_1, .slice A0_2 l0_2.length c0_2, .slice A0_3 l0_3.length c0_3, .int .i64 a0_4] 40 (0, 0))) ∧ (w'.heap[gb551]? = some (.cells #[.int .i64 0, .slice none 0 0, .slice none 0 0, .slice none 0 0, .int .i64 0] 40 (0, 0))) ∧ (Below w.heap.size w w')) ?_ ?_
                rotate_left
                ·intro hJ10
                 refine three_ (i := 2) (j := 6) (k := 10) (Ni := some 5) (Nj := some 9) (Nk := some 13) #[true, true, true, true, true, false, false, true, true, false, false, true, true, false, true, true, false, false] #[true, true, false, true, true, false, true, true, true, false, false, true, true, false, true, true, false, false] #[true, true, false, true, true, false, false, true, true, false, true, true, true, false, true, true, false, false] rfl rfl rfl rfl rfl rfl (three_of HT_.out (by kernel_rfl)) (by decide) (by decide) (by decide) (fun K hK => ?_) (fun K hK => ?_) (fun K hK => ?_)
                 ·skip
                  refine Kd.R_lit_step k60 _ 60 ?hg (N := 5) ?hd (xs := ([] : List (S60))) (inner := []) (ok := fun _ => True) (okp := fun _ => True) ?hr ?hp (fun _ hk => hk) trivial (Below.refl _ _) (Nat.le_refl _) (by simp) ?_; (case hd => rfl); (case hg => rfl); (case hr => (go_simp; done)); (case hp => exact (Reps.none _ _))
                  intro v553 w8 ho9 hb hg_ hnew_
                  clear hg_ hnew_
                  (rw [← Ny552.out] at ho9)
                  have HO554 := am (Kd.R_lower ho9 (below_size HB.out))
                  replace BK550 := am (blk_below BK550.out hb)
                  replace BK551 := am (blk_below BK551.out hb)
                  replace HB := am (below_step HB.out hb)
                  clear hb ho9
                  refine hK.out _ _ ⟨(blk_cell BK550.out 0).trans rfl, (blk_cell BK550.out 1).trans rfl, (blk_cell BK550.out 2).trans rfl, (blk_cell BK550.out 3).trans rfl, (blk_cell BK550.out 4).trans rfl⟩ (fun hHeld => ?_)
                  clear hK K
                  refine norm_ (a' := ?_) ?_ ?_
                  rotate_left
                  ·show Act.put _ (some 5) _ = _
                   simp only [Act.put, s2_, s0_, s1_, i64_w, i32_w]
                   rfl
                  exact norm_ (by (simp only [putAll, Act.put, s2_, s0_, s1_]; done)) (hJ2 (v553) _ ⟨hHeld, HO554.out, BK550.out, BK551.out, HB.out⟩)
                 ·skip
                  refine Kd.R_lit_step k60 _ 60 ?hg (N := 9) ?hd (xs := ([] : List (S60))) (inner := []) (ok := fun _ => True) (okp := fun _ => True) ?hr ?hp (fun _ hk => hk) trivial (Below.refl _ _) (Nat.le_refl _) (by simp) ?_; (case hd => rfl); (case hg => rfl); (case hr => (go_simp; done)); (case hp => exact (Reps.none _ _))
                  intro v559 w8 ho9 hb hg_ hnew_
                  clear hg_ hnew_
                  (rw [← Ny558.out] at ho9)
                  have HO560 := am (Kd.R_lower ho9 (below_size HB.out))
                  replace BK550 := am (blk_below BK550.out hb)
                  replace BK551 := am (blk_below BK551.out hb)
                  replace HB := am (below_step HB.out hb)
                  clear hb ho9
                  refine hK.out _ _ ⟨(blk_cell BK550.out 0).trans rfl, (blk_cell BK550.out 1).trans rfl, (blk_cell BK550.out 2).trans rfl, (blk_cell BK550.out 3).trans rfl, (blk_cell BK550.out 4).trans rfl⟩ (fun hHeld => ?_)
                  clear hK K
                  refine norm_ (a' := ?_) ?_ ?_
                  rotate_left
                  ·show Act.put _ (some 9) _ = _
                   simp only [Act.put, s2_, s0_, s1_, i64_w, i32_w]
                   rfl
                  exact norm_ (by (simp only [putAll, Act.put, s2_, s0_, s1_]; done)) (hJ6 (v559) _ ⟨hHeld, HO560.out, BK550.out, BK551.out, HB.out⟩)
                 ·skip
                  refine Kd.R_lit_step Kd.bool _ 4 ?hg (N := 13) ?hd (xs := ([] : List Bool)) (inner := []) (ok := fun _ => True) (okp := fun _ => True) ?hr ?hp (fun _ hk => hk) trivial (Below.refl _ _) (Nat.le_refl _) (by simp) ?_; (case hd => rfl); (case hg => rfl); (case hr => (go_simp; done)); (case hp => exact (Reps.none _ _))
                  intro v565 w8 ho9 hb hg_ hnew_
                  clear hg_ hnew_
                  (rw [← Ny564.out] at ho9)
                  have HO566 := am (Kd.R_lower ho9 (below_size HB.out))
                  replace BK550 := am (blk_below BK550.out hb)
                  replace BK551 := am (blk_below BK551.out hb)
                  replace HB := am (below_step HB.out hb)
                  clear hb ho9
                  refine hK.out _ _ ⟨(blk_cell BK550.out 0).trans rfl, (blk_cell BK550.out 1).trans rfl, (blk_cell BK550.out 2).trans rfl, (blk_cell BK550.out 3).trans rfl, (blk_cell BK550.out 4).trans rfl⟩ (fun hHeld => ?_)
                  clear hK K
                  refine norm_ (a' := ?_) ?_ ?_
                  rotate_left
                  ·show Act.put _ (some 13) _ = _
                   simp only [Act.put, s2_, s0_, s1_, i64_w, i32_w]
                   rfl
                  exact norm_ (by (simp only [putAll, Act.put, s2_, s0_, s1_]; done)) (hJ10 (v565) _ ⟨hHeld, HO566.out, BK550.out, BK551.out, HB.out⟩)
                ·skip
                 rintro v565 w10 ⟨hS_, h0_, h1_, h2_, h3_⟩
                 have HO566 : Aside0 (Kd.R Kd.bool 4 w10 w.heap.size (fun _ => True) v565 y564) := ⟨h0_⟩
                 replace BK550 : Aside0 (w10.heap[gb550]? = some (.cells #[.int .i64 a0_0, .slice A0_1 l0_1.length c0_1, .slice A0_2 l0_2.length c0_2, .slice A0_3 l0_3.length c0_3, .int .i64 a0_4] 40 (0, 0))) := ⟨h1_⟩
                 replace BK551 : Aside0 (w10.heap[gb551]? = some (.cells #[.int .i64 0, .slice none 0 0, .slice none 0 0, .slice none 0 0, .int .i64 0] 40 (0, 0))) := ⟨h2_⟩
                 replace HB : Aside0 (Below w.heap.size w w10) := ⟨h3_⟩
                 clear h0_ h1_ h2_ h3_
                 have hHeld : w10.cell? ⟨gb550, 0, none⟩ = some (.int .i64 a0_0) ∧ w10.cell? ⟨gb550, 1, none⟩ = some (.slice A0_1 l0_1.length c0_1) ∧ w10.cell? ⟨gb550, 2, none⟩ = some (.slice A0_2 l0_2.length c0_2) ∧ w10.cell? ⟨gb550, 3, none⟩ = some (.slice A0_3 l0_3.length c0_3) ∧ w10.cell? ⟨gb550, 4, none⟩ = some (.int .i64 a0_4) := hS_
                 refine norm_ (a' := ?_) ?_ ?_
                 rotate_left
                 ·simp only [putAll, Act.put, s2_, s0_, s1_]
                  rfl
                 refine two_ (i := 2) (j := 6) (Ni := some 5) (Nj := some 9) #[true, true, true, true, true, false, false, true, true, false, true, true, true, false, true, true, false, false] #[true, true, false, true, true, false, true, true, true, false, true, true, true, false, true, true, false, false] rfl rfl rfl rfl (two_of HT_.out (by kernel_rfl)) (by decide) (by decide) (fun K hK => ?_) (fun K hK => ?_)
                 ·skip
                  refine Kd.R_lit_step k60 _ 60 ?hg (N := 5) ?hd (xs := ([] : List (S60))) (inner := []) (ok := fun _ => True) (okp := fun _ => True) ?hr ?hp (fun _ hk => hk) trivial (Below.refl _ _) (Nat.le_refl _) (by simp) ?_; (case hd => rfl); (case hg => rfl); (case hr => (go_simp; done)); (case hp => exact (Reps.none _ _))
                  intro v553 w11 ho12 hb hg_ hnew_
                  clear hg_ hnew_
                  (rw [← Ny552.out] at ho12)
                  replace HO566 := am (Kd.R_below HO566.out hb)
                  have HO554 := am (Kd.R_lower ho12 (below_size HB.out))
                  replace BK550 := am (blk_below BK550.out hb)
                  replace BK551 := am (blk_below BK551.out hb)
                  replace HB := am (below_step HB.out hb)
                  clear hb ho12
                  refine hK.out _ _ ⟨(blk_cell BK550.out 0).trans rfl, (blk_cell BK550.out 1).trans rfl, (blk_cell BK550.out 2).trans rfl, (blk_cell BK550.out 3).trans rfl, (blk_cell BK550.out 4).trans rfl⟩ (fun hHeld => ?_)
                  clear hK K
                  refine norm_ (a' := ?_) ?_ ?_
                  rotate_left
                  ·show Act.put _ (some 5) _ = _
                   simp only [Act.put, s2_, s0_, s1_, i64_w, i32_w]
                   rfl
                  exact norm_ (by (simp only [putAll, Act.put, s2_, s0_, s1_]; done)) (hJ2_10 (v553, v565) _ ⟨hHeld, HO554.out, HO566.out, BK550.out, BK551.out, HB.out⟩)
                 ·skip
                  refine Kd.R_lit_step k60 _ 60 ?hg (N := 9) ?hd (xs := ([] : List (S60))) (inner := []) (ok := fun _ => True) (okp := fun _ => True) ?hr ?hp (fun _ hk => hk) trivial (Below.refl _ _) (Nat.le_refl _) (by simp) ?_; (case hd => rfl); (case hg => rfl); (case hr => (go_simp; done)); (case hp => exact (Reps.none _ _))
                  intro v559 w11 ho12 hb hg_ hnew_
                  clear hg_ hnew_
                  (rw [← Ny558.out] at ho12)
                  replace HO566 := am (Kd.R_below HO566.out hb)
                  have HO560 := am (Kd.R_lower ho12 (below_size HB.out))
                  replace BK550 := am (blk_below BK550.out hb)
                  replace BK551 := am (blk_below BK551.out hb)
                  replace HB := am (below_step HB.out hb)
                  clear hb ho12
                  refine hK.out _ _ ⟨(blk_cell BK550.out 0).trans rfl, (blk_cell BK550.out 1).trans rfl, (blk_cell BK550.out 2).trans rfl, (blk_cell BK550.out 3).trans rfl, (blk_cell BK550.out 4).trans rfl⟩ (fun hHeld => ?_)
                  clear hK K
                  refine norm_ (a' := ?_) ?_ ?_
                  rotate_left
                  ·show Act.put _ (some 9) _ = _
                   simp only [Act.put, s2_, s0_, s1_, i64_w, i32_w]
                   rfl
                  exact norm_ (by (simp only [putAll, Act.put, s2_, s0_, s1_]; done)) (hJ6_10 (v559, v565) _ ⟨hHeld, HO560.out, HO566.out, BK550.out, BK551.out, HB.out⟩)
               ·skip
                rintro v559 w10 ⟨hS_, h0_, h1_, h2_, h3_⟩
                have HO560 : Aside0 (Kd.R k60 60 w10 w.heap.size (fun _ => True) v559 y558) := ⟨h0_⟩
                replace BK550 : Aside0 (w10.heap[gb550]? = some (.cells #[.int .i64 a0_0, .slice A0_1 l0_1.length c0_1, .slice A0_2 l0_2.length c0_2, .slice A0_3 l0_3.length c0_3, .int .i64 a0_4] 40 (0, 0))) := ⟨h1_⟩
                replace BK551 : Aside0 (w10.heap[gb551]? = some (.cells #[.int .i64 0, .slice none 0 0, .slice none 0 0, .slice none 0 0, .int .i64 0] 40 (0, 0))) := ⟨h2_⟩
                replace HB : Aside0 (Below w.heap.size w w10) := ⟨h3_⟩
                clear h0_ h1_ h2_ h3_
                have hHeld : w10.cell? ⟨gb550, 0, none⟩ = some (.int .i64 a0_0) ∧ w10.cell? ⟨gb550, 1, none⟩ = some (.slice A0_1 l0_1.length c0_1) ∧ w10.cell? ⟨gb550, 2, none⟩ = some (.slice A0_2 l0_2.length c0_2) ∧ w10.cell? ⟨gb550, 3, none⟩ = some (.slice A0_3 l0_3.length c0_3) ∧ w10.cell? ⟨gb550, 4, none⟩ = some (.int .i64 a0_4) := hS_
                refine norm_ (a' := ?_) ?_ ?_
                rotate_left
                ·simp only [putAll, Act.put, s2_, s0_, s1_]
                 rfl
                refine two_ (i := 2) (j := 10) (Ni := some 5) (Nj := some 13) #[true, true, true, true, true, false, true, true, true, false, false, true, true, false, true, true, false, false] #[true, true, false, true, true, false, true, true, true, false, true, true, true, false, true, true, false, false] rfl rfl rfl rfl (two_of HT_.out (by kernel_rfl)) (by decide) (by decide) (fun K hK => ?_) (fun K hK => ?_)
                ·skip
                 refine Kd.R_lit_step k60 _ 60 ?hg (N := 5) ?hd (xs := ([] : List (S60))) (inner := []) (ok := fun _ => True) (okp := fun _ => True) ?hr ?hp (fun _ hk => hk) trivial (Below.refl _ _) (Nat.le_refl _) (by simp) ?_; (case hd => rfl); (case hg => rfl); (case hr => (go_simp; done)); (case hp => exact (Reps.none _ _))
                 intro v553 w11 ho12 hb hg_ hnew_
                 clear hg_ hnew_
                 (rw [← Ny552.out] at ho12)
                 have HO554 := am (Kd.R_lower (Kd.R_new' ho12 (Kd.R_lt HO560.out)) (below_size HB.out))
                 replace HO560 := am (Kd.R_elder' HO560.out (Kd.R_base ho12) hb)
                 replace BK550 := am (blk_below BK550.out hb)
                 replace BK551 := am (blk_below BK551.out hb)
                 replace HB := am (below_step HB.out hb)
                 clear hb ho12
                 refine hK.out _ _ ⟨(blk_cell BK550.out 0).trans rfl, (blk_cell BK550.out 1).trans rfl, (blk_cell BK550.out 2).trans rfl, (blk_cell BK550.out 3).trans rfl, (blk_cell BK550.out 4).trans rfl⟩ (fun hHeld => ?_)
                 clear hK K
                 refine norm_ (a' := ?_) ?_ ?_
                 rotate_left
                 ·show Act.put _ (some 5) _ = _
                  simp only [Act.put, s2_, s0_, s1_, i64_w, i32_w]
                  rfl
                 exact norm_ (by (simp only [putAll, Act.put, s2_, s0_, s1_]; done)) (hJ2_6 (v553, v559) _ ⟨hHeld, (by exact Kd.R_mono HO554.out (fun _ hk => hk.2)), (by exact Kd.R_mono HO560.out (fun _ hk => hk.2)), BK550.out, BK551.out, HB.out⟩)
                ·skip
                 refine Kd.R_lit_step Kd.bool _ 4 ?hg (N := 13) ?hd (xs := ([] : List Bool)) (inner := []) (ok := fun _ => True) (okp := fun _ => True) ?hr ?hp (fun _ hk => hk) trivial (Below.refl _ _) (Nat.le_refl _) (by simp) ?_; (case hd => rfl); (case hg => rfl); (case hr => (go_simp; done)); (case hp => exact (Reps.none _ _))
                 intro v565 w11 ho12 hb hg_ hnew_
                 clear hg_ hnew_
                 (rw [← Ny564.out] at ho12)
                 replace HO560 := am (Kd.R_below HO560.out hb)
                 have HO566 := am (Kd.R_lower ho12 (below_size HB.out))
                 replace BK550 := am (blk_below BK550.out hb)
                 replace BK551 := am (blk_below BK551.out hb)
                 replace HB := am (below_step HB.out hb)
                 clear hb ho12
                 refine hK.out _ _ ⟨(blk_cell BK550.out 0).trans rfl, (blk_cell BK550.out 1).trans rfl, (blk_cell BK550.out 2).trans rfl, (blk_cell BK550.out 3).trans rfl, (blk_cell BK550.out 4).trans rfl⟩ (fun hHeld => ?_)
                 clear hK K
                 refine norm_ (a' := ?_) ?_ ?_
                 rotate_left
                 ·show Act.put _ (some 13) _ = _
                  simp only [Act.put, s2_, s0_, s1_, i64_w, i32_w]
                  rfl
                 exact norm_ (by (simp only [putAll, Act.put, s2_, s0_, s1_]; done)) (hJ6_10 (v559, v565) _ ⟨hHeld, HO560.out, HO566.out, BK550.out, BK551.out, HB.out⟩)
              ·skip
               rintro v553 w10 ⟨hS_, h0_, h1_, h2_, h3_⟩
               have HO554 : Aside0 (Kd.R k60 60 w10 w.heap.size (fun _ => True) v553 y552) := ⟨h0_⟩
               replace BK550 : Aside0 (w10.heap[gb550]? = some (.cells #[.int .i64 a0_0, .slice A0_1 l0_1.length c0_1, .slice A0_2 l0_2.length c0_2, .slice A0_3 l0_3.length c0_3, .int .i64 a0_4] 40 (0, 0))) := ⟨h1_⟩
               replace BK551 : Aside0 (w10.heap[gb551]? = some (.cells #[.int .i64 0, .slice none 0 0, .slice none 0 0, .slice none 0 0, .int .i64 0] 40 (0, 0))) := ⟨h2_⟩
               replace HB : Aside0 (Below w.heap.size w w10) := ⟨h3_⟩
               clear h0_ h1_ h2_ h3_
               have hHeld : w10.cell? ⟨gb550, 0, none⟩ = some (.int .i64 a0_0) ∧ w10.cell? ⟨gb550, 1, none⟩ = some (.slice A0_1 l0_1.length c0_1) ∧ w10.cell? ⟨gb550, 2, none⟩ = some (.slice A0_2 l0_2.length c0_2) ∧ w10.cell? ⟨gb550, 3, none⟩ = some (.slice A0_3 l0_3.length c0_3) ∧ w10.cell? ⟨gb550, 4, none⟩ = some (.int .i64 a0_4) := hS_
               refine norm_ (a' := ?_) ?_ ?_
               rotate_left
               ·simp only [putAll, Act.put, s2_, s0_, s1_]
                rfl
               refine three_ (i := 5) (j := 6) (k := 10) (Ni := some 8) (Nj := some 9) (Nk := some 13) #[true, true, true, true, true, true, false, true, true, false, false, true, true, false, true, true, false, false] #[true, true, true, true, true, false, true, true, true, false, false, true, true, false, true, true, false, false] #[true, true, true, true, true, false, false, true, true, false, true, true, true, false, true, true, false, false] rfl rfl rfl rfl rfl rfl (three_of HT_.out (by kernel_rfl)) (by decide) (by decide) (by decide) (fun K hK => ?_) (fun K hK => ?_) (fun K hK => ?_)
               ·skip
                refine Kd.R_append_rows_step k60 (w0 := w) w.heap.size rfl (.tmp 5) (.tmp 7) 24 60 (.agg #[(.int .i64 0), (.int .i64 0), (.int .i64 0)]) 24 rfl Try.underlying24 info60 rfl (by decide) (by omega) v553 y552 l0_1 _ _ _ (fun _ => True) (fun _ => False) rfl rfl ?aO ?aR (fun _ _ h => h) (fun _ h => h.elim) ?aF ?aB ?aS ?aL ?_
                (case aR => repeat (exact (Kd.C_below HR0_1.out HB.out)))
                (case aB => exact HB.out)
                (case aF => exact (fun _ _ => trivial))
                (case aO => exact HO554.out)
                (case aS => exact (below_size HB.out))
                (case aL => have := LMc2.out; omega)
                intro v556 w11 ho hb hg hat
                rw [← Ny555.out] at ho
                replace BK550 := am (blk_grown BK550.out hg (Kd.R_ne HO554.out BK550.out (by decide)))
                replace BK551 := am (blk_grown BK551.out hg (Kd.R_ne HO554.out BK551.out (by decide)))
                replace HB := am (hb)
                have HO557 := am (ho)
                clear HO554 ho hb hg hat
                refine hK.out _ _ ⟨(blk_cell BK550.out 0).trans rfl, (blk_cell BK550.out 1).trans rfl, (blk_cell BK550.out 2).trans rfl, (blk_cell BK550.out 3).trans rfl, (blk_cell BK550.out 4).trans rfl⟩ (fun hHeld => ?_)
                clear hK K
                refine norm_ (a' := ?_) ?_ ?_
                rotate_left
                ·show Act.put _ (some 8) _ = _
                 simp only [Act.put, s2_, s0_, s1_, i64_w, i32_w]
                 rfl
                exact norm_ (by (simp only [putAll, Act.put, s2_, s0_, s1_]; done)) (hJ2_5 (v553, v556) _ ⟨hHeld, HO557.out, BK550.out, BK551.out, HB.out⟩)
               ·skip
                refine Kd.R_lit_step k60 _ 60 ?hg (N := 9) ?hd (xs := ([] : List (S60))) (inner := []) (ok := fun _ => True) (okp := fun _ => True) ?hr ?hp (fun _ hk => hk) trivial (Below.refl _ _) (Nat.le_refl _) (by simp) ?_; (case hd => rfl); (case hg => rfl); (case hr => (go_simp; done)); (case hp => exact (Reps.none _ _))
                intro v559 w11 ho12 hb hg_ hnew_
                clear hg_ hnew_
                (rw [← Ny558.out] at ho12)
                have HO560 := am (Kd.R_lower (Kd.R_new' ho12 (Kd.R_lt HO554.out)) (below_size HB.out))
                replace HO554 := am (Kd.R_elder' HO554.out (Kd.R_base ho12) hb)
                replace BK550 := am (blk_below BK550.out hb)
                replace BK551 := am (blk_below BK551.out hb)
                replace HB := am (below_step HB.out hb)
                clear hb ho12
                refine hK.out _ _ ⟨(blk_cell BK550.out 0).trans rfl, (blk_cell BK550.out 1).trans rfl, (blk_cell BK550.out 2).trans rfl, (blk_cell BK550.out 3).trans rfl, (blk_cell BK550.out 4).trans rfl⟩ (fun hHeld => ?_)
                clear hK K
                refine norm_ (a' := ?_) ?_ ?_
                rotate_left
                ·show Act.put _ (some 9) _ = _
                 simp only [Act.put, s2_, s0_, s1_, i64_w, i32_w]
                 rfl
                exact norm_ (by (simp only [putAll, Act.put, s2_, s0_, s1_]; done)) (hJ2_6 (v553, v559) _ ⟨hHeld, (by exact Kd.R_mono HO554.out (fun _ hk => hk.2)), (by exact Kd.R_mono HO560.out (fun _ hk => hk.2)), BK550.out, BK551.out, HB.out⟩)
               ·skip
                refine Kd.R_lit_step Kd.bool _ 4 ?hg (N := 13) ?hd (xs := ([] : List Bool)) (inner := []) (ok := fun _ => True) (okp := fun _ => True) ?hr ?hp (fun _ hk => hk) trivial (Below.refl _ _) (Nat.le_refl _) (by simp) ?_; (case hd => rfl); (case hg => rfl); (case hr => (go_simp; done)); (case hp => exact (Reps.none _ _))
                intro v565 w11 ho12 hb hg_ hnew_
                clear hg_ hnew_
                (rw [← Ny564.out] at ho12)
                replace HO554 := am (Kd.R_below HO554.out hb)
                have HO566 := am (Kd.R_lower ho12 (below_size HB.out))
                replace BK550 := am (blk_below BK550.out hb)
                replace BK551 := am (blk_below BK551.out hb)
                replace HB := am (below_step HB.out hb)
                clear hb ho12
                refine hK.out _ _ ⟨(blk_cell BK550.out 0).trans rfl, (blk_cell BK550.out 1).trans rfl, (blk_cell BK550.out 2).trans rfl, (blk_cell BK550.out 3).trans rfl, (blk_cell BK550.out 4).trans rfl⟩ (fun hHeld => ?_)
                clear hK K
                refine norm_ (a' := ?_) ?_ ?_
                rotate_left
                ·show Act.put _ (some 13) _ = _
                 simp only [Act.put, s2_, s0_, s1_, i64_w, i32_w]
                 rfl
                exact norm_ (by (simp only [putAll, Act.put, s2_, s0_, s1_]; done)) (hJ2_10 (v553, v565) _ ⟨hHeld, HO554.out, HO566.out, BK550.out, BK551.out, HB.out⟩)
             ·skip
              rintro ⟨v559, v565⟩ w12 ⟨hS_, h0_, h1_, h2_, h3_, h4_⟩
              have HO560 : Aside0 (Kd.R k60 60 w12 w.heap.size (fun _ => True) v559 y558) := ⟨h0_⟩
              have HO566 : Aside0 (Kd.R Kd.bool 4 w12 w.heap.size (fun _ => True) v565 y564) := ⟨h1_⟩
              replace BK550 : Aside0 (w12.heap[gb550]? = some (.cells #[.int .i64 a0_0, .slice A0_1 l0_1.length c0_1, .slice A0_2 l0_2.length c0_2, .slice A0_3 l0_3.length c0_3, .int .i64 a0_4] 40 (0, 0))) := ⟨h2_⟩
              replace BK551 : Aside0 (w12.heap[gb551]? = some (.cells #[.int .i64 0, .slice none 0 0, .slice none 0 0, .slice none 0 0, .int .i64 0] 40 (0, 0))) := ⟨h3_⟩
              replace HB : Aside0 (Below w.heap.size w w12) := ⟨h4_⟩
              clear h0_ h1_ h2_ h3_ h4_
              have hHeld : w12.cell? ⟨gb550, 0, none⟩ = some (.int .i64 a0_0) ∧ w12.cell? ⟨gb550, 1, none⟩ = some (.slice A0_1 l0_1.length c0_1) ∧ w12.cell? ⟨gb550, 2, none⟩ = some (.slice A0_2 l0_2.length c0_2) ∧ w12.cell? ⟨gb550, 3, none⟩ = some (.slice A0_3 l0_3.length c0_3) ∧ w12.cell? ⟨gb550, 4, none⟩ = some (.int .i64 a0_4) := hS_
              refine norm_ (a' := ?_) ?_ ?_
              rotate_left
              ·simp only [putAll, Act.put, s2_, s0_, s1_]
               rfl
              refine one_ (i := 2) (N := some 5) #[true, true, true, true, true, false, true, true, true, false, true, true, true, false, true, true, false, false] rfl rfl (one_of HT_.out (by kernel_rfl)) (by decide) (fun K hK => ?_)
              refine Kd.R_lit_step k60 _ 60 ?hg (N := 5) ?hd (xs := ([] : List (S60))) (inner := []) (ok := fun _ => True) (okp := fun _ => True) ?hr ?hp (fun _ hk => hk) trivial (Below.refl _ _) (Nat.le_refl _) (by simp) ?_; (case hd => rfl); (case hg => rfl); (case hr => (go_simp; done)); (case hp => exact (Reps.none _ _))
              intro v553 w13 ho14 hb hg_ hnew_
              clear hg_ hnew_
              (rw [← Ny552.out] at ho14)
              replace HO566 := am (Kd.R_below HO566.out hb)
              have HO554 := am (Kd.R_lower (Kd.R_new' ho14 (Kd.R_lt HO560.out)) (below_size HB.out))
              replace HO560 := am (Kd.R_elder' HO560.out (Kd.R_base ho14) hb)
              replace BK550 := am (blk_below BK550.out hb)
              replace BK551 := am (blk_below BK551.out hb)
              replace HB := am (below_step HB.out hb)
              clear hb ho14
              refine hK.out _ _ ⟨(blk_cell BK550.out 0).trans rfl, (blk_cell BK550.out 1).trans rfl, (blk_cell BK550.out 2).trans rfl, (blk_cell BK550.out 3).trans rfl, (blk_cell BK550.out 4).trans rfl⟩ (fun hHeld => ?_)
              clear hK K
              refine norm_ (a' := ?_) ?_ ?_
              rotate_left
              ·show Act.put _ (some 5) _ = _
               simp only [Act.put, s2_, s0_, s1_, i64_w, i32_w]
               rfl
              exact norm_ (by (simp only [putAll, Act.put, s2_, s0_, s1_]; done)) (hJ2_6_10 (v553, v559, v565) _ ⟨hHeld, (by exact Kd.R_mono HO554.out (fun _ hk => hk.2)), (by exact Kd.R_mono HO560.out (fun _ hk => hk.2)), HO566.out, BK550.out, BK551.out, HB.out⟩)
            ·skip
             rintro ⟨v553, v565⟩ w12 ⟨hS_, h0_, h1_, h2_, h3_, h4_⟩
             have HO554 : Aside0 (Kd.R k60 60 w12 w.heap.size (fun _ => True) v553 y552) := ⟨h0_⟩
             have HO566 : Aside0 (Kd.R Kd.bool 4 w12 w.heap.size (fun _ => True) v565 y564) := ⟨h1_⟩
             replace BK550 : Aside0 (w12.heap[gb550]? = some (.cells #[.int .i64 a0_0, .slice A0_1 l0_1.length c0_1, .slice A0_2 l0_2.length c0_2, .slice A0_3 l0_3.length c0_3, .int .i64 a0_4] 40 (0, 0))) := ⟨h2_⟩
             replace BK551 : Aside0 (w12.heap[gb551]? = some (.cells #[.int .i64 0, .slice none 0 0, .slice none 0 0, .slice none 0 0, .int .i64 0] 40 (0, 0))) := ⟨h3_⟩
             replace HB : Aside0 (Below w.heap.size w w12) := ⟨h4_⟩
             clear h0_ h1_ h2_ h3_ h4_
             have hHeld : w12.cell? ⟨gb550, 0, none⟩ = some (.int .i64 a0_0) ∧ w12.cell? ⟨gb550, 1, none⟩ = some (.slice A0_1 l0_1.length c0_1) ∧ w12.cell? ⟨gb550, 2, none⟩ = some (.slice A0_2 l0_2.length c0_2) ∧ w12.cell? ⟨gb550, 3, none⟩ = some (.slice A0_3 l0_3.length c0_3) ∧ w12.cell? ⟨gb550, 4, none⟩ = some (.int .i64 a0_4) := hS_
             refine norm_ (a' := ?_) ?_ ?_
             rotate_left
             ·simp only [putAll, Act.put, s2_, s0_, s1_]
              rfl
             refine two_ (i := 5) (j := 6) (Ni := some 8) (Nj := some 9) #[true, true, true, true, true, true, false, true, true, false, true, true, true, false, true, true, false, false] #[true, true, true, true, true, false, true, true, true, false, true, true, true, false, true, true, false, false] rfl rfl rfl rfl (two_of HT_.out (by kernel_rfl)) (by decide) (by decide) (fun K hK => ?_) (fun K hK => ?_)
             ·skip
              refine Kd.R_append_rows_step k60 (w0 := w) w.heap.size rfl (.tmp 5) (.tmp 7) 24 60 (.agg #[(.int .i64 0), (.int .i64 0), (.int .i64 0)]) 24 rfl Try.underlying24 info60 rfl (by decide) (by omega) v553 y552 l0_1 _ _ _ (fun _ => True) (fun _ => False) rfl rfl ?aO ?aR (fun _ _ h => h) (fun _ h => h.elim) ?aF ?aB ?aS ?aL ?_
              (case aR => repeat (exact (Kd.C_below HR0_1.out HB.out)))
              (case aB => exact HB.out)
              (case aF => exact (fun _ _ => trivial))
              (case aO => exact HO554.out)
              (case aS => exact (below_size HB.out))
              (case aL => have := LMc2.out; omega)
              intro v556 w13 ho hb hg hat
              rw [← Ny555.out] at ho
              replace BK550 := am (blk_grown BK550.out hg (Kd.R_ne HO554.out BK550.out (by decide)))
              replace BK551 := am (blk_grown BK551.out hg (Kd.R_ne HO554.out BK551.out (by decide)))
              replace HO566 := am (Kd.R_over' HO566.out (Kd.R_typed HO554.out) (by decide) hg)
              replace HB := am (hb)
              have HO557 := am (ho)
              clear HO554 ho hb hg hat
              refine hK.out _ _ ⟨(blk_cell BK550.out 0).trans rfl, (blk_cell BK550.out 1).trans rfl, (blk_cell BK550.out 2).trans rfl, (blk_cell BK550.out 3).trans rfl, (blk_cell BK550.out 4).trans rfl⟩ (fun hHeld => ?_)
              clear hK K
              refine norm_ (a' := ?_) ?_ ?_
              rotate_left
              ·show Act.put _ (some 8) _ = _
               simp only [Act.put, s2_, s0_, s1_, i64_w, i32_w]
               rfl
              exact norm_ (by (simp only [putAll, Act.put, s2_, s0_, s1_]; done)) (hJ2_5_10 (v553, v556, v565) _ ⟨hHeld, HO557.out, HO566.out, BK550.out, BK551.out, HB.out⟩)
             ·skip
              refine Kd.R_lit_step k60 _ 60 ?hg (N := 9) ?hd (xs := ([] : List (S60))) (inner := []) (ok := fun _ => True) (okp := fun _ => True) ?hr ?hp (fun _ hk => hk) trivial (Below.refl _ _) (Nat.le_refl _) (by simp) ?_; (case hd => rfl); (case hg => rfl); (case hr => (go_simp; done)); (case hp => exact (Reps.none _ _))
              intro v559 w13 ho14 hb hg_ hnew_
              clear hg_ hnew_
              (rw [← Ny558.out] at ho14)
              replace HO566 := am (Kd.R_below HO566.out hb)
              have HO560 := am (Kd.R_lower (Kd.R_new' ho14 (Kd.R_lt HO554.out)) (below_size HB.out))
              replace HO554 := am (Kd.R_elder' HO554.out (Kd.R_base ho14) hb)
              replace BK550 := am (blk_below BK550.out hb)
              replace BK551 := am (blk_below BK551.out hb)
              replace HB := am (below_step HB.out hb)
              clear hb ho14
              refine hK.out _ _ ⟨(blk_cell BK550.out 0).trans rfl, (blk_cell BK550.out 1).trans rfl, (blk_cell BK550.out 2).trans rfl, (blk_cell BK550.out 3).trans rfl, (blk_cell BK550.out 4).trans rfl⟩ (fun hHeld => ?_)
              clear hK K
              refine norm_ (a' := ?_) ?_ ?_
              rotate_left
              ·show Act.put _ (some 9) _ = _
               simp only [Act.put, s2_, s0_, s1_, i64_w, i32_w]
               rfl
              exact norm_ (by (simp only [putAll, Act.put, s2_, s0_, s1_]; done)) (hJ2_6_10 (v553, v559, v565) _ ⟨hHeld, (by exact Kd.R_mono HO554.out (fun _ hk => hk.2)), (by exact Kd.R_mono HO560.out (fun _ hk => hk.2)), HO566.out, BK550.out, BK551.out, HB.out⟩)
           ·skip
            rintro ⟨v553, v559⟩ w12 ⟨hS_, h0_, h1_, h2_, h3_, h4_⟩
            have HO554 : Aside0 (Kd.R k60 60 w12 w.heap.size (fun k_ => some k_ ≠ (v559 : Value).ownBlock) v553 y552) := ⟨h0_⟩
            have HO560 : Aside0 (Kd.R k60 60 w12 w.heap.size (fun k_ => some k_ ≠ (v553 : Value).ownBlock) v559 y558) := ⟨h1_⟩
            replace BK550 : Aside0 (w12.heap[gb550]? = some (.cells #[.int .i64 a0_0, .slice A0_1 l0_1.length c0_1, .slice A0_2 l0_2.length c0_2, .slice A0_3 l0_3.length c0_3, .int .i64 a0_4] 40 (0, 0))) := ⟨h2_⟩
            replace BK551 : Aside0 (w12.heap[gb551]? = some (.cells #[.int .i64 0, .slice none 0 0, .slice none 0 0, .slice none 0 0, .int .i64 0] 40 (0, 0))) := ⟨h3_⟩
            replace HB : Aside0 (Below w.heap.size w w12) := ⟨h4_⟩
            clear h0_ h1_ h2_ h3_ h4_
            have hHeld : w12.cell? ⟨gb550, 0, none⟩ = some (.int .i64 a0_0) ∧ w12.cell? ⟨gb550, 1, none⟩ = some (.slice A0_1 l0_1.length c0_1) ∧ w12.cell? ⟨gb550, 2, none⟩ = some (.slice A0_2 l0_2.length c0_2) ∧ w12.cell? ⟨gb550, 3, none⟩ = some (.slice A0_3 l0_3.length c0_3) ∧ w12.cell? ⟨gb550, 4, none⟩ = some (.int .i64 a0_4) := hS_
            refine norm_ (a' := ?_) ?_ ?_
            rotate_left
            ·simp only [putAll, Act.put, s2_, s0_, s1_]
             rfl
            refine two_ (i := 5) (j := 10) (Ni := some 8) (Nj := some 13) #[true, true, true, true, true, true, true, true, true, false, false, true, true, false, true, true, false, false] #[true, true, true, true, true, false, true, true, true, false, true, true, true, false, true, true, false, false] rfl rfl rfl rfl (two_of HT_.out (by kernel_rfl)) (by decide) (by decide) (fun K hK => ?_) (fun K hK => ?_)
            ·skip
             refine Kd.R_append_rows_step k60 (w0 := w) w.heap.size rfl (.tmp 5) (.tmp 7) 24 60 (.agg #[(.int .i64 0), (.int .i64 0), (.int .i64 0)]) 24 rfl Try.underlying24 info60 rfl (by decide) (by omega) v553 y552 l0_1 _ _ _ (fun k_ => some k_ ≠ (v559 : Value).ownBlock) (fun _ => False) rfl rfl ?aO ?aR (fun _ _ h => h) (fun _ h => h.elim) ?aF ?aB ?aS ?aL ?_
             (case aR => repeat (exact (Kd.C_below HR0_1.out HB.out)))
             (case aB => exact HB.out)
             (case aF => exact (fun k_ hk => Kd.fresh' (Kd.R_lt HO560.out) k_ hk))
             (case aO => exact HO554.out)
             (case aS => exact (below_size HB.out))
             (case aL => have := LMc2.out; omega)
             intro v556 w13 ho hb hg hat
             rw [← Ny555.out] at ho
             replace BK550 := am (blk_grown BK550.out hg (Kd.R_ne HO554.out BK550.out (by decide)))
             replace BK551 := am (blk_grown BK551.out hg (Kd.R_ne HO554.out BK551.out (by decide)))
             replace HO560 := am (Kd.R_after (ok := (fun _ => True)) (by exact Kd.R_mono HO560.out (fun _ hk => ⟨trivial, hk⟩)) hg hat)
             replace HB := am (hb)
             have HO557 := am (ho)
             clear HO554 ho hb hg hat
             refine hK.out _ _ ⟨(blk_cell BK550.out 0).trans rfl, (blk_cell BK550.out 1).trans rfl, (blk_cell BK550.out 2).trans rfl, (blk_cell BK550.out 3).trans rfl, (blk_cell BK550.out 4).trans rfl⟩ (fun hHeld => ?_)
             clear hK K
             refine norm_ (a' := ?_) ?_ ?_
             rotate_left
             ·show Act.put _ (some 8) _ = _
              simp only [Act.put, s2_, s0_, s1_, i64_w, i32_w]
              rfl
             exact norm_ (by (simp only [putAll, Act.put, s2_, s0_, s1_]; done)) (hJ2_5_6 (v553, v556, v559) _ ⟨hHeld, HO557.out, (by exact Kd.R_mono HO560.out (fun _ hk => hk.2)), BK550.out, BK551.out, HB.out⟩)
            ·skip
             refine Kd.R_lit_step Kd.bool _ 4 ?hg (N := 13) ?hd (xs := ([] : List Bool)) (inner := []) (ok := fun _ => True) (okp := fun _ => True) ?hr ?hp (fun _ hk => hk) trivial (Below.refl _ _) (Nat.le_refl _) (by simp) ?_; (case hd => rfl); (case hg => rfl); (case hr => (go_simp; done)); (case hp => exact (Reps.none _ _))
             intro v565 w13 ho14 hb hg_ hnew_
             clear hg_ hnew_
             (rw [← Ny564.out] at ho14)
             replace HO554 := am (Kd.R_below HO554.out hb)
             replace HO560 := am (Kd.R_below HO560.out hb)
             have HO566 := am (Kd.R_lower ho14 (below_size HB.out))
             replace BK550 := am (blk_below BK550.out hb)
             replace BK551 := am (blk_below BK551.out hb)
             replace HB := am (below_step HB.out hb)
             clear hb ho14
             refine hK.out _ _ ⟨(blk_cell BK550.out 0).trans rfl, (blk_cell BK550.out 1).trans rfl, (blk_cell BK550.out 2).trans rfl, (blk_cell BK550.out 3).trans rfl, (blk_cell BK550.out 4).trans rfl⟩ (fun hHeld => ?_)
             clear hK K
             refine norm_ (a' := ?_) ?_ ?_
             rotate_left
             ·show Act.put _ (some 13) _ = _
              simp only [Act.put, s2_, s0_, s1_, i64_w, i32_w]
              rfl
             exact norm_ (by (simp only [putAll, Act.put, s2_, s0_, s1_]; done)) (hJ2_6_10 (v553, v559, v565) _ ⟨hHeld, HO554.out, HO560.out, HO566.out, BK550.out, BK551.out, HB.out⟩)
          ·skip
           rintro ⟨v553, v556⟩ w11 ⟨hS_, h0_, h1_, h2_, h3_⟩
           have HO557 : Aside0 (Kd.R k60 60 w11 w.heap.size (fun _ => True) v556 y555) := ⟨h0_⟩
           replace BK550 : Aside0 (w11.heap[gb550]? = some (.cells #[.int .i64 a0_0, .slice A0_1 l0_1.length c0_1, .slice A0_2 l0_2.length c0_2, .slice A0_3 l0_3.length c0_3, .int .i64 a0_4] 40 (0, 0))) := ⟨h1_⟩
           replace BK551 : Aside0 (w11.heap[gb551]? = some (.cells #[.int .i64 0, .slice none 0 0, .slice none 0 0, .slice none 0 0, .int .i64 0] 40 (0, 0))) := ⟨h2_⟩
           replace HB : Aside0 (Below w.heap.size w w11) := ⟨h3_⟩
           clear h0_ h1_ h2_ h3_
           have hHeld : w11.cell? ⟨gb550, 0, none⟩ = some (.int .i64 a0_0) ∧ w11.cell? ⟨gb550, 1, none⟩ = some (.slice A0_1 l0_1.length c0_1) ∧ w11.cell? ⟨gb550, 2, none⟩ = some (.slice A0_2 l0_2.length c0_2) ∧ w11.cell? ⟨gb550, 3, none⟩ = some (.slice A0_3 l0_3.length c0_3) ∧ w11.cell? ⟨gb550, 4, none⟩ = some (.int .i64 a0_4) := hS_
           refine norm_ (a' := ?_) ?_ ?_
           rotate_left
           ·simp only [putAll, Act.put, s2_, s0_, s1_]
            rfl
           refine two_ (i := 6) (j := 10) (Ni := some 9) (Nj := some 13) #[true, true, true, true, true, true, true, true, true, false, false, true, true, false, true, true, false, false] #[true, true, true, true, true, true, false, true, true, false, true, true, true, false, true, true, false, false] rfl rfl rfl rfl (two_of HT_.out (by kernel_rfl)) (by decide) (by decide) (fun K hK => ?_) (fun K hK => ?_)
           ·skip
            refine Kd.R_lit_step k60 _ 60 ?hg (N := 9) ?hd (xs := ([] : List (S60))) (inner := []) (ok := fun _ => True) (okp := fun _ => True) ?hr ?hp (fun _ hk => hk) trivial (Below.refl _ _) (Nat.le_refl _) (by simp) ?_; (case hd => rfl); (case hg => rfl); (case hr => (go_simp; done)); (case hp => exact (Reps.none _ _))
            intro v559 w12 ho13 hb hg_ hnew_
            clear hg_ hnew_
            (rw [← Ny558.out] at ho13)
            have HO560 := am (Kd.R_lower (Kd.R_new' ho13 (Kd.R_lt HO557.out)) (below_size HB.out))
            replace HO557 := am (Kd.R_elder' HO557.out (Kd.R_base ho13) hb)
            replace BK550 := am (blk_below BK550.out hb)
            replace BK551 := am (blk_below BK551.out hb)
            replace HB := am (below_step HB.out hb)
            clear hb ho13
            refine hK.out _ _ ⟨(blk_cell BK550.out 0).trans rfl, (blk_cell BK550.out 1).trans rfl, (blk_cell BK550.out 2).trans rfl, (blk_cell BK550.out 3).trans rfl, (blk_cell BK550.out 4).trans rfl⟩ (fun hHeld => ?_)
            clear hK K
            refine norm_ (a' := ?_) ?_ ?_
            rotate_left
            ·show Act.put _ (some 9) _ = _
             simp only [Act.put, s2_, s0_, s1_, i64_w, i32_w]
             rfl
            exact norm_ (by (simp only [putAll, Act.put, s2_, s0_, s1_]; done)) (hJ2_5_6 (v553, v556, v559) _ ⟨hHeld, (by exact Kd.R_mono HO557.out (fun _ hk => hk.2)), (by exact Kd.R_mono HO560.out (fun _ hk => hk.2)), BK550.out, BK551.out, HB.out⟩)
           ·skip
            refine Kd.R_lit_step Kd.bool _ 4 ?hg (N := 13) ?hd (xs := ([] : List Bool)) (inner := []) (ok := fun _ => True) (okp := fun _ => True) ?hr ?hp (fun _ hk => hk) trivial (Below.refl _ _) (Nat.le_refl _) (by simp) ?_; (case hd => rfl); (case hg => rfl); (case hr => (go_simp; done)); (case hp => exact (Reps.none _ _))
            intro v565 w12 ho13 hb hg_ hnew_
            clear hg_ hnew_
            (rw [← Ny564.out] at ho13)
            replace HO557 := am (Kd.R_below HO557.out hb)
            have HO566 := am (Kd.R_lower ho13 (below_size HB.out))
            replace BK550 := am (blk_below BK550.out hb)
            replace BK551 := am (blk_below BK551.out hb)
            replace HB := am (below_step HB.out hb)
            clear hb ho13
            refine hK.out _ _ ⟨(blk_cell BK550.out 0).trans rfl, (blk_cell BK550.out 1).trans rfl, (blk_cell BK550.out 2).trans rfl, (blk_cell BK550.out 3).trans rfl, (blk_cell BK550.out 4).trans rfl⟩ (fun hHeld => ?_)
            clear hK K
            refine norm_ (a' := ?_) ?_ ?_
            rotate_left
            ·show Act.put _ (some 13) _ = _
             simp only [Act.put, s2_, s0_, s1_, i64_w, i32_w]
             rfl
            exact norm_ (by (simp only [putAll, Act.put, s2_, s0_, s1_]; done)) (hJ2_5_10 (v553, v556, v565) _ ⟨hHeld, HO557.out, HO566.out, BK550.out, BK551.out, HB.out⟩)
         ·skip
          rintro ⟨v553, v559, v565⟩ w14 ⟨hS_, h0_, h1_, h2_, h3_, h4_, h5_⟩
          have HO554 : Aside0 (Kd.R k60 60 w14 w.heap.size (fun k_ => some k_ ≠ (v559 : Value).ownBlock) v553 y552) := ⟨h0_⟩
          have HO560 : Aside0 (Kd.R k60 60 w14 w.heap.size (fun k_ => some k_ ≠ (v553 : Value).ownBlock) v559 y558) := ⟨h1_⟩
          have HO566 : Aside0 (Kd.R Kd.bool 4 w14 w.heap.size (fun _ => True) v565 y564) := ⟨h2_⟩
          replace BK550 : Aside0 (w14.heap[gb550]? = some (.cells #[.int .i64 a0_0, .slice A0_1 l0_1.length c0_1, .slice A0_2 l0_2.length c0_2, .slice A0_3 l0_3.length c0_3, .int .i64 a0_4] 40 (0, 0))) := ⟨h3_⟩
          replace BK551 : Aside0 (w14.heap[gb551]? = some (.cells #[.int .i64 0, .slice none 0 0, .slice none 0 0, .slice none 0 0, .int .i64 0] 40 (0, 0))) := ⟨h4_⟩
          replace HB : Aside0 (Below w.heap.size w w14) := ⟨h5_⟩
          clear h0_ h1_ h2_ h3_ h4_ h5_
          have hHeld : w14.cell? ⟨gb550, 0, none⟩ = some (.int .i64 a0_0) ∧ w14.cell? ⟨gb550, 1, none⟩ = some (.slice A0_1 l0_1.length c0_1) ∧ w14.cell? ⟨gb550, 2, none⟩ = some (.slice A0_2 l0_2.length c0_2) ∧ w14.cell? ⟨gb550, 3, none⟩ = some (.slice A0_3 l0_3.length c0_3) ∧ w14.cell? ⟨gb550, 4, none⟩ = some (.int .i64 a0_4) := hS_
          refine norm_ (a' := ?_) ?_ ?_
          rotate_left
          ·simp only [putAll, Act.put, s2_, s0_, s1_]
           rfl
          refine one_ (i := 5) (N := some 8) #[true, true, true, true, true, true, true, true, true, false, true, true, true, false, true, true, false, false] rfl rfl (one_of HT_.out (by kernel_rfl)) (by decide) (fun K hK => ?_)
          refine Kd.R_append_rows_step k60 (w0 := w) w.heap.size rfl (.tmp 5) (.tmp 7) 24 60 (.agg #[(.int .i64 0), (.int .i64 0), (.int .i64 0)]) 24 rfl Try.underlying24 info60 rfl (by decide) (by omega) v553 y552 l0_1 _ _ _ (fun k_ => some k_ ≠ (v559 : Value).ownBlock) (fun _ => False) rfl rfl ?aO ?aR (fun _ _ h => h) (fun _ h => h.elim) ?aF ?aB ?aS ?aL ?_
          (case aR => repeat (exact (Kd.C_below HR0_1.out HB.out)))
          (case aB => exact HB.out)
          (case aF => exact (fun k_ hk => Kd.fresh' (Kd.R_lt HO560.out) k_ hk))
          (case aO => exact HO554.out)
          (case aS => exact (below_size HB.out))
          (case aL => have := LMc2.out; omega)
          intro v556 w15 ho hb hg hat
          rw [← Ny555.out] at ho
          replace BK550 := am (blk_grown BK550.out hg (Kd.R_ne HO554.out BK550.out (by decide)))
          replace BK551 := am (blk_grown BK551.out hg (Kd.R_ne HO554.out BK551.out (by decide)))
          replace HO560 := am (Kd.R_after (ok := (fun _ => True)) (by exact Kd.R_mono HO560.out (fun _ hk => ⟨trivial, hk⟩)) hg hat)
          replace HO566 := am (Kd.R_over' HO566.out (Kd.R_typed HO554.out) (by decide) hg)
          replace HB := am (hb)
          have HO557 := am (ho)
          clear HO554 ho hb hg hat
          refine hK.out _ _ ⟨(blk_cell BK550.out 0).trans rfl, (blk_cell BK550.out 1).trans rfl, (blk_cell BK550.out 2).trans rfl, (blk_cell BK550.out 3).trans rfl, (blk_cell BK550.out 4).trans rfl⟩ (fun hHeld => ?_)
          clear hK K
          refine norm_ (a' := ?_) ?_ ?_
          rotate_left
          ·show Act.put _ (some 8) _ = _
           simp only [Act.put, s2_, s0_, s1_, i64_w, i32_w]
           rfl
          exact norm_ (by (simp only [putAll, Act.put, s2_, s0_, s1_]; done)) (hJ2_5_6_10 (v553, v556, v559, v565) _ ⟨hHeld, HO557.out, (by exact Kd.R_mono HO560.out (fun _ hk => hk.2)), HO566.out, BK550.out, BK551.out, HB.out⟩)
        ·skip
         rintro ⟨v553, v556, v565⟩ w13 ⟨hS_, h0_, h1_, h2_, h3_, h4_⟩
         have HO557 : Aside0 (Kd.R k60 60 w13 w.heap.size (fun _ => True) v556 y555) := ⟨h0_⟩
         have HO566 : Aside0 (Kd.R Kd.bool 4 w13 w.heap.size (fun _ => True) v565 y564) := ⟨h1_⟩
         replace BK550 : Aside0 (w13.heap[gb550]? = some (.cells #[.int .i64 a0_0, .slice A0_1 l0_1.length c0_1, .slice A0_2 l0_2.length c0_2, .slice A0_3 l0_3.length c0_3, .int .i64 a0_4] 40 (0, 0))) := ⟨h2_⟩
         replace BK551 : Aside0 (w13.heap[gb551]? = some (.cells #[.int .i64 0, .slice none 0 0, .slice none 0 0, .slice none 0 0, .int .i64 0] 40 (0, 0))) := ⟨h3_⟩
         replace HB : Aside0 (Below w.heap.size w w13) := ⟨h4_⟩
         clear h0_ h1_ h2_ h3_ h4_
         have hHeld : w13.cell? ⟨gb550, 0, none⟩ = some (.int .i64 a0_0) ∧ w13.cell? ⟨gb550, 1, none⟩ = some (.slice A0_1 l0_1.length c0_1) ∧ w13.cell? ⟨gb550, 2, none⟩ = some (.slice A0_2 l0_2.length c0_2) ∧ w13.cell? ⟨gb550, 3, none⟩ = some (.slice A0_3 l0_3.length c0_3) ∧ w13.cell? ⟨gb550, 4, none⟩ = some (.int .i64 a0_4) := hS_
         refine norm_ (a' := ?_) ?_ ?_
         rotate_left
         ·simp only [putAll, Act.put, s2_, s0_, s1_]
          rfl
         refine one_ (i := 6) (N := some 9) #[true, true, true, true, true, true, true, true, true, false, true, true, true, false, true, true, false, false] rfl rfl (one_of HT_.out (by kernel_rfl)) (by decide) (fun K hK => ?_)
         refine Kd.R_lit_step k60 _ 60 ?hg (N := 9) ?hd (xs := ([] : List (S60))) (inner := []) (ok := fun _ => True) (okp := fun _ => True) ?hr ?hp (fun _ hk => hk) trivial (Below.refl _ _) (Nat.le_refl _) (by simp) ?_; (case hd => rfl); (case hg => rfl); (case hr => (go_simp; done)); (case hp => exact (Reps.none _ _))
         intro v559 w14 ho15 hb hg_ hnew_
         clear hg_ hnew_
         (rw [← Ny558.out] at ho15)
         replace HO566 := am (Kd.R_below HO566.out hb)
         have HO560 := am (Kd.R_lower (Kd.R_new' ho15 (Kd.R_lt HO557.out)) (below_size HB.out))
         replace HO557 := am (Kd.R_elder' HO557.out (Kd.R_base ho15) hb)
         replace BK550 := am (blk_below BK550.out hb)
         replace BK551 := am (blk_below BK551.out hb)
         replace HB := am (below_step HB.out hb)
         clear hb ho15
         refine hK.out _ _ ⟨(blk_cell BK550.out 0).trans rfl, (blk_cell BK550.out 1).trans rfl, (blk_cell BK550.out 2).trans rfl, (blk_cell BK550.out 3).trans rfl, (blk_cell BK550.out 4).trans rfl⟩ (fun hHeld => ?_)
         clear hK K
         refine norm_ (a' := ?_) ?_ ?_
         rotate_left
         ·show Act.put _ (some 9) _ = _
          simp only [Act.put, s2_, s0_, s1_, i64_w, i32_w]
          rfl
         exact norm_ (by (simp only [putAll, Act.put, s2_, s0_, s1_]; done)) (hJ2_5_6_10 (v553, v556, v559, v565) _ ⟨hHeld, (by exact Kd.R_mono HO557.out (fun _ hk => hk.2)), (by exact Kd.R_mono HO560.out (fun _ hk => hk.2)), HO566.out, BK550.out, BK551.out, HB.out⟩)
       ·skip
        rintro ⟨v553, v556, v559⟩ w13 ⟨hS_, h0_, h1_, h2_, h3_, h4_⟩
        have HO557 : Aside0 (Kd.R k60 60 w13 w.heap.size (fun k_ => some k_ ≠ (v559 : Value).ownBlock) v556 y555) := ⟨h0_⟩
        have HO560 : Aside0 (Kd.R k60 60 w13 w.heap.size (fun k_ => some k_ ≠ (v556 : Value).ownBlock) v559 y558) := ⟨h1_⟩
        replace BK550 : Aside0 (w13.heap[gb550]? = some (.cells #[.int .i64 a0_0, .slice A0_1 l0_1.length c0_1, .slice A0_2 l0_2.length c0_2, .slice A0_3 l0_3.length c0_3, .int .i64 a0_4] 40 (0, 0))) := ⟨h2_⟩
        replace BK551 : Aside0 (w13.heap[gb551]? = some (.cells #[.int .i64 0, .slice none 0 0, .slice none 0 0, .slice none 0 0, .int .i64 0] 40 (0, 0))) := ⟨h3_⟩
        replace HB : Aside0 (Below w.heap.size w w13) := ⟨h4_⟩
        clear h0_ h1_ h2_ h3_ h4_
        have hHeld : w13.cell? ⟨gb550, 0, none⟩ = some (.int .i64 a0_0) ∧ w13.cell? ⟨gb550, 1, none⟩ = some (.slice A0_1 l0_1.length c0_1) ∧ w13.cell? ⟨gb550, 2, none⟩ = some (.slice A0_2 l0_2.length c0_2) ∧ w13.cell? ⟨gb550, 3, none⟩ = some (.slice A0_3 l0_3.length c0_3) ∧ w13.cell? ⟨gb550, 4, none⟩ = some (.int .i64 a0_4) := hS_
        refine norm_ (a' := ?_) ?_ ?_
        rotate_left
        ·simp only [putAll, Act.put, s2_, s0_, s1_]
         rfl
        refine two_ (i := 9) (j := 10) (Ni := some 12) (Nj := some 13) #[true, true, true, true, true, true, true, true, true, true, false, true, true, false, true, true, false, false] #[true, true, true, true, true, true, true, true, true, false, true, true, true, false, true, true, false, false] rfl rfl rfl rfl (two_of HT_.out (by kernel_rfl)) (by decide) (by decide) (fun K hK => ?_) (fun K hK => ?_)
        ·skip
         refine Kd.R_append_rows_step k60 (w0 := w) w.heap.size rfl (.tmp 9) (.tmp 11) 24 60 (.agg #[(.int .i64 0), (.int .i64 0), (.int .i64 0)]) 24 rfl Try.underlying24 info60 rfl (by decide) (by omega) v559 y558 l0_2 _ _ _ (fun k_ => some k_ ≠ (v556 : Value).ownBlock) (fun _ => False) rfl rfl ?aO ?aR (fun _ _ h => h) (fun _ h => h.elim) ?aF ?aB ?aS ?aL ?_
         (case aR => repeat (exact (Kd.C_below HR0_2.out HB.out)))
         (case aB => exact HB.out)
         (case aF => exact (fun k_ hk => Kd.fresh' (Kd.R_lt HO557.out) k_ hk))
         (case aO => exact HO560.out)
         (case aS => exact (below_size HB.out))
         (case aL => have := LMc3.out; omega)
         intro v562 w14 ho hb hg hat
         rw [← Ny561.out] at ho
         replace BK550 := am (blk_grown BK550.out hg (Kd.R_ne HO560.out BK550.out (by decide)))
         replace BK551 := am (blk_grown BK551.out hg (Kd.R_ne HO560.out BK551.out (by decide)))
         replace HO557 := am (Kd.R_after (ok := (fun _ => True)) (by exact Kd.R_mono HO557.out (fun _ hk => ⟨trivial, hk⟩)) hg hat)
         replace HB := am (hb)
         have HO563 := am (ho)
         clear HO560 ho hb hg hat
         refine hK.out _ _ ⟨(blk_cell BK550.out 0).trans rfl, (blk_cell BK550.out 1).trans rfl, (blk_cell BK550.out 2).trans rfl, (blk_cell BK550.out 3).trans rfl, (blk_cell BK550.out 4).trans rfl⟩ (fun hHeld => ?_)
         clear hK K
         refine norm_ (a' := ?_) ?_ ?_
         rotate_left
         ·show Act.put _ (some 12) _ = _
          simp only [Act.put, s2_, s0_, s1_, i64_w, i32_w]
          rfl
         exact norm_ (by (simp only [putAll, Act.put, s2_, s0_, s1_]; done)) (hJ2_5_6_9 (v553, v556, v559, v562) _ ⟨hHeld, (by exact Kd.R_mono HO557.out (fun _ hk => hk.2)), HO563.out, BK550.out, BK551.out, HB.out⟩)
        ·skip
         refine Kd.R_lit_step Kd.bool _ 4 ?hg (N := 13) ?hd (xs := ([] : List Bool)) (inner := []) (ok := fun _ => True) (okp := fun _ => True) ?hr ?hp (fun _ hk => hk) trivial (Below.refl _ _) (Nat.le_refl _) (by simp) ?_; (case hd => rfl); (case hg => rfl); (case hr => (go_simp; done)); (case hp => exact (Reps.none _ _))
         intro v565 w14 ho15 hb hg_ hnew_
         clear hg_ hnew_
         (rw [← Ny564.out] at ho15)
         replace HO557 := am (Kd.R_below HO557.out hb)
         replace HO560 := am (Kd.R_below HO560.out hb)
         have HO566 := am (Kd.R_lower ho15 (below_size HB.out))
         replace BK550 := am (blk_below BK550.out hb)
         replace BK551 := am (blk_below BK551.out hb)
         replace HB := am (below_step HB.out hb)
         clear hb ho15
         refine hK.out _ _ ⟨(blk_cell BK550.out 0).trans rfl, (blk_cell BK550.out 1).trans rfl, (blk_cell BK550.out 2).trans rfl, (blk_cell BK550.out 3).trans rfl, (blk_cell BK550.out 4).trans rfl⟩ (fun hHeld => ?_)
         clear hK K
         refine norm_ (a' := ?_) ?_ ?_
         rotate_left
         ·show Act.put _ (some 13) _ = _
          simp only [Act.put, s2_, s0_, s1_, i64_w, i32_w]
          rfl
         exact norm_ (by (simp only [putAll, Act.put, s2_, s0_, s1_]; done)) (hJ2_5_6_10 (v553, v556, v559, v565) _ ⟨hHeld, HO557.out, HO560.out, HO566.out, BK550.out, BK551.out, HB.out⟩)
      ·skip
       rintro ⟨v553, v556, v559, v565⟩ w15 ⟨hS_, h0_, h1_, h2_, h3_, h4_, h5_⟩
       have HO557 : Aside0 (Kd.R k60 60 w15 w.heap.size (fun k_ => some k_ ≠ (v559 : Value).ownBlock) v556 y555) := ⟨h0_⟩
       have HO560 : Aside0 (Kd.R k60 60 w15 w.heap.size (fun k_ => some k_ ≠ (v556 : Value).ownBlock) v559 y558) := ⟨h1_⟩
       have HO566 : Aside0 (Kd.R Kd.bool 4 w15 w.heap.size (fun _ => True) v565 y564) := ⟨h2_⟩
       replace BK550 : Aside0 (w15.heap[gb550]? = some (.cells #[.int .i64 a0_0, .slice A0_1 l0_1.length c0_1, .slice A0_2 l0_2.length c0_2, .slice A0_3 l0_3.length c0_3, .int .i64 a0_4] 40 (0, 0))) := ⟨h3_⟩
       replace BK551 : Aside0 (w15.heap[gb551]? = some (.cells #[.int .i64 0, .slice none 0 0, .slice none 0 0, .slice none 0 0, .int .i64 0] 40 (0, 0))) := ⟨h4_⟩
       replace HB : Aside0 (Below w.heap.size w w15) := ⟨h5_⟩
       clear h0_ h1_ h2_ h3_ h4_ h5_
       have hHeld : w15.cell? ⟨gb550, 0, none⟩ = some (.int .i64 a0_0) ∧ w15.cell? ⟨gb550, 1, none⟩ = some (.slice A0_1 l0_1.length c0_1) ∧ w15.cell? ⟨gb550, 2, none⟩ = some (.slice A0_2 l0_2.length c0_2) ∧ w15.cell? ⟨gb550, 3, none⟩ = some (.slice A0_3 l0_3.length c0_3) ∧ w15.cell? ⟨gb550, 4, none⟩ = some (.int .i64 a0_4) := hS_
       refine norm_ (a' := ?_) ?_ ?_
       rotate_left
       ·simp only [putAll, Act.put, s2_, s0_, s1_]
        rfl
       refine one_ (i := 9) (N := some 12) #[true, true, true, true, true, true, true, true, true, true, true, true, true, false, true, true, false, false] rfl rfl (one_of HT_.out (by kernel_rfl)) (by decide) (fun K hK => ?_)
       refine Kd.R_append_rows_step k60 (w0 := w) w.heap.size rfl (.tmp 9) (.tmp 11) 24 60 (.agg #[(.int .i64 0), (.int .i64 0), (.int .i64 0)]) 24 rfl Try.underlying24 info60 rfl (by decide) (by omega) v559 y558 l0_2 _ _ _ (fun k_ => some k_ ≠ (v556 : Value).ownBlock) (fun _ => False) rfl rfl ?aO ?aR (fun _ _ h => h) (fun _ h => h.elim) ?aF ?aB ?aS ?aL ?_
       (case aR => repeat (exact (Kd.C_below HR0_2.out HB.out)))
       (case aB => exact HB.out)
       (case aF => exact (fun k_ hk => Kd.fresh' (Kd.R_lt HO557.out) k_ hk))
       (case aO => exact HO560.out)
       (case aS => exact (below_size HB.out))
       (case aL => have := LMc3.out; omega)
       intro v562 w16 ho hb hg hat
       rw [← Ny561.out] at ho
       replace BK550 := am (blk_grown BK550.out hg (Kd.R_ne HO560.out BK550.out (by decide)))
       replace BK551 := am (blk_grown BK551.out hg (Kd.R_ne HO560.out BK551.out (by decide)))
       replace HO557 := am (Kd.R_after (ok := (fun _ => True)) (by exact Kd.R_mono HO557.out (fun _ hk => ⟨trivial, hk⟩)) hg hat)
       replace HO566 := am (Kd.R_over' HO566.out (Kd.R_typed HO560.out) (by decide) hg)
       replace HB := am (hb)
       have HO563 := am (ho)
       clear HO560 ho hb hg hat
       refine hK.out _ _ ⟨(blk_cell BK550.out 0).trans rfl, (blk_cell BK550.out 1).trans rfl, (blk_cell BK550.out 2).trans rfl, (blk_cell BK550.out 3).trans rfl, (blk_cell BK550.out 4).trans rfl⟩ (fun hHeld => ?_)
       clear hK K
       refine norm_ (a' := ?_) ?_ ?_
       rotate_left
       ·show Act.put _ (some 12) _ = _
        simp only [Act.put, s2_, s0_, s1_, i64_w, i32_w]
        rfl
       exact norm_ (by (simp only [putAll, Act.put, s2_, s0_, s1_]; done)) (hJ2_5_6_9_10 (v553, v556, v559, v562, v565) _ ⟨hHeld, (by exact Kd.R_mono HO557.out (fun _ hk => hk.2)), HO563.out, HO566.out, BK550.out, BK551.out, HB.out⟩)
     ·skip
      rintro ⟨v553, v556, v559, v562⟩ w14 ⟨hS_, h0_, h1_, h2_, h3_, h4_⟩
      have HO557 : Aside0 (Kd.R k60 60 w14 w.heap.size (fun k_ => some k_ ≠ (v562 : Value).ownBlock) v556 y555) := ⟨h0_⟩
      have HO563 : Aside0 (Kd.R k60 60 w14 w.heap.size (fun k_ => some k_ ≠ (v556 : Value).ownBlock) v562 y561) := ⟨h1_⟩
      replace BK550 : Aside0 (w14.heap[gb550]? = some (.cells #[.int .i64 a0_0, .slice A0_1 l0_1.length c0_1, .slice A0_2 l0_2.length c0_2, .slice A0_3 l0_3.length c0_3, .int .i64 a0_4] 40 (0, 0))) := ⟨h2_⟩
      replace BK551 : Aside0 (w14.heap[gb551]? = some (.cells #[.int .i64 0, .slice none 0 0, .slice none 0 0, .slice none 0 0, .int .i64 0] 40 (0, 0))) := ⟨h3_⟩
      replace HB : Aside0 (Below w.heap.size w w14) := ⟨h4_⟩
      clear h0_ h1_ h2_ h3_ h4_
      have hHeld : w14.cell? ⟨gb550, 0, none⟩ = some (.int .i64 a0_0) ∧ w14.cell? ⟨gb550, 1, none⟩ = some (.slice A0_1 l0_1.length c0_1) ∧ w14.cell? ⟨gb550, 2, none⟩ = some (.slice A0_2 l0_2.length c0_2) ∧ w14.cell? ⟨gb550, 3, none⟩ = some (.slice A0_3 l0_3.length c0_3) ∧ w14.cell? ⟨gb550, 4, none⟩ = some (.int .i64 a0_4) := hS_
      refine norm_ (a' := ?_) ?_ ?_
      rotate_left
      ·simp only [putAll, Act.put, s2_, s0_, s1_]
       rfl
      refine one_ (i := 10) (N := some 13) #[true, true, true, true, true, true, true, true, true, true, true, true, true, false, true, true, false, false] rfl rfl (one_of HT_.out (by kernel_rfl)) (by decide) (fun K hK => ?_)
      refine Kd.R_lit_step Kd.bool _ 4 ?hg (N := 13) ?hd (xs := ([] : List Bool)) (inner := []) (ok := fun _ => True) (okp := fun _ => True) ?hr ?hp (fun _ hk => hk) trivial (Below.refl _ _) (Nat.le_refl _) (by simp) ?_; (case hd => rfl); (case hg => rfl); (case hr => (go_simp; done)); (case hp => exact (Reps.none _ _))
      intro v565 w15 ho16 hb hg_ hnew_
      clear hg_ hnew_
      (rw [← Ny564.out] at ho16)
      replace HO557 := am (Kd.R_below HO557.out hb)
      replace HO563 := am (Kd.R_below HO563.out hb)
      have HO566 := am (Kd.R_lower ho16 (below_size HB.out))
      replace BK550 := am (blk_below BK550.out hb)
      replace BK551 := am (blk_below BK551.out hb)
      replace HB := am (below_step HB.out hb)
      clear hb ho16
      refine hK.out _ _ ⟨(blk_cell BK550.out 0).trans rfl, (blk_cell BK550.out 1).trans rfl, (blk_cell BK550.out 2).trans rfl, (blk_cell BK550.out 3).trans rfl, (blk_cell BK550.out 4).trans rfl⟩ (fun hHeld => ?_)
      clear hK K
      refine norm_ (a' := ?_) ?_ ?_
      rotate_left
      ·show Act.put _ (some 13) _ = _
       simp only [Act.put, s2_, s0_, s1_, i64_w, i32_w]
       rfl
      exact norm_ (by (simp only [putAll, Act.put, s2_, s0_, s1_]; done)) (hJ2_5_6_9_10 (v553, v556, v559, v562, v565) _ ⟨hHeld, HO557.out, HO563.out, HO566.out, BK550.out, BK551.out, HB.out⟩)
    rintro ⟨v553, v556, v559, v562, v565⟩ w16 ⟨hS_, h0_, h1_, h2_, h3_, h4_, h5_⟩
    have HO557 : Aside0 (Kd.R k60 60 w16 w.heap.size (fun k_ => some k_ ≠ (v562 : Value).ownBlock) v556 y555) := ⟨h0_⟩
    have HO563 : Aside0 (Kd.R k60 60 w16 w.heap.size (fun k_ => some k_ ≠ (v556 : Value).ownBlock) v562 y561) := ⟨h1_⟩
    have HO566 : Aside0 (Kd.R Kd.bool 4 w16 w.heap.size (fun _ => True) v565 y564) := ⟨h2_⟩
    replace BK550 : Aside0 (w16.heap[gb550]? = some (.cells #[.int .i64 a0_0, .slice A0_1 l0_1.length c0_1, .slice A0_2 l0_2.length c0_2, .slice A0_3 l0_3.length c0_3, .int .i64 a0_4] 40 (0, 0))) := ⟨h3_⟩
    replace BK551 : Aside0 (w16.heap[gb551]? = some (.cells #[.int .i64 0, .slice none 0 0, .slice none 0 0, .slice none 0 0, .int .i64 0] 40 (0, 0))) := ⟨h4_⟩
    replace HB : Aside0 (Below w.heap.size w w16) := ⟨h5_⟩
    clear h0_ h1_ h2_ h3_ h4_ h5_
    have hHeld : w16.cell? ⟨gb550, 0, none⟩ = some (.int .i64 a0_0) ∧ w16.cell? ⟨gb550, 1, none⟩ = some (.slice A0_1 l0_1.length c0_1) ∧ w16.cell? ⟨gb550, 2, none⟩ = some (.slice A0_2 l0_2.length c0_2) ∧ w16.cell? ⟨gb550, 3, none⟩ = some (.slice A0_3 l0_3.length c0_3) ∧ w16.cell? ⟨gb550, 4, none⟩ = some (.int .i64 a0_4) := hS_
    refine norm_ (a' := ?_) ?_ ?_
    rotate_left
    ·simp only [putAll, Act.put, s2_, s0_, s1_]
     rfl
    refine one_ (i := 13) (N := some 16) #[true, true, true, true, true, true, true, true, true, true, true, true, true, true, true, true, false, false] rfl rfl (one_of HT_.out (by kernel_rfl)) (by decide) (fun K hK => ?_)
    refine Kd.R_append_rows_step Kd.bool (w0 := w) w.heap.size rfl (.tmp 13) (.tmp 15) 38 4 (.bool false) 1 rfl Try.underlying38 info4 rfl (by decide) (by omega) v565 y564 l0_3 _ _ _ (fun _ => True) (fun _ => False) rfl rfl ?aO ?aR (fun _ _ h => h) (fun _ h => h.elim) ?aF ?aB ?aS ?aL ?_
    (case aR => repeat (exact (Kd.C_below HR0_3.out HB.out)))
    (case aB => exact HB.out)
    (case aF => exact (fun _ _ => trivial))
    (case aO => exact HO566.out)
    (case aS => exact (below_size HB.out))
    (case aL => have := LMc4.out; omega)
    intro v568 w17 ho hb hg hat
    rw [← Ny567.out] at ho
    replace BK550 := am (blk_grown BK550.out hg (Kd.R_ne HO566.out BK550.out (by decide)))
    replace BK551 := am (blk_grown BK551.out hg (Kd.R_ne HO566.out BK551.out (by decide)))
    replace HO557 := am (Kd.R_over' HO557.out (Kd.R_typed HO566.out) (by decide) hg)
    replace HO563 := am (Kd.R_over' HO563.out (Kd.R_typed HO566.out) (by decide) hg)
    replace HB := am (hb)
    have HO569 := am (ho)
    clear HO566 ho hb hg hat
    obtain ⟨Ao18, co18, eo18⟩ := Kd.R_slice HO569.out
    (subst eo18)
    obtain ⟨Ao19, co19, eo19⟩ := Kd.R_slice HO563.out
    (subst eo19)
    obtain ⟨Ao20, co20, eo20⟩ := Kd.R_slice HO557.out
    (subst eo20)
    refine hK.out _ _ ⟨(blk_cell BK550.out 0).trans rfl, (blk_cell BK550.out 1).trans rfl, (blk_cell BK550.out 2).trans rfl, (blk_cell BK550.out 3).trans rfl, (blk_cell BK550.out 4).trans rfl⟩ (fun hHeld => ?_)
    clear hK K
    refine norm_ (a' := ?_) ?_ ?_
    rotate_left
    ·show Act.put _ (some 16) _ = _
     simp only [Act.put, s2_, s0_, s1_, i64_w, i32_w]
     rfl
    refine pure_ (i := 16) (N := some 19) (v := ?_) (a' := ?_) #[true, true, true, true, true, true, true, true, true, true, true, true, true, true, true, true, true, false] rfl rfl (any_of HT_.out (by kernel_rfl)) (fun _ _ _ h => h) (Or.inl ⟨rfl, ?_⟩) ?_ ?_
    rotate_left
    ·intro w'
     go_simp
     with_reducible rfl
    rotate_left
    ·simp only [Act.put, s2_, s0_, s1_, i64_w, i32_w]
     rfl
    refine one_ (i := 17) (N := none) #[true, true, true, true, true, true, true, true, true, true, true, true, true, true, true, true, true, true] rfl rfl (one_of HT_.out (by kernel_rfl)) (by decide) (fun K hK => ?_)
    have hs21 : w17.cell? ⟨gb551, 0, none⟩ = some (.int .i64 0) := (blk_cell BK551.out 0).trans rfl
    have hfs21 := blk_frozen BK551.out 0
    have hns21_0 := NB550_551.out
    have hms21_0 := NB551_550.out
    have hs22 : w17.cell? ⟨gb551, 1, none⟩ = some (.slice none 0 0) := (blk_cell BK551.out 1).trans rfl
    have hfs22 := blk_frozen BK551.out 1
    have hns22_0 := NB550_551.out
    have hms22_0 := NB551_550.out
    have hs23 : w17.cell? ⟨gb551, 2, none⟩ = some (.slice none 0 0) := (blk_cell BK551.out 2).trans rfl
    have hfs23 := blk_frozen BK551.out 2
    have hns23_0 := NB550_551.out
    have hms23_0 := NB551_550.out
    have hs24 : w17.cell? ⟨gb551, 3, none⟩ = some (.slice none 0 0) := (blk_cell BK551.out 3).trans rfl
    have hfs24 := blk_frozen BK551.out 3
    have hns24_0 := NB550_551.out
    have hms24_0 := NB551_550.out
    have hs25 : w17.cell? ⟨gb551, 4, none⟩ = some (.int .i64 0) := (blk_cell BK551.out 4).trans rfl
    have hfs25 := blk_frozen BK551.out 4
    have hns25_0 := NB550_551.out
    have hms25_0 := NB551_550.out
    refine skip_ (w1 := ?_) rfl rfl ?_ ?_
    rotate_left
    ·go_simp
     rfl
    refine hK.out _ _ ⟨((cell_far (p := ⟨gb551, _, none⟩) NB550_551.out _).trans (((cell_far (p := ⟨gb551, _, none⟩) NB550_551.out _).trans (((cell_far (p := ⟨gb551, _, none⟩) NB550_551.out _).trans (((cell_far (p := ⟨gb551, _, none⟩) NB550_551.out _).trans (((cell_far (p := ⟨gb551, _, none⟩) NB550_551.out _).trans (hHeld.1)))))))))), ((cell_far (p := ⟨gb551, _, none⟩) NB550_551.out _).trans (((cell_far (p := ⟨gb551, _, none⟩) NB550_551.out _).trans (((cell_far (p := ⟨gb551, _, none⟩) NB550_551.out _).trans (((cell_far (p := ⟨gb551, _, none⟩) NB550_551.out _).trans (((cell_far (p := ⟨gb551, _, none⟩) NB550_551.out _).trans (hHeld.2.1)))))))))), ((cell_far (p := ⟨gb551, _, none⟩) NB550_551.out _).trans (((cell_far (p := ⟨gb551, _, none⟩) NB550_551.out _).trans (((cell_far (p := ⟨gb551, _, none⟩) NB550_551.out _).trans (((cell_far (p := ⟨gb551, _, none⟩) NB550_551.out _).trans (((cell_far (p := ⟨gb551, _, none⟩) NB550_551.out _).trans (hHeld.2.2.1)))))))))), ((cell_far (p := ⟨gb551, _, none⟩) NB550_551.out _).trans (((cell_far (p := ⟨gb551, _, none⟩) NB550_551.out _).trans (((cell_far (p := ⟨gb551, _, none⟩) NB550_551.out _).trans (((cell_far (p := ⟨gb551, _, none⟩) NB550_551.out _).trans (((cell_far (p := ⟨gb551, _, none⟩) NB550_551.out _).trans (hHeld.2.2.2.1)))))))))), ((cell_far (p := ⟨gb551, _, none⟩) NB550_551.out _).trans (((cell_far (p := ⟨gb551, _, none⟩) NB550_551.out _).trans (((cell_far (p := ⟨gb551, _, none⟩) NB550_551.out _).trans (((cell_far (p := ⟨gb551, _, none⟩) NB550_551.out _).trans (((cell_far (p := ⟨gb551, _, none⟩) NB550_551.out _).trans (hHeld.2.2.2.2))))))))))⟩ (fun hHeld => ?_)
    clear hK K
    refine done_ (done_of HT_.out (by kernel_rfl)) ?_
    try go_wp2
    refine bodyPost_ret (results_cell_row rfl _ _ gb551 40 #[.int .i64 a0_0, .slice Ao20 y555.length co20, .slice Ao19 y561.length co19, .slice Ao18 y567.length co18, .int .i64 a0_4] (0, 0) _ rfl (by refine blk_put (cs := #[.int .i64 a0_0, .slice Ao20 y555.length co20, .slice Ao19 y561.length co19, .slice Ao18 y567.length co18, .int .i64 0]) ?_ 4 _ rfl; refine blk_put (cs := #[.int .i64 a0_0, .slice Ao20 y555.length co20, .slice Ao19 y561.length co19, .slice none 0 0, .int .i64 0]) ?_ 3 _ rfl; refine blk_put (cs := #[.int .i64 a0_0, .slice Ao20 y555.length co20, .slice none 0 0, .slice none 0 0, .int .i64 0]) ?_ 2 _ rfl; refine blk_put (cs := #[.int .i64 a0_0, .slice none 0 0, .slice none 0 0, .slice none 0 0, .int .i64 0]) ?_ 1 _ rfl; refine blk_put (cs := #[.int .i64 0, .slice none 0 0, .slice none 0 0, .slice none 0 0, .int .i64 0]) ?_ 0 _ rfl; exact BK551.out) Try.underlying40 rfl (by kernel_rfl)) rfl ?_
    exact ⟨_, _, _, rfl, by exact Kd.R_mono (Kd.R_far (p := ⟨gb551, 4, none⟩) (Kd.R_far (p := ⟨gb551, 3, none⟩) (Kd.R_far (p := ⟨gb551, 2, none⟩) (Kd.R_far (p := ⟨gb551, 1, none⟩) (Kd.R_far (p := ⟨gb551, 0, none⟩) (Kd.R_types HO557.out BK551.out (by decide)) (fun _ hk => hk.2) (.int .i64 a0_0)) (fun _ hk => hk.2) (.slice Ao20 y555.length co20)) (fun _ hk => hk.2) (.slice Ao19 y561.length co19)) (fun _ hk => hk.2) (.slice Ao18 y567.length co18)) (fun _ hk => hk.2) (.int .i64 a0_4)) (fun _ hk => hk.1), by exact Kd.R_mono (Kd.R_far (p := ⟨gb551, 4, none⟩) (Kd.R_far (p := ⟨gb551, 3, none⟩) (Kd.R_far (p := ⟨gb551, 2, none⟩) (Kd.R_far (p := ⟨gb551, 1, none⟩) (Kd.R_far (p := ⟨gb551, 0, none⟩) (Kd.R_types HO563.out BK551.out (by decide)) (fun _ hk => hk.2) (.int .i64 a0_0)) (fun _ hk => hk.2) (.slice Ao20 y555.length co20)) (fun _ hk => hk.2) (.slice Ao19 y561.length co19)) (fun _ hk => hk.2) (.slice Ao18 y567.length co18)) (fun _ hk => hk.2) (.int .i64 a0_4)) (fun _ hk => hk.1), by exact Kd.R_mono (Kd.R_far (p := ⟨gb551, 4, none⟩) (Kd.R_far (p := ⟨gb551, 3, none⟩) (Kd.R_far (p := ⟨gb551, 2, none⟩) (Kd.R_far (p := ⟨gb551, 1, none⟩) (Kd.R_far (p := ⟨gb551, 0, none⟩) (Kd.R_types HO569.out BK551.out (by decide)) (fun _ hk => hk.2) (.int .i64 a0_0)) (fun _ hk => hk.2) (.slice Ao20 y555.length co20)) (fun _ hk => hk.2) (.slice Ao19 y561.length co19)) (fun _ hk => hk.2) (.slice Ao18 y567.length co18)) (fun _ hk => hk.2) (.int .i64 a0_4)) (fun _ hk => trivial), by repeat ((with_reducible first | exact HB.out | refine below_set ?_ GE551.out))⟩
   ·rw [if_neg c4] at H
    exact absurd H (by simp)
  ·rw [if_neg c3] at H
   exact absurd H (by simp)
 ·rw [if_neg c2] at H
  exact absurd H (by simp)

end Go.Proofs.Ytobndcjmjhehjaa.P
