/- For every code the law FnBlockNestedLoop of the given program returns true and leaves its argument as it was; no condition. -/
import Derived.Test.YtobndcjmjhehjaaPbf0
namespace Go.Proofs.Ytobndcjmjhehjaa.P
open Go.RowKit Go.Proofs.YtobndcjmjhehjaaW.PrintWords Go.Proofs.YtobndcjmjhehjaaW.PrintLast Go.Proofs.YtobndcjmjhehjaaW.PrintMore
attribute [local go_sem] max2_int min2_int max_two min_two max_three min_three max_four min_four   -- for this text's walks alone
set_option linter.unusedVariables false
set_option linter.unusedSimpArgs false
set_option maxHeartbeats 8000000
set_option maxRecDepth 100000
def impl_NewTask.j0 : Nat → Int → List (S60) → List (S60) → Bool → Option (Int × (List (S60)) × (List (S60)) × List Bool × Int × Bool)
 | 0, _, _, _, _ => none
 | k + 1, x0, x1, x2, x20 => if x20 = true then (some (0, ([] : List (S60)), ([] : List (S60)), ([] : List Bool), 0, false)) else ((impl_clone.f x1).bind fun t376 => ((impl_clone.f x2).bind fun t379 => (if 0 ≤ (x1.length : Int) then (if ((x1.length : Int) : Int).toNat ≤ 281474976710656 then (some (x0, t376, t379, (List.replicate ((x1.length : Int) : Int).toNat false), 0, true)) else (none)) else (none))))
def impl_NewTask.f (k : Nat) (a0 : Int) (l1 : List (S60)) (l2 : List (S60)) : Option (Int × (List (S60)) × (List (S60)) × List Bool × Int × Bool) := (impl_IsValidJoinKind.f a0).bind fun t373 => (if t373 = true then ((impl_AreValidRows.f k l1).bind fun t374 => (if t374 = true then ((impl_AreValidRows.f k l2).bind fun t375 => (impl_NewTask.j0 k a0 l1 l2 (!t375))) else (impl_NewTask.j0 k a0 l1 l2 true))) else (impl_NewTask.j0 k a0 l1 l2 true))
def impl_NewTask.T3 : Bool × List (List Nat × List Nat) := (true, [([], []), ([], []), ([1], [1]), ([], []), ([3, 2], [3]), ([], []), ([5], [5]), ([6, 6], [6]), ([0, 2, 4, 7], [0, 2, 4, 7]), ([8, 4, 0, 1, 2, 3, 4, 5, 6, 7, 8], [8]), ([9, 0, 1, 2, 3, 4, 5, 6, 7, 8, 9], [])])
def impl_NewTask.B3 : List Nat := [0, 0, 2, 0, 14, 0, 32, 96, 255, 511, 1023]
theorem impl_NewTask.tab3 : rtab .any (opsOf Try.f63 3) = impl_NewTask.T3 := by kernel_rfl
theorem impl_NewTask.bits3 : waitsOk impl_NewTask.T3.2 impl_NewTask.B3 = true := by kernel_rfl
theorem impl_NewTask.calls (k : Nat) (a0 : Int) (A1 : Option Addr) (c1 : Nat) (l1 : List (S60)) (A2 : Option Addr) (c2 : Nat) (l2 : List (S60)) (r1 : Int) (r2 : List (S60)) (r3 : List (S60)) (r4 : List Bool) (r5 : Int) (r6 : Bool) (w : World) (hr1 : Kd.C k60 w A1 l1.length l1) (hc1 : l1.length ≤ c1) (hr2 : Kd.C k60 w A2 l2.length l2) (hc2 : l2.length ≤ c2) (h : impl_NewTask.f k a0 l1 l2 = some (r1, r2, r3, r4, r5, r6)) :
  Calls Try.prog 63 #[.int .i64 a0, .slice A1 l1.length c1, .slice A2 l2.length c2] w fun e w' => ∃ v1_ v2_ v3_ : Value, e = .returned (.tuple #[.agg #[.int .i64 r1, v1_, v2_, v3_, .int .i64 r5], .bool r6]) ∧ Kd.R k60 60 w' w.heap.size (fun k_ => some k_ ≠ (v2_ : Value).ownBlock) v1_ r2 ∧ Kd.R k60 60 w' w.heap.size (fun k_ => some k_ ≠ (v1_ : Value).ownBlock) v2_ r3 ∧ Kd.R Kd.bool 4 w' w.heap.size (fun _ => True) v3_ r4 ∧ Below w.heap.size w w' := by
 have hu40 := Try.underlying40
 have HR1 := am hr1
 have HC1 := am hc1
 clear hr1 hc1
 have HR2 := am hr2
 have HC2 := am hc2
 clear hr2 hc2
 have HB := am (Below.refl w.heap.size w)
 have H : ((impl_IsValidJoinKind.f a0).bind fun t373 => (if t373 = true then ((impl_AreValidRows.f k l1).bind fun t374 => (if t374 = true then ((impl_AreValidRows.f k l2).bind fun t375 => (impl_NewTask.j0 k a0 l1 l2 (!t375))) else (impl_NewTask.j0 k a0 l1 l2 true))) else (impl_NewTask.j0 k a0 l1 l2 true))) = some (r1, r2, r3, r4, r5, r6) := h
 clear h
 have HC4 := am H
 clear H
 go_enter Try.func63, Try.ntmps63
 go_upto_region 1 with (((with_reducible refine gate_dst (N := 6) rfl ?_); refine box_event ?hg (N := 6) ?hd (cs := #[.int .i64 0, .slice none 0 0, .slice none 0 0, .slice none 0 0, .int .i64 0]) (t := 40) ?hr ?_; (case hd => rfl); (case hg => rfl); (case hr => (go_simp; done)); intro gb372 hg w5 hbox hb; have BK372 := am (hbox); have GW372 := am (gw_ hg HB.out); have GE372 := am (gw_ hg HB.out); replace HB := am (below_step HB.out hb); clear hb hbox hg))
 (try simp only [Act.put, s2_, s0_, s1_])
 go_cut [20] (fun v20 wc => ∃ (kq : Nat) (x20_3 : Bool), v20 = .bool x20_3 ∧ Aside0 (impl_NewTask.j0 kq a0 l1 l2 x20_3 = some (r1, r2, r3, r4, r5, r6)) ∧ Aside0 (kq ≤ k) ∧ Aside0 (wc.heap[gb372]? = some (.cells #[.int .i64 0, (.slice none 0 0), (.slice none 0 0), (.slice none 0 0), .int .i64 0] 40 (0, 0))) ∧ Aside0 (Below w.heap.size w wc))
 case first =>
  have H := HC4.out
  clear HC4
  replace H := Option.bind_eq_some_iff.mp H
  obtain ⟨t373, A60, H⟩ := H
  have A6 := am A60
  clear A60
  by_cases c7 : t373 = true
  ·subst c7
   rw [if_pos rfl] at H
   replace H := Option.bind_eq_some_iff.mp H
   obtain ⟨t374, A80, H⟩ := H
   have A8 := am A80
   clear A80
   by_cases c9 : t374 = true
   ·subst c9
    rw [if_pos rfl] at H
    replace H := Option.bind_eq_some_iff.mp H
    obtain ⟨t375, A100, H⟩ := H
    have A10 := am A100
    clear A100
    have H' := am H
    clear H
    go_wp2_with (first | ((with_reducible refine gate_callee (f := 132) rfl ?_); refine goesL_ (some 9) rfl rfl Try.func132 (by kernel_rfl) rfl #[.int .i64 a0] rfl (by (try simp only [List.map_toArray, List.map_cons, List.map_nil]); rfl) ?_; (with_reducible refine (impl_IsValidJoinKind.calls a0 true _ A6.out).mono ?_); rintro e w' ⟨rfl, ⟨nd, rfl⟩⟩; refine ⟨_, rfl, ?_⟩) | (go_at_call 133; (with_reducible refine (impl_AreValidRows.calls k _ _ l1 true _ ?side1 ?side2 A8.out).mono ?_); (case side1 => repeat (exact (Kd.C_below HR1.out (by repeat (with_reducible first | exact HB.out | apply pw_below_drewN))))); (case side2 => exact HC1.out); rintro e w11 ⟨rfl, hb⟩; replace BK372 := am (blk_below (g := gb372) (o := .cells #[.int .i64 0, .slice none 0 0, .slice none 0 0, .slice none 0 0, .int .i64 0] 40 (0, 0)) (by (with_reducible repeat (refine blk_drewN ?_ _)); exact BK372.out) hb); replace HB := am (below_step (by repeat (with_reducible first | exact HB.out | apply pw_below_drewN)) hb); (try clear hb)) | (go_at_call 133; (with_reducible refine (impl_AreValidRows.calls k _ _ l2 t375 _ ?side1 ?side2 A10.out).mono ?_); (case side1 => repeat (exact (Kd.C_below HR2.out HB.out))); (case side2 => exact HC2.out); rintro e w12 ⟨rfl, hb⟩; replace BK372 := am (blk_below BK372.out hb); replace HB := am (below_step HB.out hb); (try clear hb)))
    go_meet
    case rel => exact ⟨_, (!t375), rfl, H', ⟨by omega⟩, ⟨BK372.out⟩, ⟨HB.out⟩⟩
   ·replace c9 := Bool.eq_false_iff.mpr c9
    subst c9
    rw [if_neg (show ¬ (false = true) by decide)] at H
    have H' := am H
    clear H
    go_wp2_with (first | ((with_reducible refine gate_callee (f := 132) rfl ?_); refine goesL_ (some 9) rfl rfl Try.func132 (by kernel_rfl) rfl #[.int .i64 a0] rfl (by (try simp only [List.map_toArray, List.map_cons, List.map_nil]); rfl) ?_; (with_reducible refine (impl_IsValidJoinKind.calls a0 true _ A6.out).mono ?_); rintro e w' ⟨rfl, ⟨nd, rfl⟩⟩; refine ⟨_, rfl, ?_⟩) | (go_at_call 133; (with_reducible refine (impl_AreValidRows.calls k _ _ l1 false _ ?side1 ?side2 A8.out).mono ?_); (case side1 => repeat (exact (Kd.C_below HR1.out (by repeat (with_reducible first | exact HB.out | apply pw_below_drewN))))); (case side2 => exact HC1.out); rintro e w13 ⟨rfl, hb⟩; replace BK372 := am (blk_below (g := gb372) (o := .cells #[.int .i64 0, .slice none 0 0, .slice none 0 0, .slice none 0 0, .int .i64 0] 40 (0, 0)) (by (with_reducible repeat (refine blk_drewN ?_ _)); exact BK372.out) hb); replace HB := am (below_step (by repeat (with_reducible first | exact HB.out | apply pw_below_drewN)) hb); (try clear hb)))
    go_meet
    case rel => exact ⟨_, (true), rfl, H', ⟨by omega⟩, ⟨BK372.out⟩, ⟨HB.out⟩⟩
  ·replace c7 := Bool.eq_false_iff.mpr c7
   subst c7
   rw [if_neg (show ¬ (false = true) by decide)] at H
   have H' := am H
   clear H
   go_wp2_with (((with_reducible refine gate_callee (f := 132) rfl ?_); refine goesL_ (some 9) rfl rfl Try.func132 (by kernel_rfl) rfl #[.int .i64 a0] rfl (by (try simp only [List.map_toArray, List.map_cons, List.map_nil]); rfl) ?_; (with_reducible refine (impl_IsValidJoinKind.calls a0 false _ A6.out).mono ?_); rintro e w' ⟨rfl, ⟨nd, rfl⟩⟩; refine ⟨_, rfl, ?_⟩))
   go_meet
   case rel => exact ⟨_, (true), rfl, H', ⟨by omega⟩, ⟨by (with_reducible repeat (refine blk_drewN ?_ _)); exact BK372.out⟩, ⟨by repeat ((with_reducible first | exact HB.out | apply pw_below_drewN))⟩⟩
 case rest =>
  clear HC4
  obtain ⟨kq, x20_3, rfl, HA, HJ3, BK372, HB⟩ := hcut
  cases kq with
  | zero => exact absurd HA.out (by simp [impl_NewTask.j0])
  | succ kj3 =>
   have H := HA.out
   clear HA
   simp only [impl_NewTask.j0] at H
   by_cases c14 : x20_3 = true
   ·subst c14
    rw [if_pos rfl] at H
    simp only [Option.some.injEq, Prod.mk.injEq] at H
    obtain ⟨rfl, rfl, rfl, rfl, rfl, rfl⟩ := H
    obtain ⟨hcz15_0, hcz15_1, hcz15_2, hcz15_3, hcz15_4, hfz15_0, hfz15_1, hfz15_2, hfz15_3, hfz15_4⟩ := cells5_ BK372.out
    go_wp2
    refine bodyPost_ret (results_ct rfl _ _ gb372 40 #[.int .i64 0, .slice none 0 0, .slice none 0 0, .slice none 0 0, .int .i64 0] (0, 0) _ rfl (by refine blk_put (cs := #[.int .i64 0, .slice none 0 0, .slice none 0 0, .slice none 0 0, .int .i64 0]) ?_ 4 _ rfl; refine blk_put (cs := #[.int .i64 0, .slice none 0 0, .slice none 0 0, .slice none 0 0, .int .i64 0]) ?_ 3 _ rfl; refine blk_put (cs := #[.int .i64 0, .slice none 0 0, .slice none 0 0, .slice none 0 0, .int .i64 0]) ?_ 2 _ rfl; refine blk_put (cs := #[.int .i64 0, .slice none 0 0, .slice none 0 0, .slice none 0 0, .int .i64 0]) ?_ 1 _ rfl; refine blk_put (cs := #[.int .i64 0, .slice none 0 0, .slice none 0 0, .slice none 0 0, .int .i64 0]) ?_ 0 _ rfl; exact BK372.out) Try.underlying40 rfl (by kernel_rfl)) rfl ?_
    exact ⟨_, _, _, rfl, by exact Kd.R_nil _ _ _ _ _, by exact Kd.R_nil _ _ _ _ _, by exact Kd.R_nil _ _ _ _ _, by repeat ((with_reducible first | exact HB.out | refine below_set ?_ GE372.out))⟩
   ·replace c14 := Bool.eq_false_iff.mpr c14
    subst c14
    rw [if_neg (show ¬ (false = true) by decide)] at H
    replace H := Option.bind_eq_some_iff.mp H
    obtain ⟨t376, A160, H⟩ := H
    have A16 := am A160
    clear A160
    replace H := Option.bind_eq_some_iff.mp H
    obtain ⟨t379, A170, H⟩ := H
    have A17 := am A170
    clear A170
    by_cases c18 : 0 ≤ (l1.length : Int)
    ·rw [if_pos c18] at H
     have c18b0 := eq_true c18
     have c18b1 : decide (0 ≤ (l1.length : Int)) = true := decide_eq_true c18
     clear c18
     by_cases c19 : ((l1.length : Int) : Int).toNat ≤ 281474976710656
     ·rw [if_pos c19] at H
      have c19b0 := eq_true c19
      have c19b1 : decide (((l1.length : Int) : Int).toNat ≤ 281474976710656) = true := decide_eq_true c19
      clear c19
      obtain ⟨y382, hy382⟩ : ∃ y_ : List Bool, y_ = (List.replicate ((l1.length : Int) : Int).toNat false) := ⟨_, rfl⟩
      replace H : (some (a0, t376, t379, y382, 0, true)) = some (r1, r2, r3, r4, r5, r6) := by (rw [hy382]; with_reducible exact H)
      have Ny382 := am hy382
      clear hy382
      simp only [Option.some.injEq, Prod.mk.injEq] at H
      obtain ⟨rfl, rfl, rfl, rfl, rfl, rfl⟩ := H
      try go_wp2
      replace BK372 := am (blk_drew BK372.out)
      replace HB := am (below_drew1 HB.out)
      refine start_ (n := 11) (S := fun w' => True) (ds := []) #[false, false, false, false, false, false, false, false, false, false, false] (by kernel_rfl) rfl rfl trivial (fun hHeld => ?_); refine with_tabW impl_NewTask.tab3 impl_NewTask.bits3 (fun HT_ HW_ => ?_)
      generalize wc.drew = w20 at BK372 HB hHeld ⊢
      refine pure_ (i := 0) (N := some 22) (v := ?_) (a' := ?_) #[true, false, false, false, false, false, false, false, false, false, false] rfl rfl (any_of HT_.out (by kernel_rfl)) (fun _ _ _ h => h) (Or.inl ⟨rfl, ?_⟩) ?_ ?_
      rotate_left
      ·intro w'
       go_simp
       with_reducible rfl
      rotate_left
      ·simp only [Act.put, s2_, s0_, s1_, i64_w, i32_w]
       rfl
      refine pure_ (i := 1) (N := some 23) (v := ?_) (a' := ?_) #[true, true, false, false, false, false, false, false, false, false, false] rfl rfl (any_of HT_.out (by kernel_rfl)) (fun _ _ _ h => h) (Or.inl ⟨rfl, ?_⟩) ?_ ?_
      rotate_left
      ·intro w'
       go_simp
       with_reducible rfl
      rotate_left
      ·simp only [Act.put, s2_, s0_, s1_, i64_w, i32_w]
       rfl
      refine pure_ (i := 3) (N := some 25) (v := ?_) (a' := ?_) #[true, true, false, true, false, false, false, false, false, false, false] rfl rfl (any_of HT_.out (by kernel_rfl)) (fun _ _ _ h => h) (Or.inl ⟨rfl, ?_⟩) ?_ ?_
      rotate_left
      ·intro w'
       go_simp
       with_reducible rfl
      rotate_left
      ·simp only [Act.put, s2_, s0_, s1_, i64_w, i32_w]
       rfl
      refine pure_ (i := 5) (N := some 27) (v := ?_) (a' := ?_) #[true, true, false, true, false, true, false, false, false, false, false] rfl rfl (any_of HT_.out (by kernel_rfl)) (fun _ _ _ h => h) (Or.inl ⟨rfl, ?_⟩) ?_ ?_
      rotate_left
      ·intro w'
       go_simp
       with_reducible rfl
      rotate_left
      ·simp only [Act.put, s2_, s0_, s1_, i64_w, i32_w]
       rfl
      refine pure_ (i := 6) (N := some 28) (v := ?_) (a' := ?_) #[true, true, false, true, false, true, true, false, false, false, false] rfl rfl (any_of HT_.out (by kernel_rfl)) (fun _ _ _ h => h) (Or.inl ⟨rfl, ?_⟩) ?_ ?_
      rotate_left
      ·intro w'
       go_simp
       with_reducible rfl
      rotate_left
      ·simp only [Act.put, s2_, s0_, s1_, i64_w, i32_w]
       rfl
      refine join_ (σ := Value × Value × Value) 3 #[true, true, true, true, true, true, true, true, false, false, false] (fun s_ => [(24, s_.1), (26, s_.2.1), (29, s_.2.2)]) (fun s_ w' => (Kd.R k60 60 w' w.heap.size (fun k_ => some k_ ≠ (s_.2.1 : Value).ownBlock) s_.1 t376) ∧ (Kd.R k60 60 w' w.heap.size (fun k_ => some k_ ≠ (s_.1 : Value).ownBlock) s_.2.1 t379) ∧ (Kd.R Kd.bool 4 w' w.heap.size (fun _ => True) s_.2.2 y382) ∧ (w'.heap[gb372]? = some (.cells #[.int .i64 0, .slice none 0 0, .slice none 0 0, .slice none 0 0, .int .i64 0] 40 (0, 0))) ∧ (Below w.heap.size w w')) ?_ ?_
      rotate_left
      ·intro hCont
       refine two_ (i := 2) (j := 7) (Ni := some 24) (Nj := some 29) #[true, true, true, true, false, true, true, false, false, false, false] #[true, true, false, true, false, true, true, true, false, false, false] rfl rfl rfl rfl (two_of HT_.out (by kernel_rfl)) (by decide) (by decide) (fun K hK => ?_) (fun K hK => ?_)
       ·skip
        refine goes_ Try.func112 (by kernel_rfl) rfl #[.slice A1 l1.length c1] rfl rfl rfl (by (try simp only [List.map_toArray, List.map_cons, List.map_nil]); rfl) ?_
        with_reducible refine (impl_clone.calls _ _ l1 t376 _ ?side1 ?side2 A16.out).mono ?_
        (case side1 => repeat (exact (Kd.C_below HR1.out HB.out)))
        (case side2 => exact HC1.out)
        rintro e w21 ⟨v377, rfl, ho0, hb⟩
        refine ⟨_, rfl, ?_⟩
        have HO378 := am (Kd.R_lower ho0 (below_size HB.out))
        replace BK372 := am (blk_below BK372.out hb)
        replace HB := am (below_step HB.out hb)
        (try clear hb)
        (try clear hb2)
        (try clear hk)
        (try clear hi)
        (try clear ho0)
        refine hK.out _ _ trivial (fun hHeld => ?_)
        clear hK K
        refine norm_ (a' := ?_) ?_ ?_
        rotate_left
        ·show Act.put _ (some 24) _ = _
         simp only [Act.put, s2_, s0_, s1_, i64_w, i32_w]
         rfl
        refine two_ (i := 4) (j := 7) (Ni := some 26) (Nj := some 29) #[true, true, true, true, true, true, true, false, false, false, false] #[true, true, true, true, false, true, true, true, false, false, false] rfl rfl rfl rfl (two_of HT_.out (by kernel_rfl)) (by decide) (by decide) (fun K hK => ?_) (fun K hK => ?_)
        ·skip
         refine goes_ Try.func112 (by kernel_rfl) rfl #[.slice A2 l2.length c2] rfl rfl rfl (by (try simp only [List.map_toArray, List.map_cons, List.map_nil]); rfl) ?_
         with_reducible refine (impl_clone.calls _ _ l2 t379 _ ?side1 ?side2 A17.out).mono ?_
         (case side1 => repeat (exact (Kd.C_below HR2.out HB.out)))
         (case side2 => exact HC2.out)
         rintro e w22 ⟨v380, rfl, ho0, hb⟩
         refine ⟨_, rfl, ?_⟩
         have HO381 := am (Kd.R_lower (Kd.R_new' ho0 (Kd.R_lt HO378.out)) (below_size HB.out))
         replace HO378 := am (Kd.R_elder' HO378.out (Kd.R_base ho0) hb)
         replace BK372 := am (blk_below BK372.out hb)
         replace HB := am (below_step HB.out hb)
         (try clear hb)
         (try clear hb2)
         (try clear hk)
         (try clear hi)
         (try clear ho0)
         refine hK.out _ _ trivial (fun hHeld => ?_)
         clear hK K
         refine norm_ (a' := ?_) ?_ ?_
         rotate_left
         ·show Act.put _ (some 26) _ = _
          simp only [Act.put, s2_, s0_, s1_, i64_w, i32_w]
          rfl
         refine one_ (i := 7) (N := some 29) #[true, true, true, true, true, true, true, true, false, false, false] rfl rfl (one_of HT_.out (by kernel_rfl)) (by decide) (fun K hK => ?_)
         refine Kd.R_make_step Kd.bool _ 4 rfl (N := 29) rfl 38 _ _ rfl (l1.length : Int) rfl rfl Try.underlying38 (.bool false) 1 info4 rfl (by decide) (by omega) false (ok := fun _ => True) (okp := fun _ => True) rfl (fun _ hk => hk) trivial (of_decide_eq_true (by (with_reducible assumption))) (Nat.le_trans (Nat.mul_le_mul_right _ (of_decide_eq_true (by (with_reducible assumption)) : (l1.length : Int).toNat ≤ 281474976710656)) (by omega)) (Below.refl _ _) (Nat.le_refl _) ?_
         intro v383 w23 ho24 hb hg_ hnew_
         clear hg_ hnew_
         (rw [← Ny382.out] at ho24)
         replace HO378 := am (Kd.R_below HO378.out hb)
         replace HO381 := am (Kd.R_below HO381.out hb)
         have HO384 := am (Kd.R_lower ho24 (below_size HB.out))
         replace BK372 := am (blk_below BK372.out hb)
         replace HB := am (below_step HB.out hb)
         clear hb ho24
         obtain ⟨Ao25, co25, eo25⟩ := Kd.R_slice HO384.out
         (subst eo25)
         obtain ⟨Ao26, co26, eo26⟩ := Kd.R_slice HO381.out
         (subst eo26)
         obtain ⟨Ao27, co27, eo27⟩ := Kd.R_slice HO378.out
         (subst eo27)
         refine hK.out _ _ trivial (fun hHeld => ?_)
         clear hK K
         refine norm_ (a' := ?_) ?_ ?_
         rotate_left
         ·show Act.put _ (some 29) _ = _
          simp only [Act.put, s2_, s0_, s1_, i64_w, i32_w]
          rfl
         exact norm_ (by simp only [putAll, Act.put, s2_, s0_, s1_]) (hCont (.slice Ao27 t376.length co27, .slice Ao26 t379.length co26, .slice Ao25 y382.length co25) _ ⟨(by exact Kd.R_mono HO378.out (fun _ hk => hk.2)), (by exact Kd.R_mono HO381.out (fun _ hk => hk.2)), HO384.out, BK372.out, HB.out⟩)
        ·skip
         refine Kd.R_make_step Kd.bool _ 4 rfl (N := 29) rfl 38 _ _ rfl (l1.length : Int) rfl rfl Try.underlying38 (.bool false) 1 info4 rfl (by decide) (by omega) false (ok := fun _ => True) (okp := fun _ => True) rfl (fun _ hk => hk) trivial (of_decide_eq_true (by (with_reducible assumption))) (Nat.le_trans (Nat.mul_le_mul_right _ (of_decide_eq_true (by (with_reducible assumption)) : (l1.length : Int).toNat ≤ 281474976710656)) (by omega)) (Below.refl _ _) (Nat.le_refl _) ?_
         intro v383 w22 ho23 hb hg_ hnew_
         clear hg_ hnew_
         (rw [← Ny382.out] at ho23)
         replace HO378 := am (Kd.R_below HO378.out hb)
         have HO384 := am (Kd.R_lower ho23 (below_size HB.out))
         replace BK372 := am (blk_below BK372.out hb)
         replace HB := am (below_step HB.out hb)
         clear hb ho23
         refine hK.out _ _ trivial (fun hHeld => ?_)
         clear hK K
         refine norm_ (a' := ?_) ?_ ?_
         rotate_left
         ·show Act.put _ (some 29) _ = _
          simp only [Act.put, s2_, s0_, s1_, i64_w, i32_w]
          rfl
         refine one_ (i := 4) (N := some 26) #[true, true, true, true, true, true, true, true, false, false, false] rfl rfl (one_of HT_.out (by kernel_rfl)) (by decide) (fun K hK => ?_)
         refine goes_ Try.func112 (by kernel_rfl) rfl #[.slice A2 l2.length c2] rfl rfl rfl (by (try simp only [List.map_toArray, List.map_cons, List.map_nil]); rfl) ?_
         with_reducible refine (impl_clone.calls _ _ l2 t379 _ ?side1 ?side2 A17.out).mono ?_
         (case side1 => repeat (exact (Kd.C_below HR2.out HB.out)))
         (case side2 => exact HC2.out)
         rintro e w24 ⟨v380, rfl, ho0, hb⟩
         refine ⟨_, rfl, ?_⟩
         replace HO384 := am (Kd.R_below HO384.out hb)
         have HO381 := am (Kd.R_lower (Kd.R_new' ho0 (Kd.R_lt HO378.out)) (below_size HB.out))
         replace HO378 := am (Kd.R_elder' HO378.out (Kd.R_base ho0) hb)
         replace BK372 := am (blk_below BK372.out hb)
         replace HB := am (below_step HB.out hb)
         (try clear hb)
         (try clear hb2)
         (try clear hk)
         (try clear hi)
         (try clear ho0)
         obtain ⟨Ao25, co25, eo25⟩ := Kd.R_slice HO384.out
         (subst eo25)
         obtain ⟨Ao26, co26, eo26⟩ := Kd.R_slice HO381.out
         (subst eo26)
         obtain ⟨Ao27, co27, eo27⟩ := Kd.R_slice HO378.out
         (subst eo27)
         refine hK.out _ _ trivial (fun hHeld => ?_)
         clear hK K
         refine norm_ (a' := ?_) ?_ ?_
         rotate_left
         ·show Act.put _ (some 26) _ = _
          simp only [Act.put, s2_, s0_, s1_, i64_w, i32_w]
          rfl
         exact norm_ (by simp only [putAll, Act.put, s2_, s0_, s1_]) (hCont (.slice Ao27 t376.length co27, .slice Ao26 t379.length co26, .slice Ao25 y382.length co25) _ ⟨(by exact Kd.R_mono HO378.out (fun _ hk => hk.2)), (by exact Kd.R_mono HO381.out (fun _ hk => hk.2)), HO384.out, BK372.out, HB.out⟩)
       ·skip
        refine Kd.R_make_step Kd.bool _ 4 rfl (N := 29) rfl 38 _ _ rfl (l1.length : Int) rfl rfl Try.underlying38 (.bool false) 1 info4 rfl (by decide) (by omega) false (ok := fun _ => True) (okp := fun _ => True) rfl (fun _ hk => hk) trivial (of_decide_eq_true (by (with_reducible assumption))) (Nat.le_trans (Nat.mul_le_mul_right _ (of_decide_eq_true (by (with_reducible assumption)) : (l1.length : Int).toNat ≤ 281474976710656)) (by omega)) (Below.refl _ _) (Nat.le_refl _) ?_
        intro v383 w21 ho22 hb hg_ hnew_
        clear hg_ hnew_
        (rw [← Ny382.out] at ho22)
        have HO384 := am (Kd.R_lower ho22 (below_size HB.out))
        replace BK372 := am (blk_below BK372.out hb)
        replace HB := am (below_step HB.out hb)
        clear hb ho22
        refine hK.out _ _ trivial (fun hHeld => ?_)
        clear hK K
        refine norm_ (a' := ?_) ?_ ?_
        rotate_left
        ·show Act.put _ (some 29) _ = _
         simp only [Act.put, s2_, s0_, s1_, i64_w, i32_w]
         rfl
        refine one_ (i := 2) (N := some 24) #[true, true, true, true, false, true, true, true, false, false, false] rfl rfl (one_of HT_.out (by kernel_rfl)) (by decide) (fun K hK => ?_)
        refine goes_ Try.func112 (by kernel_rfl) rfl #[.slice A1 l1.length c1] rfl rfl rfl (by (try simp only [List.map_toArray, List.map_cons, List.map_nil]); rfl) ?_
        with_reducible refine (impl_clone.calls _ _ l1 t376 _ ?side1 ?side2 A16.out).mono ?_
        (case side1 => repeat (exact (Kd.C_below HR1.out HB.out)))
        (case side2 => exact HC1.out)
        rintro e w23 ⟨v377, rfl, ho0, hb⟩
        refine ⟨_, rfl, ?_⟩
        replace HO384 := am (Kd.R_below HO384.out hb)
        have HO378 := am (Kd.R_lower ho0 (below_size HB.out))
        replace BK372 := am (blk_below BK372.out hb)
        replace HB := am (below_step HB.out hb)
        (try clear hb)
        (try clear hb2)
        (try clear hk)
        (try clear hi)
        (try clear ho0)
        refine hK.out _ _ trivial (fun hHeld => ?_)
        clear hK K
        refine norm_ (a' := ?_) ?_ ?_
        rotate_left
        ·show Act.put _ (some 24) _ = _
         simp only [Act.put, s2_, s0_, s1_, i64_w, i32_w]
         rfl
        refine one_ (i := 4) (N := some 26) #[true, true, true, true, true, true, true, true, false, false, false] rfl rfl (one_of HT_.out (by kernel_rfl)) (by decide) (fun K hK => ?_)
        refine goes_ Try.func112 (by kernel_rfl) rfl #[.slice A2 l2.length c2] rfl rfl rfl (by (try simp only [List.map_toArray, List.map_cons, List.map_nil]); rfl) ?_
        with_reducible refine (impl_clone.calls _ _ l2 t379 _ ?side1 ?side2 A17.out).mono ?_
        (case side1 => repeat (exact (Kd.C_below HR2.out HB.out)))
        (case side2 => exact HC2.out)
        rintro e w24 ⟨v380, rfl, ho0, hb⟩
        refine ⟨_, rfl, ?_⟩
        replace HO384 := am (Kd.R_below HO384.out hb)
        have HO381 := am (Kd.R_lower (Kd.R_new' ho0 (Kd.R_lt HO378.out)) (below_size HB.out))
        replace HO378 := am (Kd.R_elder' HO378.out (Kd.R_base ho0) hb)
        replace BK372 := am (blk_below BK372.out hb)
        replace HB := am (below_step HB.out hb)
        (try clear hb)
        (try clear hb2)
        (try clear hk)
        (try clear hi)
        (try clear ho0)
        obtain ⟨Ao25, co25, eo25⟩ := Kd.R_slice HO384.out
        (subst eo25)
        obtain ⟨Ao26, co26, eo26⟩ := Kd.R_slice HO381.out
        (subst eo26)
        obtain ⟨Ao27, co27, eo27⟩ := Kd.R_slice HO378.out
        (subst eo27)
        refine hK.out _ _ trivial (fun hHeld => ?_)
        clear hK K
        refine norm_ (a' := ?_) ?_ ?_
        rotate_left
        ·show Act.put _ (some 26) _ = _
         simp only [Act.put, s2_, s0_, s1_, i64_w, i32_w]
         rfl
        exact norm_ (by simp only [putAll, Act.put, s2_, s0_, s1_]) (hCont (.slice Ao27 t376.length co27, .slice Ao26 t379.length co26, .slice Ao25 y382.length co25) _ ⟨(by exact Kd.R_mono HO378.out (fun _ hk => hk.2)), (by exact Kd.R_mono HO381.out (fun _ hk => hk.2)), HO384.out, BK372.out, HB.out⟩)
      rintro ⟨v377, v380, v383⟩ w28 ⟨h0_, h1_, h2_, h3_, h4_⟩
      have HO378 : Aside0 (Kd.R k60 60 w28 w.heap.size (fun k_ => some k_ ≠ (v380 : Value).ownBlock) v377 t376) := ⟨h0_⟩
      have HO381 : Aside0 (Kd.R k60 60 w28 w.heap.size (fun k_ => some k_ ≠ (v377 : Value).ownBlock) v380 t379) := ⟨h1_⟩
      have HO384 : Aside0 (Kd.R Kd.bool 4 w28 w.heap.size (fun _ => True) v383 y382) := ⟨h2_⟩
      replace BK372 : Aside0 (w28.heap[gb372]? = some (.cells #[.int .i64 0, .slice none 0 0, .slice none 0 0, .slice none 0 0, .int .i64 0] 40 (0, 0))) := ⟨h3_⟩
      replace HB : Aside0 (Below w.heap.size w w28) := ⟨h4_⟩
      clear h0_ h1_ h2_ h3_ h4_
      have hHeld := trivial
      obtain ⟨Ao29, co29, eo29⟩ := Kd.R_slice HO384.out
      (subst eo29)
      obtain ⟨Ao30, co30, eo30⟩ := Kd.R_slice HO381.out
      (subst eo30)
      obtain ⟨Ao31, co31, eo31⟩ := Kd.R_slice HO378.out
      (subst eo31)
      refine norm_ (a' := ?_) ?_ ?_
      rotate_left
      ·simp only [putAll, Act.put, s2_, s0_, s1_]
       rfl
      refine pure_ (i := 8) (N := some 30) (v := ?_) (a' := ?_) #[true, true, true, true, true, true, true, true, true, false, false] rfl rfl (any_of HT_.out (by kernel_rfl)) (fun _ _ _ h => h) (Or.inl ⟨rfl, ?_⟩) ?_ ?_
      rotate_left
      ·intro w'
       go_simp
       with_reducible rfl
      rotate_left
      ·simp only [Act.put, s2_, s0_, s1_, i64_w, i32_w]
       rfl
      refine one_ (i := 9) (N := none) #[true, true, true, true, true, true, true, true, true, true, false] rfl rfl (one_of HT_.out (by kernel_rfl)) (by decide) (fun K hK => ?_)
      have hs32 : w28.cell? ⟨gb372, 0, none⟩ = some (.int .i64 0) := (blk_cell BK372.out 0).trans rfl
      have hfs32 := blk_frozen BK372.out 0
      have hs33 : w28.cell? ⟨gb372, 1, none⟩ = some (.slice none 0 0) := (blk_cell BK372.out 1).trans rfl
      have hfs33 := blk_frozen BK372.out 1
      have hs34 : w28.cell? ⟨gb372, 2, none⟩ = some (.slice none 0 0) := (blk_cell BK372.out 2).trans rfl
      have hfs34 := blk_frozen BK372.out 2
      have hs35 : w28.cell? ⟨gb372, 3, none⟩ = some (.slice none 0 0) := (blk_cell BK372.out 3).trans rfl
      have hfs35 := blk_frozen BK372.out 3
      have hs36 : w28.cell? ⟨gb372, 4, none⟩ = some (.int .i64 0) := (blk_cell BK372.out 4).trans rfl
      have hfs36 := blk_frozen BK372.out 4
      refine skip_ (w1 := ?_) rfl rfl ?_ ?_
      rotate_left
      ·go_simp
       rfl
      refine hK.out _ _ trivial (fun hHeld => ?_)
      clear hK K
      refine pure_ (i := 10) (N := some 7) (v := ?_) (a' := ?_) #[true, true, true, true, true, true, true, true, true, true, true] rfl rfl (any_of HT_.out (by kernel_rfl)) (fun _ _ _ h => h) (Or.inl ⟨rfl, ?_⟩) ?_ ?_
      rotate_left
      ·intro w'
       go_simp
       with_reducible rfl
      rotate_left
      ·simp only [Act.put, s2_, s0_, s1_, i64_w, i32_w]
       rfl
      refine done_ (done_of HT_.out (by kernel_rfl)) ?_
      try go_wp2
      refine bodyPost_ret (results_ct rfl _ _ gb372 40 #[.int .i64 a0, .slice Ao31 t376.length co31, .slice Ao30 t379.length co30, .slice Ao29 y382.length co29, .int .i64 0] (0, 0) _ rfl (by refine blk_put (cs := #[.int .i64 a0, .slice Ao31 t376.length co31, .slice Ao30 t379.length co30, .slice Ao29 y382.length co29, .int .i64 0]) ?_ 4 _ rfl; refine blk_put (cs := #[.int .i64 a0, .slice Ao31 t376.length co31, .slice Ao30 t379.length co30, .slice none 0 0, .int .i64 0]) ?_ 3 _ rfl; refine blk_put (cs := #[.int .i64 a0, .slice Ao31 t376.length co31, .slice none 0 0, .slice none 0 0, .int .i64 0]) ?_ 2 _ rfl; refine blk_put (cs := #[.int .i64 a0, .slice none 0 0, .slice none 0 0, .slice none 0 0, .int .i64 0]) ?_ 1 _ rfl; refine blk_put (cs := #[.int .i64 0, .slice none 0 0, .slice none 0 0, .slice none 0 0, .int .i64 0]) ?_ 0 _ rfl; exact BK372.out) Try.underlying40 rfl (by kernel_rfl)) rfl ?_
      exact ⟨_, _, _, rfl, by exact Kd.R_mono (Kd.R_far (p := ⟨gb372, 4, none⟩) (Kd.R_far (p := ⟨gb372, 3, none⟩) (Kd.R_far (p := ⟨gb372, 2, none⟩) (Kd.R_far (p := ⟨gb372, 1, none⟩) (Kd.R_far (p := ⟨gb372, 0, none⟩) (Kd.R_types HO378.out BK372.out (by decide)) (fun _ hk => hk.2) (.int .i64 a0)) (fun _ hk => hk.2) (.slice Ao31 t376.length co31)) (fun _ hk => hk.2) (.slice Ao30 t379.length co30)) (fun _ hk => hk.2) (.slice Ao29 y382.length co29)) (fun _ hk => hk.2) (.int .i64 0)) (fun _ hk => hk.1), by exact Kd.R_mono (Kd.R_far (p := ⟨gb372, 4, none⟩) (Kd.R_far (p := ⟨gb372, 3, none⟩) (Kd.R_far (p := ⟨gb372, 2, none⟩) (Kd.R_far (p := ⟨gb372, 1, none⟩) (Kd.R_far (p := ⟨gb372, 0, none⟩) (Kd.R_types HO381.out BK372.out (by decide)) (fun _ hk => hk.2) (.int .i64 a0)) (fun _ hk => hk.2) (.slice Ao31 t376.length co31)) (fun _ hk => hk.2) (.slice Ao30 t379.length co30)) (fun _ hk => hk.2) (.slice Ao29 y382.length co29)) (fun _ hk => hk.2) (.int .i64 0)) (fun _ hk => hk.1), by exact Kd.R_mono (Kd.R_far (p := ⟨gb372, 4, none⟩) (Kd.R_far (p := ⟨gb372, 3, none⟩) (Kd.R_far (p := ⟨gb372, 2, none⟩) (Kd.R_far (p := ⟨gb372, 1, none⟩) (Kd.R_far (p := ⟨gb372, 0, none⟩) (Kd.R_types HO384.out BK372.out (by decide)) (fun _ hk => hk.2) (.int .i64 a0)) (fun _ hk => hk.2) (.slice Ao31 t376.length co31)) (fun _ hk => hk.2) (.slice Ao30 t379.length co30)) (fun _ hk => hk.2) (.slice Ao29 y382.length co29)) (fun _ hk => hk.2) (.int .i64 0)) (fun _ hk => trivial), by repeat ((with_reducible first | exact HB.out | refine below_set ?_ GE372.out))⟩
     ·rw [if_neg c19] at H
      exact absurd H (by simp)
    ·rw [if_neg c18] at H
     exact absurd H (by simp)

def impl_isGrant.f (a0 : Int) : Option (Bool) := (impl_within.f a0 8 60).bind fun t385 => (some t385)
theorem impl_isGrant.calls (a0 : Int) (r : Bool) (w : World) (h : impl_isGrant.f a0 = some r) :
  Calls Try.prog 116 #[.int .i64 a0] w fun e w' => e = .returned (.bool r) ∧ Drawn0 w w' := by
 have H : ((impl_within.f a0 8 60).bind fun t385 => (some t385)) = some r := h
 clear h
 replace H := Option.bind_eq_some_iff.mp H
 obtain ⟨t385, A20, H⟩ := H
 have A2 := am A20
 clear A20
 obtain rfl := Option.some.inj H
 go_enter Try.func116, Try.ntmps116
 go_wp2_with (((with_reducible refine gate_callee (f := 134) rfl ?_); refine goesL_ (some 4) rfl rfl Try.func134 (by kernel_rfl) rfl #[.int .i64 a0, .int .i64 8, .int .i64 60] rfl (by (try simp only [List.map_toArray, List.map_cons, List.map_nil]); rfl) ?_; (with_reducible refine (impl_within.calls a0 8 60 t385 _ A2.out).mono ?_); rintro e w' ⟨rfl, ⟨nd, rfl⟩⟩; refine ⟨_, rfl, ?_⟩))
 go_ret
 exact ⟨rfl, by repeat (first | exact Drawn0.refl _ | apply Drawn0.step)⟩

def impl_IsValidTask.f (k : Nat) (a0_0 : Int) (l0_1 : List (S60)) (l0_2 : List (S60)) (l0_3 : List Bool) (a0_4 : Int) : Option (Bool) := (impl_IsValidJoinKind.f a0_0).bind fun t387 => (if t387 = true then ((impl_AreValidRows.f k l0_1).bind fun t388 => (if t388 = true then ((impl_AreValidRows.f k l0_2).bind fun t389 => (if t389 = true then (if (l0_3.length : Int) = (l0_1.length : Int) then ((impl_within.f a0_4 0 4).bind fun t390 => (some t390)) else (some false)) else (some false))) else (some false))) else (some false))
theorem impl_IsValidTask.calls (k : Nat) (a0_0 : Int) (A0_1 : Option Addr) (c0_1 : Nat) (l0_1 : List (S60)) (A0_2 : Option Addr) (c0_2 : Nat) (l0_2 : List (S60)) (A0_3 : Option Addr) (c0_3 : Nat) (l0_3 : List Bool) (a0_4 : Int) (r : Bool) (w : World) (hr0_1 : Kd.C k60 w A0_1 l0_1.length l0_1) (hc0_1 : l0_1.length ≤ c0_1) (hr0_2 : Kd.C k60 w A0_2 l0_2.length l0_2) (hc0_2 : l0_2.length ≤ c0_2) (hr0_3 : Kd.C Kd.bool w A0_3 l0_3.length l0_3) (hc0_3 : l0_3.length ≤ c0_3) (h : impl_IsValidTask.f k a0_0 l0_1 l0_2 l0_3 a0_4 = some r) :
  Calls Try.prog 39 #[.agg #[.int .i64 a0_0, .slice A0_1 l0_1.length c0_1, .slice A0_2 l0_2.length c0_2, .slice A0_3 l0_3.length c0_3, .int .i64 a0_4]] w fun e w' => e = .returned (.bool r) ∧ Below w.heap.size w w' := by
 have hu40 := Try.underlying40
 have HR0_1 := am hr0_1
 have HC0_1 := am hc0_1
 clear hr0_1 hc0_1
 have HR0_2 := am hr0_2
 have HC0_2 := am hc0_2
 clear hr0_2 hc0_2
 have HR0_3 := am hr0_3
 have HC0_3 := am hc0_3
 clear hr0_3 hc0_3
 have HB := am (Below.refl w.heap.size w)
 have H : ((impl_IsValidJoinKind.f a0_0).bind fun t387 => (if t387 = true then ((impl_AreValidRows.f k l0_1).bind fun t388 => (if t388 = true then ((impl_AreValidRows.f k l0_2).bind fun t389 => (if t389 = true then (if (l0_3.length : Int) = (l0_1.length : Int) then ((impl_within.f a0_4 0 4).bind fun t390 => (some t390)) else (some false)) else (some false))) else (some false))) else (some false))) = some r := h
 clear h
 replace H := Option.bind_eq_some_iff.mp H
 obtain ⟨t387, A20, H⟩ := H
 have A2 := am A20
 clear A20
 by_cases c3 : t387 = true
 ·subst c3
  rw [if_pos rfl] at H
  replace H := Option.bind_eq_some_iff.mp H
  obtain ⟨t388, A40, H⟩ := H
  have A4 := am A40
  clear A40
  by_cases c5 : t388 = true
  ·subst c5
   rw [if_pos rfl] at H
   replace H := Option.bind_eq_some_iff.mp H
   obtain ⟨t389, A60, H⟩ := H
   have A6 := am A60
   clear A60
   by_cases c7 : t389 = true
   ·subst c7
    rw [if_pos rfl] at H
    by_cases c8 : (l0_3.length : Int) = (l0_1.length : Int)
    ·rw [if_pos c8] at H
     have c8b0 : ((l0_3.length : Int) == (l0_1.length : Int)) = true := beq_iff_eq.mpr c8
     have c8b1 : ((l0_3.length : Int) != (l0_1.length : Int)) = false := bne_eq_false_iff_eq.mpr c8
     have c8b2 : (l0_3.length == l0_1.length) = true := by (simp at c8 ⊢; omega)
     clear c8
     replace H := Option.bind_eq_some_iff.mp H
     obtain ⟨t390, A90, H⟩ := H
     have A9 := am A90
     clear A90
     obtain rfl := Option.some.inj H
     go_enter Try.func39, Try.ntmps39
     go_wp2_with (first | ((with_reducible refine gate_dst (N := 1) rfl ?_); (try (refine gate_guard rfl ?_; dsimp only)); refine box_event ?hg (N := 1) ?hd (cs := #[.int .i64 a0_0, .slice A0_1 l0_1.length c0_1, .slice A0_2 l0_2.length c0_2, .slice A0_3 l0_3.length c0_3, .int .i64 a0_4]) (t := 40) ?hr ?_; (case hd => rfl); (case hg => rfl); (case hr => (go_simp; done)); intro gb386 hg w10 hbox hb; have BK386 := am (hbox); have GW386 := am (gw_ hg HB.out); have GE386 := am (gw_ hg HB.out); replace HB := am (below_step HB.out hb); clear hb hbox hg; obtain ⟨hcz11_0, hcz11_1, hcz11_2, hcz11_3, hcz11_4, hfz11_0, hfz11_1, hfz11_2, hfz11_3, hfz11_4⟩ := cells5_ BK386.out) | ((with_reducible refine gate_callee (f := 132) rfl ?_); refine goesL_ (some 5) rfl rfl Try.func132 (by kernel_rfl) rfl #[.int .i64 a0_0] rfl (by (try simp only [List.map_toArray, List.map_cons, List.map_nil]); rfl) ?_; (with_reducible refine (impl_IsValidJoinKind.calls a0_0 true _ A2.out).mono ?_); rintro e w' ⟨rfl, ⟨nd, rfl⟩⟩; refine ⟨_, rfl, ?_⟩) | (go_at_call 133; (with_reducible refine (impl_AreValidRows.calls k _ _ l0_1 true _ ?side1 ?side2 A4.out).mono ?_); (case side1 => repeat (exact (Kd.C_below HR0_1.out (by repeat (with_reducible first | exact HB.out | apply pw_below_drewN))))); (case side2 => exact HC0_1.out); rintro e w12 ⟨rfl, hb⟩; replace BK386 := am (blk_below (g := gb386) (o := .cells #[.int .i64 a0_0, .slice A0_1 l0_1.length c0_1, .slice A0_2 l0_2.length c0_2, .slice A0_3 l0_3.length c0_3, .int .i64 a0_4] 40 (0, 0)) (by (with_reducible repeat (refine blk_drewN ?_ _)); exact BK386.out) hb); replace HB := am (below_step (by repeat (with_reducible first | exact HB.out | apply pw_below_drewN)) hb); (try clear hb); obtain ⟨hcz13_0, hcz13_1, hcz13_2, hcz13_3, hcz13_4, hfz13_0, hfz13_1, hfz13_2, hfz13_3, hfz13_4⟩ := cells5_ BK386.out) | (go_at_call 133; (with_reducible refine (impl_AreValidRows.calls k _ _ l0_2 true _ ?side1 ?side2 A6.out).mono ?_); (case side1 => repeat (exact (Kd.C_below HR0_2.out HB.out))); (case side2 => exact HC0_2.out); rintro e w14 ⟨rfl, hb⟩; replace BK386 := am (blk_below BK386.out hb); replace HB := am (below_step HB.out hb); (try clear hb); obtain ⟨hcz15_0, hcz15_1, hcz15_2, hcz15_3, hcz15_4, hfz15_0, hfz15_1, hfz15_2, hfz15_3, hfz15_4⟩ := cells5_ BK386.out) | (go_at_call 134; (with_reducible refine (impl_within.calls a0_4 0 4 t390 _ A9.out).mono ?_); rintro e w' ⟨rfl, ⟨nd, rfl⟩⟩))
     go_ret
     exact ⟨rfl, by repeat ((with_reducible first | exact HB.out | apply pw_below_drewN))⟩
    ·rw [if_neg c8] at H
     have c8b0 : ((l0_3.length : Int) == (l0_1.length : Int)) = false := beq_eq_false_iff_ne.mpr c8
     have c8b1 : ((l0_3.length : Int) != (l0_1.length : Int)) = true := bne_iff_ne.mpr c8
     have c8b2 : (l0_3.length == l0_1.length) = false := by (simp at c8 ⊢; omega)
     obtain rfl := Option.some.inj H
     go_enter Try.func39, Try.ntmps39
     go_wp2_with (first | ((with_reducible refine gate_dst (N := 1) rfl ?_); (try (refine gate_guard rfl ?_; dsimp only)); refine box_event ?hg (N := 1) ?hd (cs := #[.int .i64 a0_0, .slice A0_1 l0_1.length c0_1, .slice A0_2 l0_2.length c0_2, .slice A0_3 l0_3.length c0_3, .int .i64 a0_4]) (t := 40) ?hr ?_; (case hd => rfl); (case hg => rfl); (case hr => (go_simp; done)); intro gb386 hg w16 hbox hb; have BK386 := am (hbox); have GW386 := am (gw_ hg HB.out); have GE386 := am (gw_ hg HB.out); replace HB := am (below_step HB.out hb); clear hb hbox hg; obtain ⟨hcz17_0, hcz17_1, hcz17_2, hcz17_3, hcz17_4, hfz17_0, hfz17_1, hfz17_2, hfz17_3, hfz17_4⟩ := cells5_ BK386.out) | ((with_reducible refine gate_callee (f := 132) rfl ?_); refine goesL_ (some 5) rfl rfl Try.func132 (by kernel_rfl) rfl #[.int .i64 a0_0] rfl (by (try simp only [List.map_toArray, List.map_cons, List.map_nil]); rfl) ?_; (with_reducible refine (impl_IsValidJoinKind.calls a0_0 true _ A2.out).mono ?_); rintro e w' ⟨rfl, ⟨nd, rfl⟩⟩; refine ⟨_, rfl, ?_⟩) | (go_at_call 133; (with_reducible refine (impl_AreValidRows.calls k _ _ l0_1 true _ ?side1 ?side2 A4.out).mono ?_); (case side1 => repeat (exact (Kd.C_below HR0_1.out (by repeat (with_reducible first | exact HB.out | apply pw_below_drewN))))); (case side2 => exact HC0_1.out); rintro e w18 ⟨rfl, hb⟩; replace BK386 := am (blk_below (g := gb386) (o := .cells #[.int .i64 a0_0, .slice A0_1 l0_1.length c0_1, .slice A0_2 l0_2.length c0_2, .slice A0_3 l0_3.length c0_3, .int .i64 a0_4] 40 (0, 0)) (by (with_reducible repeat (refine blk_drewN ?_ _)); exact BK386.out) hb); replace HB := am (below_step (by repeat (with_reducible first | exact HB.out | apply pw_below_drewN)) hb); (try clear hb); obtain ⟨hcz19_0, hcz19_1, hcz19_2, hcz19_3, hcz19_4, hfz19_0, hfz19_1, hfz19_2, hfz19_3, hfz19_4⟩ := cells5_ BK386.out) | (go_at_call 133; (with_reducible refine (impl_AreValidRows.calls k _ _ l0_2 true _ ?side1 ?side2 A6.out).mono ?_); (case side1 => repeat (exact (Kd.C_below HR0_2.out HB.out))); (case side2 => exact HC0_2.out); rintro e w20 ⟨rfl, hb⟩; replace BK386 := am (blk_below BK386.out hb); replace HB := am (below_step HB.out hb); (try clear hb); obtain ⟨hcz21_0, hcz21_1, hcz21_2, hcz21_3, hcz21_4, hfz21_0, hfz21_1, hfz21_2, hfz21_3, hfz21_4⟩ := cells5_ BK386.out))
     go_ret
     exact ⟨rfl, HB.out⟩
   ·replace c7 := Bool.eq_false_iff.mpr c7
    subst c7
    rw [if_neg (show ¬ (false = true) by decide)] at H
    obtain rfl := Option.some.inj H
    go_enter Try.func39, Try.ntmps39
    go_wp2_with (first | ((with_reducible refine gate_dst (N := 1) rfl ?_); (try (refine gate_guard rfl ?_; dsimp only)); refine box_event ?hg (N := 1) ?hd (cs := #[.int .i64 a0_0, .slice A0_1 l0_1.length c0_1, .slice A0_2 l0_2.length c0_2, .slice A0_3 l0_3.length c0_3, .int .i64 a0_4]) (t := 40) ?hr ?_; (case hd => rfl); (case hg => rfl); (case hr => (go_simp; done)); intro gb386 hg w22 hbox hb; have BK386 := am (hbox); have GW386 := am (gw_ hg HB.out); have GE386 := am (gw_ hg HB.out); replace HB := am (below_step HB.out hb); clear hb hbox hg; obtain ⟨hcz23_0, hcz23_1, hcz23_2, hcz23_3, hcz23_4, hfz23_0, hfz23_1, hfz23_2, hfz23_3, hfz23_4⟩ := cells5_ BK386.out) | ((with_reducible refine gate_callee (f := 132) rfl ?_); refine goesL_ (some 5) rfl rfl Try.func132 (by kernel_rfl) rfl #[.int .i64 a0_0] rfl (by (try simp only [List.map_toArray, List.map_cons, List.map_nil]); rfl) ?_; (with_reducible refine (impl_IsValidJoinKind.calls a0_0 true _ A2.out).mono ?_); rintro e w' ⟨rfl, ⟨nd, rfl⟩⟩; refine ⟨_, rfl, ?_⟩) | (go_at_call 133; (with_reducible refine (impl_AreValidRows.calls k _ _ l0_1 true _ ?side1 ?side2 A4.out).mono ?_); (case side1 => repeat (exact (Kd.C_below HR0_1.out (by repeat (with_reducible first | exact HB.out | apply pw_below_drewN))))); (case side2 => exact HC0_1.out); rintro e w24 ⟨rfl, hb⟩; replace BK386 := am (blk_below (g := gb386) (o := .cells #[.int .i64 a0_0, .slice A0_1 l0_1.length c0_1, .slice A0_2 l0_2.length c0_2, .slice A0_3 l0_3.length c0_3, .int .i64 a0_4] 40 (0, 0)) (by (with_reducible repeat (refine blk_drewN ?_ _)); exact BK386.out) hb); replace HB := am (below_step (by repeat (with_reducible first | exact HB.out | apply pw_below_drewN)) hb); (try clear hb); obtain ⟨hcz25_0, hcz25_1, hcz25_2, hcz25_3, hcz25_4, hfz25_0, hfz25_1, hfz25_2, hfz25_3, hfz25_4⟩ := cells5_ BK386.out) | (go_at_call 133; (with_reducible refine (impl_AreValidRows.calls k _ _ l0_2 false _ ?side1 ?side2 A6.out).mono ?_); (case side1 => repeat (exact (Kd.C_below HR0_2.out HB.out))); (case side2 => exact HC0_2.out); rintro e w26 ⟨rfl, hb⟩; replace BK386 := am (blk_below BK386.out hb); replace HB := am (below_step HB.out hb); (try clear hb)))
    go_ret
    exact ⟨rfl, HB.out⟩
  ·replace c5 := Bool.eq_false_iff.mpr c5
   subst c5
   rw [if_neg (show ¬ (false = true) by decide)] at H
   obtain rfl := Option.some.inj H
   go_enter Try.func39, Try.ntmps39
   go_wp2_with (first | ((with_reducible refine gate_dst (N := 1) rfl ?_); (try (refine gate_guard rfl ?_; dsimp only)); refine box_event ?hg (N := 1) ?hd (cs := #[.int .i64 a0_0, .slice A0_1 l0_1.length c0_1, .slice A0_2 l0_2.length c0_2, .slice A0_3 l0_3.length c0_3, .int .i64 a0_4]) (t := 40) ?hr ?_; (case hd => rfl); (case hg => rfl); (case hr => (go_simp; done)); intro gb386 hg w27 hbox hb; have BK386 := am (hbox); have GW386 := am (gw_ hg HB.out); have GE386 := am (gw_ hg HB.out); replace HB := am (below_step HB.out hb); clear hb hbox hg; obtain ⟨hcz28_0, hcz28_1, hcz28_2, hcz28_3, hcz28_4, hfz28_0, hfz28_1, hfz28_2, hfz28_3, hfz28_4⟩ := cells5_ BK386.out) | ((with_reducible refine gate_callee (f := 132) rfl ?_); refine goesL_ (some 5) rfl rfl Try.func132 (by kernel_rfl) rfl #[.int .i64 a0_0] rfl (by (try simp only [List.map_toArray, List.map_cons, List.map_nil]); rfl) ?_; (with_reducible refine (impl_IsValidJoinKind.calls a0_0 true _ A2.out).mono ?_); rintro e w' ⟨rfl, ⟨nd, rfl⟩⟩; refine ⟨_, rfl, ?_⟩) | (go_at_call 133; (with_reducible refine (impl_AreValidRows.calls k _ _ l0_1 false _ ?side1 ?side2 A4.out).mono ?_); (case side1 => repeat (exact (Kd.C_below HR0_1.out (by repeat (with_reducible first | exact HB.out | apply pw_below_drewN))))); (case side2 => exact HC0_1.out); rintro e w29 ⟨rfl, hb⟩; replace BK386 := am (blk_below (g := gb386) (o := .cells #[.int .i64 a0_0, .slice A0_1 l0_1.length c0_1, .slice A0_2 l0_2.length c0_2, .slice A0_3 l0_3.length c0_3, .int .i64 a0_4] 40 (0, 0)) (by (with_reducible repeat (refine blk_drewN ?_ _)); exact BK386.out) hb); replace HB := am (below_step (by repeat (with_reducible first | exact HB.out | apply pw_below_drewN)) hb); (try clear hb)))
   go_ret
   exact ⟨rfl, HB.out⟩
 ·replace c3 := Bool.eq_false_iff.mpr c3
  subst c3
  rw [if_neg (show ¬ (false = true) by decide)] at H
  obtain rfl := Option.some.inj H
  go_enter Try.func39, Try.ntmps39
  go_wp2_with (first | ((with_reducible refine gate_dst (N := 1) rfl ?_); (try (refine gate_guard rfl ?_; dsimp only)); refine box_event ?hg (N := 1) ?hd (cs := #[.int .i64 a0_0, .slice A0_1 l0_1.length c0_1, .slice A0_2 l0_2.length c0_2, .slice A0_3 l0_3.length c0_3, .int .i64 a0_4]) (t := 40) ?hr ?_; (case hd => rfl); (case hg => rfl); (case hr => (go_simp; done)); intro gb386 hg w30 hbox hb; have BK386 := am (hbox); have GW386 := am (gw_ hg HB.out); have GE386 := am (gw_ hg HB.out); replace HB := am (below_step HB.out hb); clear hb hbox hg; obtain ⟨hcz31_0, hcz31_1, hcz31_2, hcz31_3, hcz31_4, hfz31_0, hfz31_1, hfz31_2, hfz31_3, hfz31_4⟩ := cells5_ BK386.out) | ((with_reducible refine gate_callee (f := 132) rfl ?_); refine goesL_ (some 5) rfl rfl Try.func132 (by kernel_rfl) rfl #[.int .i64 a0_0] rfl (by (try simp only [List.map_toArray, List.map_cons, List.map_nil]); rfl) ?_; (with_reducible refine (impl_IsValidJoinKind.calls a0_0 false _ A2.out).mono ?_); rintro e w' ⟨rfl, ⟨nd, rfl⟩⟩; refine ⟨_, rfl, ?_⟩))
  go_ret
  exact ⟨rfl, by repeat ((with_reducible first | exact HB.out | apply pw_below_drewN))⟩

def impl_cloneTask.f (a0_0 : Int) (l0_1 : List (S60)) (l0_2 : List (S60)) (l0_3 : List Bool) (a0_4 : Int) : Option (Int × (List (S60)) × (List (S60)) × List Bool × Int) := (impl_clone.f l0_1).bind fun t393 => ((impl_clone.f l0_2).bind fun t396 => (if ([] : List Bool).length + l0_3.length < 140737488355328 then (some (a0_0, t393, t396, (([] : List Bool) ++ l0_3), a0_4)) else (none)))
def impl_cloneTask.T1 : Bool × List (List Nat × List Nat) := (true, [([], []), ([0], [0]), ([1], [1]), ([], []), ([3], [3]), ([4, 2], [4]), ([], []), ([6], [6]), ([7, 5], [7]), ([0, 1, 2, 3, 4, 6, 7], []), ([9, 2, 8, 0, 1, 2, 3, 4, 6, 7], [2, 9]), ([0, 1, 2, 3, 4, 5, 6, 7, 9, 10], []), ([11, 5, 10, 0, 1, 2, 3, 4, 5, 6, 7, 9, 10], [5, 11]), ([0, 1, 2, 3, 4, 5, 6, 7, 8, 9, 10, 11, 12], []), ([13, 8, 12, 0, 1, 2, 3, 4, 5, 6, 7, 8, 9, 10, 11, 12], [8, 13])])
def impl_cloneTask.B1 : List Nat := [0, 1, 3, 0, 8, 31, 0, 64, 255, 223, 1023, 2047, 4095, 8191, 16383]
theorem impl_cloneTask.tab1 : rtab .any (opsOf Try.f179 1) = impl_cloneTask.T1 := by kernel_rfl
theorem impl_cloneTask.bits1 : waitsOk impl_cloneTask.T1.2 impl_cloneTask.B1 = true := by kernel_rfl
theorem impl_cloneTask.calls (a0_0 : Int) (A0_1 : Option Addr) (c0_1 : Nat) (l0_1 : List (S60)) (A0_2 : Option Addr) (c0_2 : Nat) (l0_2 : List (S60)) (A0_3 : Option Addr) (c0_3 : Nat) (l0_3 : List Bool) (a0_4 : Int) (r1 : Int) (r2 : List (S60)) (r3 : List (S60)) (r4 : List Bool) (r5 : Int) (w : World) (hr0_1 : Kd.C k60 w A0_1 l0_1.length l0_1) (hc0_1 : l0_1.length ≤ c0_1) (hr0_2 : Kd.C k60 w A0_2 l0_2.length l0_2) (hc0_2 : l0_2.length ≤ c0_2) (hr0_3 : Kd.C Kd.bool w A0_3 l0_3.length l0_3) (hc0_3 : l0_3.length ≤ c0_3) (h : impl_cloneTask.f a0_0 l0_1 l0_2 l0_3 a0_4 = some (r1, r2, r3, r4, r5)) :
  Calls Try.prog 179 #[.agg #[.int .i64 a0_0, .slice A0_1 l0_1.length c0_1, .slice A0_2 l0_2.length c0_2, .slice A0_3 l0_3.length c0_3, .int .i64 a0_4]] w fun e w' => ∃ v1_ v2_ v3_ : Value, e = .returned (.agg #[.int .i64 r1, v1_, v2_, v3_, .int .i64 r5]) ∧ Kd.R k60 60 w' w.heap.size (fun k_ => some k_ ≠ (v2_ : Value).ownBlock) v1_ r2 ∧ Kd.R k60 60 w' w.heap.size (fun k_ => some k_ ≠ (v1_ : Value).ownBlock) v2_ r3 ∧ Kd.R Kd.bool 4 w' w.heap.size (fun _ => True) v3_ r4 ∧ Below w.heap.size w w' := by
 have hu40 := Try.underlying40
 have HR0_1 := am hr0_1
 have HC0_1 := am hc0_1
 clear hr0_1 hc0_1
 have HR0_2 := am hr0_2
 have HC0_2 := am hc0_2
 clear hr0_2 hc0_2
 have HR0_3 := am hr0_3
 have HC0_3 := am hc0_3
 clear hr0_3 hc0_3
 have HB := am (Below.refl w.heap.size w)
 have H : ((impl_clone.f l0_1).bind fun t393 => ((impl_clone.f l0_2).bind fun t396 => (if ([] : List Bool).length + l0_3.length < 140737488355328 then (some (a0_0, t393, t396, (([] : List Bool) ++ l0_3), a0_4)) else (none)))) = some (r1, r2, r3, r4, r5) := h
 clear h
 replace H := Option.bind_eq_some_iff.mp H
 obtain ⟨t393, A20, H⟩ := H
 have A2 := am A20
 clear A20
 replace H := Option.bind_eq_some_iff.mp H
 obtain ⟨t396, A30, H⟩ := H
 have A3 := am A30
 clear A30
 by_cases c4 : ([] : List Bool).length + l0_3.length < 140737488355328
 ·rw [if_pos c4] at H
  have LMc4 := am c4
  clear c4
  obtain ⟨y399, hy399⟩ : ∃ y_ : List Bool, y_ = (([] : List Bool) ++ l0_3) := ⟨_, rfl⟩
  replace H : (some (a0_0, t393, t396, y399, a0_4)) = some (r1, r2, r3, r4, r5) := by (rw [hy399]; with_reducible exact H)
  have Ny399 := am hy399
  clear hy399
  simp only [Option.some.injEq, Prod.mk.injEq] at H
  obtain ⟨rfl, rfl, rfl, rfl, rfl⟩ := H
  go_enter Try.func179, Try.ntmps179
  try go_wp2_with (first | ((with_reducible refine gate_dst (N := 1) rfl ?_); refine box_event ?hg (N := 1) ?hd (cs := #[.int .i64 a0_0, .slice A0_1 l0_1.length c0_1, .slice A0_2 l0_2.length c0_2, .slice A0_3 l0_3.length c0_3, .int .i64 a0_4]) (t := 40) ?hr ?_; (case hd => rfl); (case hg => rfl); (case hr => (go_simp; done)); intro gb391 hg w5 hbox hb; have BK391 := am (hbox); have GW391 := am (gw_ hg HB.out); have GE391 := am (gw_ hg HB.out); replace HB := am (below_step HB.out hb); clear hb hbox hg) | ((with_reducible refine gate_dst (N := 2) rfl ?_); refine box_event ?hg (N := 2) ?hd (cs := #[.int .i64 0, .slice none 0 0, .slice none 0 0, .slice none 0 0, .int .i64 0]) (t := 40) ?hr ?_; (case hd => rfl); (case hg => rfl); (case hr => (go_simp; done)); intro gb392 hg w6 hbox hb; have BK392 := am (hbox); have GW392 := am (gw_ hg HB.out); have GE392 := am (gw_ hg HB.out); replace HB := am (below_step HB.out hb); have NB391_392 := am ((by rw [hg]; exact Nat.ne_of_lt (blk_lt (g := gb391) (o := .cells #[.int .i64 a0_0, .slice A0_1 l0_1.length c0_1, .slice A0_2 l0_2.length c0_2, .slice A0_3 l0_3.length c0_3, .int .i64 a0_4] 40 (0, 0)) BK391.out) : gb391 ≠ gb392)); have NB392_391 := am ((by rw [hg]; exact Nat.ne_of_gt (blk_lt (g := gb391) (o := .cells #[.int .i64 a0_0, .slice A0_1 l0_1.length c0_1, .slice A0_2 l0_2.length c0_2, .slice A0_3 l0_3.length c0_3, .int .i64 a0_4] 40 (0, 0)) BK391.out) : gb392 ≠ gb391)); replace BK391 := am (blk_below BK391.out hb); clear hb hbox hg))
  replace BK391 := am (blk_drew BK391.out)
  replace BK392 := am (blk_drew BK392.out)
  replace HB := am (below_drew1 HB.out)
  refine start_ (n := 15) (S := fun w' => w'.cell? ⟨gb391, 0, none⟩ = some (.int .i64 a0_0) ∧ w'.cell? ⟨gb391, 1, none⟩ = some (.slice A0_1 l0_1.length c0_1) ∧ w'.cell? ⟨gb391, 2, none⟩ = some (.slice A0_2 l0_2.length c0_2) ∧ w'.cell? ⟨gb391, 3, none⟩ = some (.slice A0_3 l0_3.length c0_3) ∧ w'.cell? ⟨gb391, 4, none⟩ = some (.int .i64 a0_4)) (ds := [10, 12, 14]) #[false, false, false, false, false, false, false, false, false, false, false, false, false, false, false] (by kernel_rfl) rfl rfl ⟨(blk_cell BK391.out 0).trans rfl, (blk_cell BK391.out 1).trans rfl, (blk_cell BK391.out 2).trans rfl, (blk_cell BK391.out 3).trans rfl, (blk_cell BK391.out 4).trans rfl⟩ (fun hHeld => ?_); refine with_tabW impl_cloneTask.tab1 impl_cloneTask.bits1 (fun HT_ HW_ => ?_)
  generalize w6.drew = w7 at BK391 BK392 HB hHeld ⊢
  refine pure_ (i := 0) (N := some 3) (v := ?_) (a' := ?_) #[true, false, false, false, false, false, false, false, false, false, false, false, false, false, false] rfl rfl (any_of HT_.out (by kernel_rfl)) (fun _ _ _ h => h) (Or.inl ⟨rfl, ?_⟩) ?_ ?_
  rotate_left
  ·intro w'
   go_simp
   with_reducible rfl
  rotate_left
  ·simp only [Act.put, s2_, s0_, s1_, i64_w, i32_w]
   rfl
  refine pure_ (i := 3) (N := some 6) (v := ?_) (a' := ?_) #[true, false, false, true, false, false, false, false, false, false, false, false, false, false, false] rfl rfl (any_of HT_.out (by kernel_rfl)) (fun _ _ _ h => h) (Or.inl ⟨rfl, ?_⟩) ?_ ?_
  rotate_left
  ·intro w'
   go_simp
   with_reducible rfl
  rotate_left
  ·simp only [Act.put, s2_, s0_, s1_, i64_w, i32_w]
   rfl
  refine pure_ (i := 6) (N := some 9) (v := ?_) (a' := ?_) #[true, false, false, true, false, false, true, false, false, false, false, false, false, false, false] rfl rfl (any_of HT_.out (by kernel_rfl)) (fun _ _ _ h => h) (Or.inl ⟨rfl, ?_⟩) ?_ ?_
  rotate_left
  ·intro w'
   go_simp
   with_reducible rfl
  rotate_left
  ·simp only [Act.put, s2_, s0_, s1_, i64_w, i32_w]
   rfl
  refine take_ (i := 1) (N := some 4) (v := ?_) (a' := ?_) #[true, true, false, true, false, false, true, false, false, false, false, false, false, false, false] rfl rfl (take_ofW HT_.out HW_.out (by kernel_rfl)) (fun _ _ _ h => h) (Or.inl ⟨rfl, ?_⟩) hHeld ?_ ?_
  rotate_left
  ·rintro w' ⟨s0, s1, s2, s3, s4⟩
   go_simp
   with_reducible rfl
  rotate_left
  ·simp only [Act.put, s2_, s0_, s1_, i64_w, i32_w]
   rfl
  refine take_ (i := 4) (N := some 7) (v := ?_) (a' := ?_) #[true, true, false, true, true, false, true, false, false, false, false, false, false, false, false] rfl rfl (take_ofW HT_.out HW_.out (by kernel_rfl)) (fun _ _ _ h => h) (Or.inl ⟨rfl, ?_⟩) hHeld ?_ ?_
  rotate_left
  ·rintro w' ⟨s0, s1, s2, s3, s4⟩
   go_simp
   with_reducible rfl
  rotate_left
  ·simp only [Act.put, s2_, s0_, s1_, i64_w, i32_w]
   rfl
  refine take_ (i := 7) (N := some 10) (v := ?_) (a' := ?_) #[true, true, false, true, true, false, true, true, false, false, false, false, false, false, false] rfl rfl (take_ofW HT_.out HW_.out (by kernel_rfl)) (fun _ _ _ h => h) (Or.inl ⟨rfl, ?_⟩) hHeld ?_ ?_
  rotate_left
  ·rintro w' ⟨s0, s1, s2, s3, s4⟩
   go_simp
   with_reducible rfl
  rotate_left
  ·simp only [Act.put, s2_, s0_, s1_, i64_w, i32_w]
   rfl
  refine one_ (i := 2) (N := some 5) #[true, true, true, true, true, false, true, true, false, false, false, false, false, false, false] rfl rfl (one_of HT_.out (by kernel_rfl)) (by decide) (fun K hK => ?_)
  refine goes_ Try.func112 (by kernel_rfl) rfl #[.slice A0_1 l0_1.length c0_1] rfl rfl rfl (by (try simp only [List.map_toArray, List.map_cons, List.map_nil]); rfl) ?_
  with_reducible refine (impl_clone.calls _ _ l0_1 t393 _ ?side1 ?side2 A2.out).mono ?_
  (case side1 => repeat (exact (Kd.C_below HR0_1.out HB.out)))
  (case side2 => exact HC0_1.out)
  rintro e w8 ⟨v394, rfl, ho0, hb⟩
  refine ⟨_, rfl, ?_⟩
  have HO395 := am (Kd.R_lower ho0 (below_size HB.out))
  replace BK391 := am (blk_below BK391.out hb)
  replace BK392 := am (blk_below BK392.out hb)
  replace HB := am (below_step HB.out hb)
  (try clear hb)
  (try clear hb2)
  (try clear hk)
  (try clear hi)
  (try clear ho0)
  refine hK.out _ _ ⟨(blk_cell BK391.out 0).trans rfl, (blk_cell BK391.out 1).trans rfl, (blk_cell BK391.out 2).trans rfl, (blk_cell BK391.out 3).trans rfl, (blk_cell BK391.out 4).trans rfl⟩ (fun hHeld => ?_)
  clear hK K
  refine norm_ (a' := ?_) ?_ ?_
  rotate_left
  ·show Act.put _ (some 5) _ = _
   simp only [Act.put, s2_, s0_, s1_, i64_w, i32_w]
   rfl
  refine pure_ (i := 9) (N := some 12) (v := ?_) (a' := ?_) #[true, true, true, true, true, false, true, true, false, true, false, false, false, false, false] rfl rfl (any_of HT_.out (by kernel_rfl)) (fun _ _ _ h => h) (Or.inl ⟨rfl, ?_⟩) ?_ ?_
  rotate_left
  ·intro w'
   go_simp
   with_reducible rfl
  rotate_left
  ·simp only [Act.put, s2_, s0_, s1_, i64_w, i32_w]
   rfl
  refine one_ (i := 5) (N := some 8) #[true, true, true, true, true, true, true, true, false, true, false, false, false, false, false] rfl rfl (one_of HT_.out (by kernel_rfl)) (by decide) (fun K hK => ?_)
  refine goes_ Try.func112 (by kernel_rfl) rfl #[.slice A0_2 l0_2.length c0_2] rfl rfl rfl (by (try simp only [List.map_toArray, List.map_cons, List.map_nil]); rfl) ?_
  with_reducible refine (impl_clone.calls _ _ l0_2 t396 _ ?side1 ?side2 A3.out).mono ?_
  (case side1 => repeat (exact (Kd.C_below HR0_2.out HB.out)))
  (case side2 => exact HC0_2.out)
  rintro e w9 ⟨v397, rfl, ho0, hb⟩
  refine ⟨_, rfl, ?_⟩
  have HO398 := am (Kd.R_lower (Kd.R_new' ho0 (Kd.R_lt HO395.out)) (below_size HB.out))
  replace HO395 := am (Kd.R_elder' HO395.out (Kd.R_base ho0) hb)
  replace BK391 := am (blk_below BK391.out hb)
  replace BK392 := am (blk_below BK392.out hb)
  replace HB := am (below_step HB.out hb)
  (try clear hb)
  (try clear hb2)
  (try clear hk)
  (try clear hi)
  (try clear ho0)
  refine hK.out _ _ ⟨(blk_cell BK391.out 0).trans rfl, (blk_cell BK391.out 1).trans rfl, (blk_cell BK391.out 2).trans rfl, (blk_cell BK391.out 3).trans rfl, (blk_cell BK391.out 4).trans rfl⟩ (fun hHeld => ?_)
  clear hK K
  refine norm_ (a' := ?_) ?_ ?_
  rotate_left
  ·show Act.put _ (some 8) _ = _
   simp only [Act.put, s2_, s0_, s1_, i64_w, i32_w]
   rfl
  refine one_ (i := 8) (N := some 11) #[true, true, true, true, true, true, true, true, true, true, false, false, false, false, false] rfl rfl (one_of HT_.out (by kernel_rfl)) (by decide) (fun K hK => ?_)
  refine Kd.R_append_rows_step Kd.bool (w0 := w) w.heap.size rfl (.const (.slice none 0 0)) (.tmp 10) 38 4 (.bool false) 1 rfl Try.underlying38 info4 rfl (by decide) (by omega) (.slice none 0 0) ([] : List Bool) l0_3 _ _ _ (fun _ => True) (fun _ => False) rfl rfl ?aO ?aR (fun _ _ h => h) (fun _ h => h.elim) ?aF ?aB ?aS ?aL ?_
  (case aR => repeat (exact (Kd.C_below HR0_3.out HB.out)))
  (case aB => exact HB.out)
  (case aF => exact (fun _ _ => trivial))
  (case aO => exact ((Kd.R_nil _ _ _ _ (fun _ => True))))
  (case aS => exact (below_size HB.out))
  (case aL => have := LMc4.out; omega)
  intro v400 w10 ho hb hg hat
  rw [← Ny399.out] at ho
  replace BK391 := am (blk_grown BK391.out hg (by simp [Value.ownBlock]))
  replace BK392 := am (blk_grown BK392.out hg (by simp [Value.ownBlock]))
  replace HO395 := am (Kd.R_grown HO395.out hg (fun _ _ => by simp [Value.ownBlock]))
  replace HO398 := am (Kd.R_grown HO398.out hg (fun _ _ => by simp [Value.ownBlock]))
  replace HB := am (hb)
  have HO401 := am (ho)
  clear ho hb hg hat
  obtain ⟨Ao11, co11, eo11⟩ := Kd.R_slice HO395.out
  (subst eo11)
  obtain ⟨Ao13, co13, eo13⟩ := Kd.R_slice HO398.out
  (subst eo13)
  obtain ⟨Ao15, co15, eo15⟩ := Kd.R_slice HO401.out
  (subst eo15)
  refine hK.out _ _ ⟨(blk_cell BK391.out 0).trans rfl, (blk_cell BK391.out 1).trans rfl, (blk_cell BK391.out 2).trans rfl, (blk_cell BK391.out 3).trans rfl, (blk_cell BK391.out 4).trans rfl⟩ (fun hHeld => ?_)
  clear hK K
  refine norm_ (a' := ?_) ?_ ?_
  rotate_left
  ·show Act.put _ (some 11) _ = _
   simp only [Act.put, s2_, s0_, s1_, i64_w, i32_w]
   rfl
  refine last_ (i := 10) (N := none) #[true, true, true, true, true, true, true, true, true, true, true, false, false, false, false] rfl rfl (one_of HT_.out (by kernel_rfl)) (by decide) (fun K hK => ?_)
  have hs12 : w10.cell? ⟨gb391, 1, none⟩ = some (.slice A0_1 l0_1.length c0_1) := (blk_cell BK391.out 1).trans rfl
  have hfs12 := blk_frozen BK391.out 1
  have hns12_1 := NB392_391.out
  have hms12_1 := NB391_392.out
  refine skip_ (w1 := ?_) rfl rfl ?_ ?_
  rotate_left
  ·go_simp
   rfl
  refine hK.out _ _ ?_
  clear hK K
  refine pure_ (i := 11) (N := some 13) (v := ?_) (a' := ?_) #[true, true, true, true, true, true, true, true, true, true, true, true, false, false, false] rfl rfl (any_of HT_.out (by kernel_rfl)) (fun _ _ _ h => h) (Or.inl ⟨rfl, ?_⟩) ?_ ?_
  rotate_left
  ·intro w'
   go_simp
   with_reducible rfl
  rotate_left
  ·simp only [Act.put, s2_, s0_, s1_, i64_w, i32_w]
   rfl
  refine last_ (i := 12) (N := none) #[true, true, true, true, true, true, true, true, true, true, true, true, true, false, false] rfl rfl (one_of HT_.out (by kernel_rfl)) (by decide) (fun K hK => ?_)
  have hs14 : w10.cell? ⟨gb391, 2, none⟩ = some (.slice A0_2 l0_2.length c0_2) := (blk_cell BK391.out 2).trans rfl
  have hfs14 := blk_frozen BK391.out 2
  have hns14_1 := NB392_391.out
  have hms14_1 := NB391_392.out
  refine skip_ (w1 := ?_) rfl rfl ?_ ?_
  rotate_left
  ·go_simp
   rfl
  refine hK.out _ _ ?_
  clear hK K
  refine pure_ (i := 13) (N := some 14) (v := ?_) (a' := ?_) #[true, true, true, true, true, true, true, true, true, true, true, true, true, true, false] rfl rfl (any_of HT_.out (by kernel_rfl)) (fun _ _ _ h => h) (Or.inl ⟨rfl, ?_⟩) ?_ ?_
  rotate_left
  ·intro w'
   go_simp
   with_reducible rfl
  rotate_left
  ·simp only [Act.put, s2_, s0_, s1_, i64_w, i32_w]
   rfl
  refine last_ (i := 14) (N := none) #[true, true, true, true, true, true, true, true, true, true, true, true, true, true, true] rfl rfl (one_of HT_.out (by kernel_rfl)) (by decide) (fun K hK => ?_)
  have hs16 : w10.cell? ⟨gb391, 3, none⟩ = some (.slice A0_3 l0_3.length c0_3) := (blk_cell BK391.out 3).trans rfl
  have hfs16 := blk_frozen BK391.out 3
  have hns16_1 := NB392_391.out
  have hms16_1 := NB391_392.out
  refine skip_ (w1 := ?_) rfl rfl ?_ ?_
  rotate_left
  ·go_simp
   rfl
  refine hK.out _ _ ?_
  clear hK K
  refine done_ (done_of HT_.out (by kernel_rfl)) ?_
  have hnb17 := NB391_392.out
  have hnc17 := NB392_391.out
  obtain ⟨hcz18_0, hcz18_1, hcz18_2, hcz18_3, hcz18_4, hfz18_0, hfz18_1, hfz18_2, hfz18_3, hfz18_4⟩ := cells5_ BK391.out
  obtain ⟨hcz19_0, hcz19_1, hcz19_2, hcz19_3, hcz19_4, hfz19_0, hfz19_1, hfz19_2, hfz19_3, hfz19_4⟩ := cells5_ BK392.out
  try go_wp2
  refine bodyPost_ret (results_cell_row rfl _ _ gb392 40 #[.int .i64 a0_0, .slice Ao11 t393.length co11, .slice Ao13 t396.length co13, .slice Ao15 y399.length co15, .int .i64 a0_4] (0, 0) _ rfl (by refine blk_put (cs := #[.int .i64 a0_0, .slice Ao11 t393.length co11, .slice Ao13 t396.length co13, .slice Ao15 y399.length co15, .int .i64 0]) ?_ 4 _ rfl; refine blk_put (cs := #[.int .i64 a0_0, .slice Ao11 t393.length co11, .slice Ao13 t396.length co13, .slice none 0 0, .int .i64 0]) ?_ 3 _ rfl; refine blk_put (cs := #[.int .i64 a0_0, .slice Ao11 t393.length co11, .slice none 0 0, .slice none 0 0, .int .i64 0]) ?_ 2 _ rfl; refine blk_put (cs := #[.int .i64 a0_0, .slice none 0 0, .slice none 0 0, .slice none 0 0, .int .i64 0]) ?_ 1 _ rfl; refine blk_put (cs := #[.int .i64 0, .slice none 0 0, .slice none 0 0, .slice none 0 0, .int .i64 0]) ?_ 0 _ rfl; refine blk_far ?_ NB392_391.out _; refine blk_far ?_ NB392_391.out _; refine blk_far ?_ NB392_391.out _; exact BK392.out) Try.underlying40 rfl (by kernel_rfl)) rfl ?_
  exact ⟨_, _, _, rfl, by exact Kd.R_mono (Kd.R_far (p := ⟨gb392, 4, none⟩) (Kd.R_far (p := ⟨gb392, 3, none⟩) (Kd.R_far (p := ⟨gb392, 2, none⟩) (Kd.R_far (p := ⟨gb392, 1, none⟩) (Kd.R_far (p := ⟨gb392, 0, none⟩) (Kd.R_far (p := ⟨gb391, 3, none⟩) (Kd.R_far (p := ⟨gb391, 2, none⟩) (Kd.R_far (p := ⟨gb391, 1, none⟩) (Kd.R_types (Kd.R_types HO395.out BK391.out (by decide)) BK392.out (by decide)) (fun _ hk => hk.1.2) (.slice Ao11 t393.length co11)) (fun _ hk => hk.1.2) (.slice Ao13 t396.length co13)) (fun _ hk => hk.1.2) (.slice Ao15 y399.length co15)) (fun _ hk => hk.2) (.int .i64 a0_0)) (fun _ hk => hk.2) (.slice Ao11 t393.length co11)) (fun _ hk => hk.2) (.slice Ao13 t396.length co13)) (fun _ hk => hk.2) (.slice Ao15 y399.length co15)) (fun _ hk => hk.2) (.int .i64 a0_4)) (fun _ hk => hk.1.1.2), by exact Kd.R_mono (Kd.R_far (p := ⟨gb392, 4, none⟩) (Kd.R_far (p := ⟨gb392, 3, none⟩) (Kd.R_far (p := ⟨gb392, 2, none⟩) (Kd.R_far (p := ⟨gb392, 1, none⟩) (Kd.R_far (p := ⟨gb392, 0, none⟩) (Kd.R_far (p := ⟨gb391, 3, none⟩) (Kd.R_far (p := ⟨gb391, 2, none⟩) (Kd.R_far (p := ⟨gb391, 1, none⟩) (Kd.R_types (Kd.R_types HO398.out BK391.out (by decide)) BK392.out (by decide)) (fun _ hk => hk.1.2) (.slice Ao11 t393.length co11)) (fun _ hk => hk.1.2) (.slice Ao13 t396.length co13)) (fun _ hk => hk.1.2) (.slice Ao15 y399.length co15)) (fun _ hk => hk.2) (.int .i64 a0_0)) (fun _ hk => hk.2) (.slice Ao11 t393.length co11)) (fun _ hk => hk.2) (.slice Ao13 t396.length co13)) (fun _ hk => hk.2) (.slice Ao15 y399.length co15)) (fun _ hk => hk.2) (.int .i64 a0_4)) (fun _ hk => hk.1.1.2), by exact Kd.R_mono (Kd.R_far (p := ⟨gb392, 4, none⟩) (Kd.R_far (p := ⟨gb392, 3, none⟩) (Kd.R_far (p := ⟨gb392, 2, none⟩) (Kd.R_far (p := ⟨gb392, 1, none⟩) (Kd.R_far (p := ⟨gb392, 0, none⟩) (Kd.R_far (p := ⟨gb391, 3, none⟩) (Kd.R_far (p := ⟨gb391, 2, none⟩) (Kd.R_far (p := ⟨gb391, 1, none⟩) (Kd.R_types (Kd.R_types HO401.out BK391.out (by decide)) BK392.out (by decide)) (fun _ hk => hk.1.2) (.slice Ao11 t393.length co11)) (fun _ hk => hk.1.2) (.slice Ao13 t396.length co13)) (fun _ hk => hk.1.2) (.slice Ao15 y399.length co15)) (fun _ hk => hk.2) (.int .i64 a0_0)) (fun _ hk => hk.2) (.slice Ao11 t393.length co11)) (fun _ hk => hk.2) (.slice Ao13 t396.length co13)) (fun _ hk => hk.2) (.slice Ao15 y399.length co15)) (fun _ hk => hk.2) (.int .i64 a0_4)) (fun _ hk => trivial), by repeat ((with_reducible first | exact HB.out | refine below_set ?_ GE391.out | refine below_set ?_ GE392.out))⟩
 ·rw [if_neg c4] at H
  exact absurd H (by simp)

def impl_CountMatches.l0 : Nat → Int → List (S60) → Int → Int → Int → Int → Int → Option (Int)
 | 0, _, _, _, _, _, _, _ => none
 | k + 1, x5, x8, x9, x10, x403000, x403001, x403002 => if x10 < x9 then (if 0 ≤ x10 then (if x10 < (x8.length : Int) then (if ((rd_T60 x8 x10).f0) = x403000 then (impl_CountMatches.l0 k (wrap64 (x5 + 1)) x8 x9 (wrap64 (x10 + 1)) x403000 x403001 x403002) else (impl_CountMatches.l0 k x5 x8 x9 (wrap64 (x10 + 1)) x403000 x403001 x403002)) else (none)) else (none)) else (some x5)
def impl_CountMatches.f (k : Nat) (a0_0 : Int) (a0_1 : Int) (a0_2 : Int) (l1 : List (S60)) : Option (Int) := impl_CountMatches.l0 k 0 l1 (l1.length : Int) 0 a0_0 a0_1 a0_2
theorem impl_CountMatches.calls (k : Nat) (a0_0 : Int) (a0_1 : Int) (a0_2 : Int) (A1 : Option Addr) (c1 : Nat) (l1 : List (S60)) (r : Int) (w : World) (hr1 : Kd.C k60 w A1 l1.length l1) (hc1 : l1.length ≤ c1) (h : impl_CountMatches.f k a0_0 a0_1 a0_2 l1 = some r) :
  Calls Try.prog 180 #[.agg #[.int .i64 a0_0, .int .i64 a0_1, .int .i64 a0_2], .slice A1 l1.length c1] w fun e w' => e = .returned (.int .i64 r) ∧ Below w.heap.size w w' := by
 have hu60 := Try.underlying60
 have HR1 := am hr1
 have HC1 := am hc1
 clear hr1 hc1
 have HB := am (Below.refl w.heap.size w)
 have H : (impl_CountMatches.l0 k 0 l1 (l1.length : Int) 0 a0_0 a0_1 a0_2) = some r := h
 clear h
 have H' := am H
 clear H
 go_enter Try.func180, Try.ntmps180
 go_wp2_with (((with_reducible refine gate_dst (N := 2) rfl ?_); refine box_event ?hg (N := 2) ?hd (cs := #[.int .i64 a0_0, .int .i64 a0_1, .int .i64 a0_2]) (t := 60) ?hr ?_; (case hd => rfl); (case hg => rfl); (case hr => (go_simp; done)); intro gb402 hg w3 hbox hb; have BK402 := am (hbox); have GW402 := am (gw_ hg HB.out); have GE402 := am (gw_ hg HB.out); replace HB := am (below_step HB.out hb); clear hb hbox hg))
 go_loopg [5, 10] k (fun kq v5 v10 w' => ∃ (x5_1 : Int) (x10_1 : Int), v5 = .int .i64 x5_1 ∧ v10 = .int .i64 x10_1 ∧ Aside0 (impl_CountMatches.l0 kq x5_1 l1 (l1.length : Int) x10_1 a0_0 a0_1 a0_2 = some r) ∧ Aside0 (kq ≤ k) ∧ Aside0 (w'.heap[gb402]? = some (.cells #[.int .i64 a0_0, .int .i64 a0_1, .int .i64 a0_2] 60 (0, 0))) ∧ Aside0 (Below w.heap.size w w'))
 case atStart => exact ⟨(0), (0), rfl, rfl, H', ⟨Nat.le_refl _⟩, ⟨BK402.out⟩, ⟨HB.out⟩⟩
 case round =>
  clear H'
  obtain ⟨x5_1, x10_1, rfl, rfl, HA, HK1, BK402, HB⟩ := hrel
  cases gk with
  | zero => exact absurd HA.out (by simp [impl_CountMatches.l0])
  | succ k1 =>
   have H := HA.out
   clear HA
   simp only [impl_CountMatches.l0] at H
   by_cases c4 : x10_1 < (l1.length : Int)
   ·rw [if_pos c4] at H
    have c4b0 : decide (x10_1 < (l1.length : Int)) = true := decide_eq_true c4
    clear c4
    by_cases c5 : 0 ≤ x10_1
    ·rw [if_pos c5] at H
     have c5b0 : decide (0 ≤ x10_1) = true := decide_eq_true c5
     clear c5
     by_cases c6 : x10_1 < (l1.length : Int)
     ·rw [if_pos c6] at H
      have c6b0 : decide (x10_1 < (l1.length : Int)) = true := decide_eq_true c6
      clear c6
      by_cases c7 : ((rd_T60 l1 x10_1).f0) = a0_0
      ·rw [if_pos c7] at H
       have c7b0 : (((rd_T60 l1 x10_1).f0) == a0_0) = true := beq_iff_eq.mpr c7
       have c7b1 : (((rd_T60 l1 x10_1).f0) != a0_0) = false := bne_eq_false_iff_eq.mpr c7
       clear c7
       have H' := am H
       clear H
       have p403 : 0 ≤ (x10_1 : Int) := of_decide_eq_true (by (with_reducible assumption))
       have q403 : x10_1 < (l1.length : Int) := of_decide_eq_true (by (with_reducible assumption))
       obtain ⟨ad403, e403, hx403_0, hx403_1, hx403_2⟩ := at_T60 HR1.out x10_1 p403 q403
       cases e403
       replace hx403_0 := bc_ HB.out hx403_0
       replace hx403_1 := bc_ HB.out hx403_1
       replace hx403_2 := bc_ HB.out hx403_2
       replace p403 := eq_true p403
       replace q403 := eq_true q403
       go_wp2_with (((with_reducible refine gate_dst (N := 7) rfl ?_); refine box_event ?hg (N := 7) ?hd (cs := #[.int .i64 0, .int .i64 0, .int .i64 0]) (t := 60) ?hr ?_; (case hd => rfl); (case hg => rfl); (case hr => (go_simp; done)); intro gb404 hg w8 hbox hb; have BK404 := am (hbox); have GW404 := am (gw_ hg HB.out); have GE404 := am (gw_ hg HB.out); replace HB := am (below_step HB.out hb); have NB402_404 := am ((by rw [hg]; exact Nat.ne_of_lt (blk_lt (g := gb402) (o := .cells #[.int .i64 a0_0, .int .i64 a0_1, .int .i64 a0_2] 60 (0, 0)) BK402.out) : gb402 ≠ gb404)); have NB404_402 := am ((by rw [hg]; exact Nat.ne_of_gt (blk_lt (g := gb402) (o := .cells #[.int .i64 a0_0, .int .i64 a0_1, .int .i64 a0_2] 60 (0, 0)) BK402.out) : gb404 ≠ gb402)); replace BK402 := am (blk_below BK402.out hb); clear hb hbox hg; have hnb9 := NB404_402.out; have hnc9 := NB402_404.out; obtain ⟨hcz10_0, hcz10_1, hcz10_2, hfz10_0, hfz10_1, hfz10_2⟩ := cells3_ BK404.out; obtain ⟨hcz11_0, hcz11_1, hcz11_2, hfz11_0, hfz11_1, hfz11_2⟩ := cells3_ BK402.out))
       go_roundg k1
       case measure => have := HK1.out; omega
       case rel => exact ⟨(wrap64 (x5_1 + 1)), (wrap64 (x10_1 + 1)), rfl, rfl, H', ⟨by have := HK1.out; omega⟩, ⟨by refine blk_far ?_ NB402_404.out _; refine blk_far ?_ NB402_404.out _; refine blk_far ?_ NB402_404.out _; exact BK402.out⟩, ⟨by repeat ((with_reducible first | exact HB.out | refine below_set ?_ GE404.out))⟩⟩
      ·rw [if_neg c7] at H
       have c7b0 : (((rd_T60 l1 x10_1).f0) == a0_0) = false := beq_eq_false_iff_ne.mpr c7
       have c7b1 : (((rd_T60 l1 x10_1).f0) != a0_0) = true := bne_iff_ne.mpr c7
       have H' := am H
       clear H
       have p403 : 0 ≤ (x10_1 : Int) := of_decide_eq_true (by (with_reducible assumption))
       have q403 : x10_1 < (l1.length : Int) := of_decide_eq_true (by (with_reducible assumption))
       obtain ⟨ad403, e403, hx403_0, hx403_1, hx403_2⟩ := at_T60 HR1.out x10_1 p403 q403
       cases e403
       replace hx403_0 := bc_ HB.out hx403_0
       replace hx403_1 := bc_ HB.out hx403_1
       replace hx403_2 := bc_ HB.out hx403_2
       replace p403 := eq_true p403
       replace q403 := eq_true q403
       go_wp2_with (((with_reducible refine gate_dst (N := 7) rfl ?_); refine box_event ?hg (N := 7) ?hd (cs := #[.int .i64 0, .int .i64 0, .int .i64 0]) (t := 60) ?hr ?_; (case hd => rfl); (case hg => rfl); (case hr => (go_simp; done)); intro gb404 hg w12 hbox hb; have BK404 := am (hbox); have GW404 := am (gw_ hg HB.out); have GE404 := am (gw_ hg HB.out); replace HB := am (below_step HB.out hb); have NB402_404 := am ((by rw [hg]; exact Nat.ne_of_lt (blk_lt (g := gb402) (o := .cells #[.int .i64 a0_0, .int .i64 a0_1, .int .i64 a0_2] 60 (0, 0)) BK402.out) : gb402 ≠ gb404)); have NB404_402 := am ((by rw [hg]; exact Nat.ne_of_gt (blk_lt (g := gb402) (o := .cells #[.int .i64 a0_0, .int .i64 a0_1, .int .i64 a0_2] 60 (0, 0)) BK402.out) : gb404 ≠ gb402)); replace BK402 := am (blk_below BK402.out hb); clear hb hbox hg; have hnb13 := NB404_402.out; have hnc13 := NB402_404.out; obtain ⟨hcz14_0, hcz14_1, hcz14_2, hfz14_0, hfz14_1, hfz14_2⟩ := cells3_ BK404.out; obtain ⟨hcz15_0, hcz15_1, hcz15_2, hfz15_0, hfz15_1, hfz15_2⟩ := cells3_ BK402.out))
       go_roundg k1
       case measure => have := HK1.out; omega
       case rel => exact ⟨(x5_1), (wrap64 (x10_1 + 1)), rfl, rfl, H', ⟨by have := HK1.out; omega⟩, ⟨by refine blk_far ?_ NB402_404.out _; refine blk_far ?_ NB402_404.out _; refine blk_far ?_ NB402_404.out _; exact BK402.out⟩, ⟨by repeat ((with_reducible first | exact HB.out | refine below_set ?_ GE404.out))⟩⟩
     ·rw [if_neg c6] at H
      exact absurd H (by simp)
    ·rw [if_neg c5] at H
     exact absurd H (by simp)
   ·rw [if_neg c4] at H
    have c4b0 : decide (x10_1 < (l1.length : Int)) = false := decide_eq_false c4
    clear c4
    obtain rfl := Option.some.inj H
    go_wp2
    go_ret
    exact ⟨rfl, HB.out⟩

mutual
def impl_JoinChunk.l0 : Nat → List (S60) → List (S128) → List (S60) → Int → Int → Int → List (S60) → List (S60) → List Bool → Int → Option ((List (S128)) × Int × (List (S60)) × (List (S60)) × List Bool × Int)
 | 0, _, _, _, _, _, _, _, _, _, _ => none
 | k + 1, x1, x7, x20, x21, x22, x419000, x419001, x419002, x419003, x419004 => if x22 < x21 then (if 0 ≤ x22 then (if x22 < (x20.length : Int) then ((impl_CountMatches.f k ((rd_T60 x20 x22).f0) ((rd_T60 x20 x22).f1) ((rd_T60 x20 x22).f2) x1).bind fun t425 => (if t425 = 0 then (impl_JoinChunk.l0 k x1 x7 x20 x21 (wrap64 (x22 + 1)) x419000 x419001 x419002 x419003 x419004) else (if x419000 = 2 then (if x22 < (x419003.length : Int) then (if rdOf false x419003 x22 = true then (impl_JoinChunk.l0 k x1 x7 x20 x21 (wrap64 (x22 + 1)) x419000 x419001 x419002 (x419003.set (x22 : Int).toNat true) x419004) else (if x7.length < 2513169434916 then (impl_JoinChunk.l0 k x1 (x7 ++ [(⟨(⟨(rd_T60 x20 x22).f0, (rd_T60 x20 x22).f1, (rd_T60 x20 x22).f2⟩ : S60), (⟨0, 0, 0⟩ : S60), false⟩ : S128)]) x20 x21 (wrap64 (x22 + 1)) x419000 x419001 x419002 (x419003.set (x22 : Int).toNat true) x419004) else (none))) else (none)) else (if x419000 = 1 then (impl_JoinChunk.j1 k x1 x7 x22 x20 x21 x22 (x419000 == 1) x419000 x419001 x419002 x419003 x419004 ((rd_T60 x20 x22).f0) ((rd_T60 x20 x22).f1) ((rd_T60 x20 x22).f2)) else (impl_JoinChunk.j1 k x1 x7 x22 x20 x21 x22 (x419000 == 4) x419000 x419001 x419002 x419003 x419004 ((rd_T60 x20 x22).f0) ((rd_T60 x20 x22).f1) ((rd_T60 x20 x22).f2)))))) else (none)) else (none)) else (some (x7, x419000, x419001, x419002, x419003, x419004))
def impl_JoinChunk.j1 : Nat → List (S60) → List (S128) → Int → List (S60) → Int → Int → Bool → Int → List (S60) → List (S60) → List Bool → Int → Int → Int → Int → Option ((List (S128)) × Int × (List (S60)) × (List (S60)) × List Bool × Int)
 | 0, _, _, _, _, _, _, _, _, _, _, _, _, _, _, _ => none
 | k + 1, x1, x7, x8, x20, x21, x22, x46, x419000, x419001, x419002, x419003, x419004, x425000, x425001, x425002 => if x46 = true then (impl_JoinChunk.l1 k x1 x7 x8 x20 x21 x22 x1 (x1.length : Int) 0 x419000 x419001 x419002 x419003 x419004 x425000 x425001 x425002) else (if 0 ≤ x8 then (if x8 < (x419003.length : Int) then (impl_JoinChunk.l0 k x1 x7 x20 x21 (wrap64 (x22 + 1)) x419000 x419001 x419002 (x419003.set (x8 : Int).toNat true) x419004) else (none)) else (none))
def impl_JoinChunk.l1 : Nat → List (S60) → List (S128) → Int → List (S60) → Int → Int → List (S60) → Int → Int → Int → List (S60) → List (S60) → List Bool → Int → Int → Int → Int → Option ((List (S128)) × Int × (List (S60)) × (List (S60)) × List Bool × Int)
 | 0, _, _, _, _, _, _, _, _, _, _, _, _, _, _, _, _, _ => none
 | k + 1, x1, x7, x8, x20, x21, x22, x49, x50, x51, x419000, x419001, x419002, x419003, x419004, x425000, x425001, x425002 => if x51 < x50 then (if 0 ≤ x51 then (if x51 < (x49.length : Int) then (if ((rd_T60 x49 x51).f0) = x425000 then (if x7.length < 2513169434916 then (impl_JoinChunk.l1 k x1 (x7 ++ [(⟨(⟨x425000, x425001, x425002⟩ : S60), (⟨(rd_T60 x49 x51).f0, (rd_T60 x49 x51).f1, (rd_T60 x49 x51).f2⟩ : S60), true⟩ : S128)]) x8 x20 x21 x22 x49 x50 (wrap64 (x51 + 1)) x419000 x419001 x419002 x419003 x419004 x425000 x425001 x425002) else (none)) else (impl_JoinChunk.l1 k x1 x7 x8 x20 x21 x22 x49 x50 (wrap64 (x51 + 1)) x419000 x419001 x419002 x419003 x419004 x425000 x425001 x425002)) else (none)) else (none)) else (if 0 ≤ x8 then (if x8 < (x419003.length : Int) then (impl_JoinChunk.l0 k x1 x7 x20 x21 (wrap64 (x22 + 1)) x419000 x419001 x419002 (x419003.set (x8 : Int).toNat true) x419004) else (none)) else (none))
end
def impl_JoinChunk.f (k : Nat) (a0_0 : Int) (l0_1 : List (S60)) (l0_2 : List (S60)) (l0_3 : List Bool) (a0_4 : Int) (l1 : List (S60)) : Option ((List (S128)) × Int × (List (S60)) × (List (S60)) × List Bool × Int) := (impl_cloneTask.f a0_0 l0_1 l0_2 l0_3 a0_4).bind fun bt407 => ((impl_IsValidTask.f k a0_0 l0_1 l0_2 l0_3 a0_4).bind fun t419 => (if t419 = true then (impl_JoinChunk.l0 k l1 (([] : List (S128))) bt407.2.1 (bt407.2.1.length : Int) 0 bt407.1 bt407.2.1 bt407.2.2.1 bt407.2.2.2.1 bt407.2.2.2.2) else (some (([] : List (S128)), bt407.1, bt407.2.1, bt407.2.2.1, bt407.2.2.2.1, bt407.2.2.2.2))))
theorem impl_JoinChunk.calls (k : Nat) (a0_0 : Int) (A0_1 : Option Addr) (c0_1 : Nat) (l0_1 : List (S60)) (A0_2 : Option Addr) (c0_2 : Nat) (l0_2 : List (S60)) (A0_3 : Option Addr) (c0_3 : Nat) (l0_3 : List Bool) (a0_4 : Int) (A1 : Option Addr) (c1 : Nat) (l1 : List (S60)) (r1 : List (S128)) (r2 : Int) (r3 : List (S60)) (r4 : List (S60)) (r5 : List Bool) (r6 : Int) (w : World) (hr0_1 : Kd.C k60 w A0_1 l0_1.length l0_1) (hc0_1 : l0_1.length ≤ c0_1) (hr0_2 : Kd.C k60 w A0_2 l0_2.length l0_2) (hc0_2 : l0_2.length ≤ c0_2) (hr0_3 : Kd.C Kd.bool w A0_3 l0_3.length l0_3) (hc0_3 : l0_3.length ≤ c0_3) (hr1 : Kd.C k60 w A1 l1.length l1) (hc1 : l1.length ≤ c1) (h : impl_JoinChunk.f k a0_0 l0_1 l0_2 l0_3 a0_4 l1 = some (r1, r2, r3, r4, r5, r6)) :
  Calls Try.prog 117 #[.agg #[.int .i64 a0_0, .slice A0_1 l0_1.length c0_1, .slice A0_2 l0_2.length c0_2, .slice A0_3 l0_3.length c0_3, .int .i64 a0_4], .slice A1 l1.length c1] w fun e w' => ∃ v0_ v2_ v3_ v4_ : Value, e = .returned (.tuple #[v0_, .agg #[.int .i64 r2, v2_, v3_, v4_, .int .i64 r6]]) ∧ Kd.R k128 128 w' w.heap.size (fun _ => True) v0_ r1 ∧ Kd.R k60 60 w' w.heap.size (fun k_ => some k_ ≠ (v3_ : Value).ownBlock) v2_ r3 ∧ Kd.R k60 60 w' w.heap.size (fun k_ => some k_ ≠ (v2_ : Value).ownBlock) v3_ r4 ∧ Kd.R Kd.bool 4 w' w.heap.size (fun _ => True) v4_ r5 ∧ Below w.heap.size w w' := by
 have hu40 := Try.underlying40
 have hu60 := Try.underlying60
 have hu128 := Try.underlying128
 have HR0_1 := am hr0_1
 have HC0_1 := am hc0_1
 clear hr0_1 hc0_1
 have HR0_2 := am hr0_2
 have HC0_2 := am hc0_2
 clear hr0_2 hc0_2
 have HR0_3 := am hr0_3
 have HC0_3 := am hc0_3
 clear hr0_3 hc0_3
 have HR1 := am hr1
 have HC1 := am hc1
 clear hr1 hc1
 have HB := am (Below.refl w.heap.size w)
 have H : ((impl_cloneTask.f a0_0 l0_1 l0_2 l0_3 a0_4).bind fun bt407 => ((impl_IsValidTask.f k a0_0 l0_1 l0_2 l0_3 a0_4).bind fun t419 => (if t419 = true then (impl_JoinChunk.l0 k l1 (([] : List (S128))) bt407.2.1 (bt407.2.1.length : Int) 0 bt407.1 bt407.2.1 bt407.2.2.1 bt407.2.2.2.1 bt407.2.2.2.2) else (some (([] : List (S128)), bt407.1, bt407.2.1, bt407.2.2.1, bt407.2.2.2.1, bt407.2.2.2.2))))) = some (r1, r2, r3, r4, r5, r6) := h
 clear h
 replace H := Option.bind_eq_some_iff.mp H
 obtain ⟨⟨t407, t408, t411, t414, t417⟩, A30, H⟩ := H
 have A3 := am A30
 clear A30
 replace H := Option.bind_eq_some_iff.mp H
 obtain ⟨t419, A40, H⟩ := H
 have A4 := am A40
 clear A40
 by_cases c5 : t419 = true
 ·subst c5
  rw [if_pos rfl] at H
  obtain ⟨y420, hy420⟩ : ∃ y_ : List (S128), y_ = (([] : List (S128))) := ⟨_, rfl⟩
  replace H : (impl_JoinChunk.l0 k l1 y420 t408 (t408.length : Int) 0 t407 t408 t411 t414 t417) = some (r1, r2, r3, r4, r5, r6) := by (rw [hy420]; with_reducible exact H)
  have Ny420 := am hy420
  clear hy420
  have H' := am H
  clear H
  go_enter Try.func117, Try.ntmps117
  go_wp2_with (first | ((with_reducible refine gate_dst (N := 2) rfl ?_); refine box_event ?hg (N := 2) ?hd (cs := #[.int .i64 a0_0, .slice A0_1 l0_1.length c0_1, .slice A0_2 l0_2.length c0_2, .slice A0_3 l0_3.length c0_3, .int .i64 a0_4]) (t := 40) ?hr ?_; (case hd => rfl); (case hg => rfl); (case hr => (go_simp; done)); intro gb405 hg w6 hbox hb; have BK405 := am (hbox); have GW405 := am (gw_ hg HB.out); have GE405 := am (gw_ hg HB.out); replace HB := am (below_step HB.out hb); clear hb hbox hg) | ((with_reducible refine gate_dst (N := 5) rfl ?_); refine box_event ?hg (N := 5) ?hd (cs := #[.int .i64 0, .slice none 0 0, .slice none 0 0, .slice none 0 0, .int .i64 0]) (t := 40) ?hr ?_; (case hd => rfl); (case hg => rfl); (case hr => (go_simp; done)); intro gb406 hg w7 hbox hb; have BK406 := am (hbox); have GW406 := am (gw_ hg HB.out); have GE406 := am (gw_ hg HB.out); replace HB := am (below_step HB.out hb); have NB405_406 := am ((by rw [hg]; exact Nat.ne_of_lt (blk_lt (g := gb405) (o := .cells #[.int .i64 a0_0, .slice A0_1 l0_1.length c0_1, .slice A0_2 l0_2.length c0_2, .slice A0_3 l0_3.length c0_3, .int .i64 a0_4] 40 (0, 0)) BK405.out) : gb405 ≠ gb406)); have NB406_405 := am ((by rw [hg]; exact Nat.ne_of_gt (blk_lt (g := gb405) (o := .cells #[.int .i64 a0_0, .slice A0_1 l0_1.length c0_1, .slice A0_2 l0_2.length c0_2, .slice A0_3 l0_3.length c0_3, .int .i64 a0_4] 40 (0, 0)) BK405.out) : gb406 ≠ gb405)); replace BK405 := am (blk_below BK405.out hb); clear hb hbox hg; have hnb8 := NB405_406.out; have hnc8 := NB406_405.out; obtain ⟨hcz9_0, hcz9_1, hcz9_2, hcz9_3, hcz9_4, hfz9_0, hfz9_1, hfz9_2, hfz9_3, hfz9_4⟩ := cells5_ BK405.out) | ((with_reducible refine gate_callee (f := 179) rfl ?_); refine goesL_ (some 13) rfl rfl Try.func179 (by kernel_rfl) rfl #[.agg #[.int .i64 a0_0, .slice A0_1 l0_1.length c0_1, .slice A0_2 l0_2.length c0_2, .slice A0_3 l0_3.length c0_3, .int .i64 a0_4]] rfl (by (try simp only [List.map_toArray, List.map_cons, List.map_nil]); rfl) ?_; (with_reducible refine (impl_cloneTask.calls a0_0 _ _ l0_1 _ _ l0_2 _ _ l0_3 a0_4 t407 t408 t411 t414 t417 _ ?side1 ?side2 ?side3 ?side4 ?side5 ?side6 A3.out).mono ?_); (case side1 => repeat (exact (Kd.C_below HR0_1.out HB.out))); (case side2 => exact HC0_1.out); (case side3 => repeat (exact (Kd.C_below HR0_2.out HB.out))); (case side4 => exact HC0_2.out); (case side5 => repeat (exact (Kd.C_below HR0_3.out HB.out))); (case side6 => exact HC0_3.out); rintro e w10 ⟨v409, v412, v415, rfl, ho0, ho1, ho2, hb⟩; refine ⟨_, rfl, ?_⟩; have HO410 := am (Kd.R_lower ho0 (below_size HB.out)); have HO413 := am (Kd.R_lower ho1 (below_size HB.out)); have HO416 := am (Kd.R_lower ho2 (below_size HB.out)); replace BK405 := am (blk_below BK405.out hb); replace BK406 := am (blk_below BK406.out hb); replace HB := am (below_step HB.out hb); (try clear hb); (try clear ho0); (try clear ho1); (try clear ho2)) | ((with_reducible refine gate_dst (N := 6) rfl ?_); refine box_event ?hg (N := 6) ?hd (cs := #[.int .i64 0, .slice none 0 0, .slice none 0 0, .slice none 0 0, .int .i64 0]) (t := 40) ?hr ?_; (case hd => rfl); (case hg => rfl); (case hr => (go_simp; done)); intro gb418 hg w11 hbox hb; replace HO410 := am (Kd.R_below HO410.out hb); replace HO413 := am (Kd.R_below HO413.out hb); replace HO416 := am (Kd.R_below HO416.out hb); have BK418 := am (hbox); have GW418 := am (gw_ hg HB.out); have GE418 := am (gw_ hg HB.out); replace HB := am (below_step HB.out hb); have NB405_418 := am ((by rw [hg]; exact Nat.ne_of_lt (blk_lt (g := gb405) (o := .cells #[.int .i64 a0_0, .slice A0_1 l0_1.length c0_1, .slice A0_2 l0_2.length c0_2, .slice A0_3 l0_3.length c0_3, .int .i64 a0_4] 40 (0, 0)) BK405.out) : gb405 ≠ gb418)); have NB418_405 := am ((by rw [hg]; exact Nat.ne_of_gt (blk_lt (g := gb405) (o := .cells #[.int .i64 a0_0, .slice A0_1 l0_1.length c0_1, .slice A0_2 l0_2.length c0_2, .slice A0_3 l0_3.length c0_3, .int .i64 a0_4] 40 (0, 0)) BK405.out) : gb418 ≠ gb405)); replace BK405 := am (blk_below BK405.out hb); have NB406_418 := am ((by rw [hg]; exact Nat.ne_of_lt (blk_lt (g := gb406) (o := .cells #[.int .i64 0, .slice none 0 0, .slice none 0 0, .slice none 0 0, .int .i64 0] 40 (0, 0)) BK406.out) : gb406 ≠ gb418)); have NB418_406 := am ((by rw [hg]; exact Nat.ne_of_gt (blk_lt (g := gb406) (o := .cells #[.int .i64 0, .slice none 0 0, .slice none 0 0, .slice none 0 0, .int .i64 0] 40 (0, 0)) BK406.out) : gb418 ≠ gb406)); replace BK406 := am (blk_below BK406.out hb); clear hb hbox hg; have hnb12 := NB418_405.out; have hnc12 := NB405_418.out; have hnb13 := NB418_406.out; have hnc13 := NB406_418.out; obtain ⟨hcz14_0, hcz14_1, hcz14_2, hcz14_3, hcz14_4, hfz14_0, hfz14_1, hfz14_2, hfz14_3, hfz14_4⟩ := cells5_ BK418.out; obtain ⟨Ao15, co15, eo15⟩ := Kd.R_slice HO410.out; subst eo15; obtain ⟨Ao16, co16, eo16⟩ := Kd.R_slice HO413.out; subst eo16; obtain ⟨Ao17, co17, eo17⟩ := Kd.R_slice HO416.out; subst eo17; obtain ⟨hcz18_0, hcz18_1, hcz18_2, hcz18_3, hcz18_4, hfz18_0, hfz18_1, hfz18_2, hfz18_3, hfz18_4⟩ := cells5_ BK405.out) | ((with_reducible refine gate_callee (f := 39) rfl ?_); refine goesL_ (some 15) rfl rfl Try.func39 (by kernel_rfl) rfl #[.agg #[.int .i64 a0_0, .slice A0_1 l0_1.length c0_1, .slice A0_2 l0_2.length c0_2, .slice A0_3 l0_3.length c0_3, .int .i64 a0_4]] rfl (by (try simp only [List.map_toArray, List.map_cons, List.map_nil]); rfl) ?_; (with_reducible refine (impl_IsValidTask.calls k a0_0 _ _ l0_1 _ _ l0_2 _ _ l0_3 a0_4 true _ ?side1 ?side2 ?side3 ?side4 ?side5 ?side6 A4.out).mono ?_); (case side1 => exact Kd.C_below HR0_1.out (by repeat (with_reducible first | exact HB.out | refine below_set ?_ GE418.out))); (case side2 => exact HC0_1.out); (case side3 => exact Kd.C_below HR0_2.out (by repeat (with_reducible first | exact HB.out | refine below_set ?_ GE418.out))); (case side4 => exact HC0_2.out); (case side5 => exact Kd.C_below HR0_3.out (by repeat (with_reducible first | exact HB.out | refine below_set ?_ GE418.out))); (case side6 => exact HC0_3.out); rintro e w19 ⟨rfl, hb⟩; refine ⟨_, rfl, ?_⟩; replace HO410 := am (Kd.R_below (by exact (Kd.R_mono (Kd.R_far (p := ⟨gb418, 4, none⟩) (Kd.R_far (p := ⟨gb418, 3, none⟩) (Kd.R_far (p := ⟨gb418, 2, none⟩) (Kd.R_far (p := ⟨gb418, 1, none⟩) (Kd.R_far (p := ⟨gb418, 0, none⟩) (Kd.R_types HO410.out BK418.out (by decide)) (fun _ hk => hk.2) (.int .i64 t407)) (fun _ hk => hk.2) (.slice Ao15 t408.length co15)) (fun _ hk => hk.2) (.slice Ao16 t411.length co16)) (fun _ hk => hk.2) (.slice Ao17 t414.length co17)) (fun _ hk => hk.2) (.int .i64 t417)) (fun _ h_ => h_.1))) hb); replace HO413 := am (Kd.R_below (by exact (Kd.R_mono (Kd.R_far (p := ⟨gb418, 4, none⟩) (Kd.R_far (p := ⟨gb418, 3, none⟩) (Kd.R_far (p := ⟨gb418, 2, none⟩) (Kd.R_far (p := ⟨gb418, 1, none⟩) (Kd.R_far (p := ⟨gb418, 0, none⟩) (Kd.R_types HO413.out BK418.out (by decide)) (fun _ hk => hk.2) (.int .i64 t407)) (fun _ hk => hk.2) (.slice Ao15 t408.length co15)) (fun _ hk => hk.2) (.slice Ao16 t411.length co16)) (fun _ hk => hk.2) (.slice Ao17 t414.length co17)) (fun _ hk => hk.2) (.int .i64 t417)) (fun _ h_ => h_.1))) hb); replace HO416 := am (Kd.R_below (by exact (Kd.R_mono (Kd.R_far (p := ⟨gb418, 4, none⟩) (Kd.R_far (p := ⟨gb418, 3, none⟩) (Kd.R_far (p := ⟨gb418, 2, none⟩) (Kd.R_far (p := ⟨gb418, 1, none⟩) (Kd.R_far (p := ⟨gb418, 0, none⟩) (Kd.R_types HO416.out BK418.out (by decide)) (fun _ hk => hk.2) (.int .i64 t407)) (fun _ hk => hk.2) (.slice Ao15 t408.length co15)) (fun _ hk => hk.2) (.slice Ao16 t411.length co16)) (fun _ hk => hk.2) (.slice Ao17 t414.length co17)) (fun _ hk => hk.2) (.int .i64 t417)) (fun _ h_ => h_.1))) hb); replace BK405 := am (blk_below (g := gb405) (o := .cells #[.int .i64 a0_0, .slice A0_1 l0_1.length c0_1, .slice A0_2 l0_2.length c0_2, .slice A0_3 l0_3.length c0_3, .int .i64 a0_4] 40 (0, 0)) (by refine blk_far ?_ NB405_418.out _; refine blk_far ?_ NB405_418.out _; refine blk_far ?_ NB405_418.out _; refine blk_far ?_ NB405_418.out _; refine blk_far ?_ NB405_418.out _; exact BK405.out) hb); replace BK406 := am (blk_below (g := gb406) (o := .cells #[.int .i64 0, .slice none 0 0, .slice none 0 0, .slice none 0 0, .int .i64 0] 40 (0, 0)) (by refine blk_far ?_ NB406_418.out _; refine blk_far ?_ NB406_418.out _; refine blk_far ?_ NB406_418.out _; refine blk_far ?_ NB406_418.out _; refine blk_far ?_ NB406_418.out _; exact BK406.out) hb); replace BK418 := am (blk_below (g := gb418) (o := .cells #[.int .i64 t407, .slice Ao15 t408.length co15, .slice Ao16 t411.length co16, .slice Ao17 t414.length co17, .int .i64 t417] 40 (0, 0)) (by refine blk_put (cs := #[.int .i64 t407, .slice Ao15 t408.length co15, .slice Ao16 t411.length co16, .slice Ao17 t414.length co17, .int .i64 0]) ?_ 4 _ rfl; refine blk_put (cs := #[.int .i64 t407, .slice Ao15 t408.length co15, .slice Ao16 t411.length co16, .slice none 0 0, .int .i64 0]) ?_ 3 _ rfl; refine blk_put (cs := #[.int .i64 t407, .slice Ao15 t408.length co15, .slice none 0 0, .slice none 0 0, .int .i64 0]) ?_ 2 _ rfl; refine blk_put (cs := #[.int .i64 t407, .slice none 0 0, .slice none 0 0, .slice none 0 0, .int .i64 0]) ?_ 1 _ rfl; refine blk_put (cs := #[.int .i64 0, .slice none 0 0, .slice none 0 0, .slice none 0 0, .int .i64 0]) ?_ 0 _ rfl; exact BK418.out) hb); replace HB := am (below_step (by repeat (with_reducible first | exact HB.out | refine below_set ?_ GE418.out)) hb); (try clear hb)) | ((with_reducible refine gate_dst (N := 18) rfl ?_); refine Kd.R_lit k128 _ 128 ?hg (N := 18) ?hd (xs := ([] : List (S128))) (inner := []) (ok := fun _ => True) (okp := fun _ => True) ?hr ?hp (fun _ hk => hk) trivial (Below.refl _ _) (Nat.le_refl _) (by simp) ?_; (case hd => rfl); (case hg => rfl); (case hr => (go_simp; done)); (case hp => exact (Reps.none _ _)); intro v421 w20 ho21 hb hg_ hnew_; clear hg_ hnew_; (rw [← Ny420.out] at ho21); replace HO410 := am (Kd.R_below HO410.out hb); replace HO413 := am (Kd.R_below HO413.out hb); replace HO416 := am (Kd.R_below HO416.out hb); have HO422 := am (Kd.R_lower ho21 (below_size HB.out)); replace BK405 := am (blk_below BK405.out hb); replace BK406 := am (blk_below BK406.out hb); replace BK418 := am (blk_below BK418.out hb); replace HB := am (below_step HB.out hb); clear hb ho21; obtain ⟨hcz22_0, hcz22_1, hcz22_2, hcz22_3, hcz22_4, hfz22_0, hfz22_1, hfz22_2, hfz22_3, hfz22_4⟩ := cells5_ BK418.out))
  go_loopg [7, 22] k (fun kq v7 v22 w' => ∃ (x7_1 : List (S128)) (x22_1 : Int) (x419003_1 : List Bool) (u419003 : Value), v22 = .int .i64 x22_1 ∧ Aside0 (impl_JoinChunk.l0 kq l1 x7_1 t408 (t408.length : Int) x22_1 t407 t408 t411 x419003_1 t417 = some (r1, r2, r3, r4, r5, r6)) ∧ Aside0 (kq ≤ k) ∧ Aside0 (Kd.R k128 128 w' w.heap.size (fun _ => True) v7 x7_1) ∧ Aside0 (Kd.R k60 60 w' w.heap.size (fun k_ => some k_ ≠ ((.slice Ao16 t411.length co16) : Value).ownBlock) (.slice Ao15 t408.length co15) t408) ∧ Aside0 (Kd.R k60 60 w' w.heap.size (fun k_ => some k_ ≠ ((.slice Ao16 t411.length co16) : Value).ownBlock) (.slice Ao15 t408.length co15) t408) ∧ Aside0 (Kd.R k60 60 w' w.heap.size (fun k_ => some k_ ≠ ((.slice Ao15 t408.length co15) : Value).ownBlock ∧ some k_ ≠ ((.slice Ao15 t408.length co15) : Value).ownBlock) (.slice Ao16 t411.length co16) t411) ∧ Aside0 (Kd.R Kd.bool 4 w' w.heap.size (fun _ => True) u419003 x419003_1) ∧ Aside0 (w'.heap[gb405]? = some (.cells #[.int .i64 a0_0, (.slice A0_1 l0_1.length c0_1), (.slice A0_2 l0_2.length c0_2), (.slice A0_3 l0_3.length c0_3), .int .i64 a0_4] 40 (0, 0))) ∧ Aside0 (w'.heap[gb406]? = some (.cells #[.int .i64 0, (.slice none 0 0), (.slice none 0 0), (.slice none 0 0), .int .i64 0] 40 (0, 0))) ∧ Aside0 (w'.heap[gb418]? = some (.cells #[.int .i64 t407, (.slice Ao15 t408.length co15), (.slice Ao16 t411.length co16), u419003, .int .i64 t417] 40 (0, 0))) ∧ Aside0 (Below w.heap.size w w'))
  case atStart => exact ⟨(y420), (0), (t414), (.slice Ao17 t414.length co17), rfl, H', ⟨Nat.le_refl _⟩, ⟨HO422.out⟩, ⟨HO410.out⟩, ⟨HO410.out⟩, ⟨by exact Kd.R_mono HO413.out (fun _ hk => ⟨hk, hk⟩)⟩, ⟨HO416.out⟩, ⟨BK405.out⟩, ⟨BK406.out⟩, ⟨BK418.out⟩, ⟨HB.out⟩⟩
  case round =>
   clear H'
   try clear hcz14_0
   try clear hcz14_1
   try clear hcz14_2
   try clear hcz14_3
   try clear hcz14_4
   try clear hcz18_0
   try clear hcz18_1
   try clear hcz18_2
   try clear hcz18_3
   try clear hcz18_4
   try clear hcz22_0
   try clear hcz22_1
   try clear hcz22_2
   try clear hcz22_3
   try clear hcz22_4
   try clear hcz9_0
   try clear hcz9_1
   try clear hcz9_2
   try clear hcz9_3
   try clear hcz9_4
   try clear hfz14_0
   try clear hfz14_1
   try clear hfz14_2
   try clear hfz14_3
   try clear hfz14_4
   try clear hfz18_0
   try clear hfz18_1
   try clear hfz18_2
   try clear hfz18_3
   try clear hfz18_4
   try clear hfz22_0
   try clear hfz22_1
   try clear hfz22_2
   try clear hfz22_3
   try clear hfz22_4
   try clear hfz9_0
   try clear hfz9_1
   try clear hfz9_2
   try clear hfz9_3
   try clear hfz9_4
   obtain ⟨x7_1, x22_1, x419003_1, u419003, rfl, HA, HK1, HO_7, HO_20, HO_419001, HO_419002, HO_419003, BK405, BK406, BK418, HB⟩ := hrel
   cases gk with
   | zero => exact absurd HA.out (by simp [impl_JoinChunk.l0])
   | succ k1 =>
    have H := HA.out
    clear HA
    simp only [impl_JoinChunk.l0] at H
    by_cases c23 : x22_1 < (t408.length : Int)
    ·rw [if_pos c23] at H
     have c23b0 : decide (x22_1 < (t408.length : Int)) = true := decide_eq_true c23
     clear c23
     by_cases c24 : 0 ≤ x22_1
     ·rw [if_pos c24] at H
      have c24b0 : decide (0 ≤ x22_1) = true := decide_eq_true c24
      clear c24
      by_cases c25 : x22_1 < (t408.length : Int)
      ·rw [if_pos c25] at H
       have c25b0 : decide (x22_1 < (t408.length : Int)) = true := decide_eq_true c25
       clear c25
       replace H := Option.bind_eq_some_iff.mp H
       obtain ⟨t425, A260, H⟩ := H
       have A26 := am A260
       clear A260
       by_cases c27 : t425 = 0
       ·rw [if_pos c27] at H
        have c27b0 : (t425 == 0) = true := beq_iff_eq.mpr c27
        have c27b1 : (t425 != 0) = false := bne_eq_false_iff_eq.mpr c27
        clear c27
        have H' := am H
        clear H
        have p423 : 0 ≤ (x22_1 : Int) := of_decide_eq_true (by (with_reducible assumption))
        have q423 : x22_1 < (t408.length : Int) := of_decide_eq_true (by (with_reducible assumption))
        obtain ⟨ad423, e423, hx423_0, hx423_1, hx423_2⟩ := at_T60 (Kd.R_reads' HO_20.out).2.2 x22_1 p423 q423
        cases e423
        replace p423 := eq_true p423
        replace q423 := eq_true q423
        go_wp2_with (first | ((with_reducible refine gate_dst (N := 9) rfl ?_); refine box_event ?hg (N := 9) ?hd (cs := #[.int .i64 0, .int .i64 0, .int .i64 0]) (t := 60) ?hr ?_; (case hd => rfl); (case hg => rfl); (case hr => (go_simp; done)); intro gb424 hg w28 hbox hb; replace HO_7 := am (Kd.R_below HO_7.out hb); replace HO_20 := am (Kd.R_below (Kd.R_elderB HO_20.out gb424 (Nat.le_of_eq hg.symm)) hb); replace HO_419001 := am (Kd.R_below (Kd.R_elderB HO_419001.out gb424 (Nat.le_of_eq hg.symm)) hb); replace HO_419002 := am (Kd.R_below (Kd.R_elderB HO_419002.out gb424 (Nat.le_of_eq hg.symm)) hb); replace HO_419003 := am (Kd.R_below HO_419003.out hb); have BK424 := am (hbox); have GW424 := am (gw_ hg HB.out); have GE424 := am (gw_ hg HB.out); replace HB := am (below_step HB.out hb); have NB405_424 := am ((by rw [hg]; exact Nat.ne_of_lt (blk_lt (g := gb405) (o := .cells #[.int .i64 a0_0, .slice A0_1 l0_1.length c0_1, .slice A0_2 l0_2.length c0_2, .slice A0_3 l0_3.length c0_3, .int .i64 a0_4] 40 (0, 0)) BK405.out) : gb405 ≠ gb424)); have NB424_405 := am ((by rw [hg]; exact Nat.ne_of_gt (blk_lt (g := gb405) (o := .cells #[.int .i64 a0_0, .slice A0_1 l0_1.length c0_1, .slice A0_2 l0_2.length c0_2, .slice A0_3 l0_3.length c0_3, .int .i64 a0_4] 40 (0, 0)) BK405.out) : gb424 ≠ gb405)); replace BK405 := am (blk_below BK405.out hb); have NB406_424 := am ((by rw [hg]; exact Nat.ne_of_lt (blk_lt (g := gb406) (o := .cells #[.int .i64 0, .slice none 0 0, .slice none 0 0, .slice none 0 0, .int .i64 0] 40 (0, 0)) BK406.out) : gb406 ≠ gb424)); have NB424_406 := am ((by rw [hg]; exact Nat.ne_of_gt (blk_lt (g := gb406) (o := .cells #[.int .i64 0, .slice none 0 0, .slice none 0 0, .slice none 0 0, .int .i64 0] 40 (0, 0)) BK406.out) : gb424 ≠ gb406)); replace BK406 := am (blk_below BK406.out hb); have NB418_424 := am ((by rw [hg]; exact Nat.ne_of_lt (blk_lt (g := gb418) (o := .cells #[.int .i64 t407, .slice (some ad423) t408.length co15, .slice Ao16 t411.length co16, u419003, .int .i64 t417] 40 (0, 0)) BK418.out) : gb418 ≠ gb424)); have NB424_418 := am ((by rw [hg]; exact Nat.ne_of_gt (blk_lt (g := gb418) (o := .cells #[.int .i64 t407, .slice (some ad423) t408.length co15, .slice Ao16 t411.length co16, u419003, .int .i64 t417] 40 (0, 0)) BK418.out) : gb424 ≠ gb418)); replace BK418 := am (blk_below BK418.out hb); clear hb hbox hg; have hnb29 := NB424_405.out; have hnc29 := NB405_424.out; have hnb30 := NB424_406.out; have hnc30 := NB406_424.out; have hnb31 := NB424_418.out; have hnc31 := NB418_424.out; obtain ⟨hcz32_0, hcz32_1, hcz32_2, hfz32_0, hfz32_1, hfz32_2⟩ := cells3_ BK424.out) | ((with_reducible refine gate_callee (f := 180) rfl ?_); refine goesL_ (some 29) rfl rfl Try.func180 (by kernel_rfl) rfl #[.agg #[.int .i64 ((rd_T60 t408 x22_1).f0), .int .i64 ((rd_T60 t408 x22_1).f1), .int .i64 ((rd_T60 t408 x22_1).f2)], .slice A1 l1.length c1] rfl (by (try simp only [List.map_toArray, List.map_cons, List.map_nil]); rfl) ?_; (with_reducible refine (impl_CountMatches.calls k1 ((rd_T60 t408 x22_1).f0) ((rd_T60 t408 x22_1).f1) ((rd_T60 t408 x22_1).f2) _ _ l1 t425 _ ?side1 ?side2 A26.out).mono ?_); (case side1 => exact Kd.C_below HR1.out (by repeat (with_reducible first | exact HB.out | refine below_set ?_ GE424.out))); (case side2 => exact HC1.out); rintro e w33 ⟨rfl, hb⟩; refine ⟨_, rfl, ?_⟩; replace HO_7 := am (Kd.R_below (by exact (Kd.R_mono (Kd.R_far (p := ⟨gb424, 2, none⟩) (Kd.R_far (p := ⟨gb424, 1, none⟩) (Kd.R_far (p := ⟨gb424, 0, none⟩) (Kd.R_types HO_7.out BK424.out (by decide)) (fun _ hk => hk.2) (.int .i64 ((rd_T60 t408 x22_1).f0))) (fun _ hk => hk.2) (.int .i64 ((rd_T60 t408 x22_1).f1))) (fun _ hk => hk.2) (.int .i64 ((rd_T60 t408 x22_1).f2))) (fun _ h_ => h_.1))) hb); replace HO_20 := am (Kd.R_below (by exact (Kd.R_mono (Kd.R_far (p := ⟨gb424, 2, none⟩) (Kd.R_far (p := ⟨gb424, 1, none⟩) (Kd.R_far (p := ⟨gb424, 0, none⟩) (Kd.R_mono HO_20.out (fun k_ hk => (⟨hk, hk.2⟩ : _ ∧ k_ ≠ gb424))) (fun _ hk => hk.2) (.int .i64 ((rd_T60 t408 x22_1).f0))) (fun _ hk => hk.2) (.int .i64 ((rd_T60 t408 x22_1).f1))) (fun _ hk => hk.2) (.int .i64 ((rd_T60 t408 x22_1).f2))) (fun _ h_ => h_.1))) hb); replace HO_419001 := am (Kd.R_below (by exact (Kd.R_mono (Kd.R_far (p := ⟨gb424, 2, none⟩) (Kd.R_far (p := ⟨gb424, 1, none⟩) (Kd.R_far (p := ⟨gb424, 0, none⟩) (Kd.R_mono HO_419001.out (fun k_ hk => (⟨hk, hk.2⟩ : _ ∧ k_ ≠ gb424))) (fun _ hk => hk.2) (.int .i64 ((rd_T60 t408 x22_1).f0))) (fun _ hk => hk.2) (.int .i64 ((rd_T60 t408 x22_1).f1))) (fun _ hk => hk.2) (.int .i64 ((rd_T60 t408 x22_1).f2))) (fun _ h_ => h_.1))) hb); replace HO_419002 := am (Kd.R_below (by exact (Kd.R_mono (Kd.R_far (p := ⟨gb424, 2, none⟩) (Kd.R_far (p := ⟨gb424, 1, none⟩) (Kd.R_far (p := ⟨gb424, 0, none⟩) (Kd.R_mono HO_419002.out (fun k_ hk => (⟨hk, hk.2⟩ : _ ∧ k_ ≠ gb424))) (fun _ hk => hk.2) (.int .i64 ((rd_T60 t408 x22_1).f0))) (fun _ hk => hk.2) (.int .i64 ((rd_T60 t408 x22_1).f1))) (fun _ hk => hk.2) (.int .i64 ((rd_T60 t408 x22_1).f2))) (fun _ h_ => h_.1))) hb); replace HO_419003 := am (Kd.R_below (by exact (Kd.R_mono (Kd.R_far (p := ⟨gb424, 2, none⟩) (Kd.R_far (p := ⟨gb424, 1, none⟩) (Kd.R_far (p := ⟨gb424, 0, none⟩) (Kd.R_types HO_419003.out BK424.out (by decide)) (fun _ hk => hk.2) (.int .i64 ((rd_T60 t408 x22_1).f0))) (fun _ hk => hk.2) (.int .i64 ((rd_T60 t408 x22_1).f1))) (fun _ hk => hk.2) (.int .i64 ((rd_T60 t408 x22_1).f2))) (fun _ h_ => h_.1))) hb); replace BK405 := am (blk_below (g := gb405) (o := .cells #[.int .i64 a0_0, .slice A0_1 l0_1.length c0_1, .slice A0_2 l0_2.length c0_2, .slice A0_3 l0_3.length c0_3, .int .i64 a0_4] 40 (0, 0)) (by refine blk_far ?_ NB405_424.out _; refine blk_far ?_ NB405_424.out _; refine blk_far ?_ NB405_424.out _; exact BK405.out) hb); replace BK406 := am (blk_below (g := gb406) (o := .cells #[.int .i64 0, .slice none 0 0, .slice none 0 0, .slice none 0 0, .int .i64 0] 40 (0, 0)) (by refine blk_far ?_ NB406_424.out _; refine blk_far ?_ NB406_424.out _; refine blk_far ?_ NB406_424.out _; exact BK406.out) hb); replace BK418 := am (blk_below (g := gb418) (o := .cells #[.int .i64 t407, .slice (some ad423) t408.length co15, .slice Ao16 t411.length co16, u419003, .int .i64 t417] 40 (0, 0)) (by refine blk_far ?_ NB418_424.out _; refine blk_far ?_ NB418_424.out _; refine blk_far ?_ NB418_424.out _; exact BK418.out) hb); replace BK424 := am (blk_below (g := gb424) (o := .cells #[.int .i64 ((rd_T60 t408 x22_1).f0), .int .i64 ((rd_T60 t408 x22_1).f1), .int .i64 ((rd_T60 t408 x22_1).f2)] 60 (0, 0)) (by refine blk_put (cs := #[.int .i64 ((rd_T60 t408 x22_1).f0), .int .i64 ((rd_T60 t408 x22_1).f1), .int .i64 0]) ?_ 2 _ rfl; refine blk_put (cs := #[.int .i64 ((rd_T60 t408 x22_1).f0), .int .i64 0, .int .i64 0]) ?_ 1 _ rfl; refine blk_put (cs := #[.int .i64 0, .int .i64 0, .int .i64 0]) ?_ 0 _ rfl; exact BK424.out) hb); replace HB := am (below_step (by repeat (with_reducible first | exact HB.out | refine below_set ?_ GE424.out)) hb); (try clear hb)))
        go_roundg k1
        case measure => have := HK1.out; omega
        case rel => exact ⟨(x7_1), (wrap64 (x22_1 + 1)), (x419003_1), (u419003), rfl, H', ⟨by have := HK1.out; omega⟩, ⟨HO_7.out⟩, ⟨by exact Kd.R_mono HO_20.out (fun _ hk => hk.1)⟩, ⟨by exact Kd.R_mono HO_419001.out (fun _ hk => hk.1)⟩, ⟨by exact Kd.R_mono HO_419002.out (fun _ hk => ⟨hk.1.1, hk.1.2⟩)⟩, ⟨HO_419003.out⟩, ⟨BK405.out⟩, ⟨BK406.out⟩, ⟨BK418.out⟩, ⟨HB.out⟩⟩
       ·rw [if_neg c27] at H
        have c27b0 : (t425 == 0) = false := beq_eq_false_iff_ne.mpr c27
        have c27b1 : (t425 != 0) = true := bne_iff_ne.mpr c27
        by_cases c34 : t407 = 2
        ·rw [if_pos c34] at H
         have c34b0 : (t407 == 2) = true := beq_iff_eq.mpr c34
         have c34b1 : (t407 != 2) = false := bne_eq_false_iff_eq.mpr c34
         clear c34
         by_cases c35 : x22_1 < (x419003_1.length : Int)
         ·rw [if_pos c35] at H
          have c35b0 : decide (x22_1 < (x419003_1.length : Int)) = true := decide_eq_true c35
          clear c35
          obtain ⟨bq36, hbq36⟩ : ∃ b_ : Bool, b_ = (rdOf false x419003_1 x22_1) := ⟨_, rfl⟩
          replace H : (if bq36 = true then (impl_JoinChunk.l0 k1 l1 x7_1 t408 (t408.length : Int) (wrap64 (x22_1 + 1)) t407 t408 t411 (x419003_1.set (x22_1 : Int).toNat true) t417) else (if x7_1.length < 2513169434916 then (impl_JoinChunk.l0 k1 l1 (x7_1 ++ [(⟨(⟨(rd_T60 t408 x22_1).f0, (rd_T60 t408 x22_1).f1, (rd_T60 t408 x22_1).f2⟩ : S60), (⟨0, 0, 0⟩ : S60), false⟩ : S128)]) t408 (t408.length : Int) (wrap64 (x22_1 + 1)) t407 t408 t411 (x419003_1.set (x22_1 : Int).toNat true) t417) else (none))) = some (r1, r2, r3, r4, r5, r6) := by rw [← hbq36] at H; exact H
          have Nbq36 := am hbq36
          clear hbq36
          by_cases c37 : bq36 = true
          ·subst c37
           rw [if_pos rfl] at H
           obtain ⟨y427, hy427⟩ : ∃ y_ : List Bool, y_ = (x419003_1.set (x22_1 : Int).toNat true) := ⟨_, rfl⟩
           replace H : (impl_JoinChunk.l0 k1 l1 x7_1 t408 (t408.length : Int) (wrap64 (x22_1 + 1)) t407 t408 t411 y427 t417) = some (r1, r2, r3, r4, r5, r6) := by (rw [hy427]; with_reducible exact H)
           have Ny427 := am hy427
           clear hy427
           have H' := am H
           clear H
           have p423 : 0 ≤ (x22_1 : Int) := of_decide_eq_true (by (with_reducible assumption))
           have q423 : x22_1 < (t408.length : Int) := of_decide_eq_true (by (with_reducible assumption))
           obtain ⟨ad423, e423, hx423_0, hx423_1, hx423_2⟩ := at_T60 (Kd.R_reads' HO_20.out).2.2 x22_1 p423 q423
           cases e423
           replace p423 := eq_true p423
           replace q423 := eq_true q423
           go_wp2_with (first | ((with_reducible refine gate_dst (N := 9) rfl ?_); refine box_event ?hg (N := 9) ?hd (cs := #[.int .i64 0, .int .i64 0, .int .i64 0]) (t := 60) ?hr ?_; (case hd => rfl); (case hg => rfl); (case hr => (go_simp; done)); intro gb424 hg w39 hbox hb; replace HO_7 := am (Kd.R_below HO_7.out hb); replace HO_20 := am (Kd.R_below (Kd.R_elderB HO_20.out gb424 (Nat.le_of_eq hg.symm)) hb); replace HO_419001 := am (Kd.R_below (Kd.R_elderB HO_419001.out gb424 (Nat.le_of_eq hg.symm)) hb); replace HO_419002 := am (Kd.R_below (Kd.R_elderB HO_419002.out gb424 (Nat.le_of_eq hg.symm)) hb); replace HO_419003 := am (Kd.R_below HO_419003.out hb); have BK424 := am (hbox); have GW424 := am (gw_ hg HB.out); have GE424 := am (gw_ hg HB.out); replace HB := am (below_step HB.out hb); have NB405_424 := am ((by rw [hg]; exact Nat.ne_of_lt (blk_lt (g := gb405) (o := .cells #[.int .i64 a0_0, .slice A0_1 l0_1.length c0_1, .slice A0_2 l0_2.length c0_2, .slice A0_3 l0_3.length c0_3, .int .i64 a0_4] 40 (0, 0)) BK405.out) : gb405 ≠ gb424)); have NB424_405 := am ((by rw [hg]; exact Nat.ne_of_gt (blk_lt (g := gb405) (o := .cells #[.int .i64 a0_0, .slice A0_1 l0_1.length c0_1, .slice A0_2 l0_2.length c0_2, .slice A0_3 l0_3.length c0_3, .int .i64 a0_4] 40 (0, 0)) BK405.out) : gb424 ≠ gb405)); replace BK405 := am (blk_below BK405.out hb); have NB406_424 := am ((by rw [hg]; exact Nat.ne_of_lt (blk_lt (g := gb406) (o := .cells #[.int .i64 0, .slice none 0 0, .slice none 0 0, .slice none 0 0, .int .i64 0] 40 (0, 0)) BK406.out) : gb406 ≠ gb424)); have NB424_406 := am ((by rw [hg]; exact Nat.ne_of_gt (blk_lt (g := gb406) (o := .cells #[.int .i64 0, .slice none 0 0, .slice none 0 0, .slice none 0 0, .int .i64 0] 40 (0, 0)) BK406.out) : gb424 ≠ gb406)); replace BK406 := am (blk_below BK406.out hb); have NB418_424 := am ((by rw [hg]; exact Nat.ne_of_lt (blk_lt (g := gb418) (o := .cells #[.int .i64 t407, .slice (some ad423) t408.length co15, .slice Ao16 t411.length co16, u419003, .int .i64 t417] 40 (0, 0)) BK418.out) : gb418 ≠ gb424)); have NB424_418 := am ((by rw [hg]; exact Nat.ne_of_gt (blk_lt (g := gb418) (o := .cells #[.int .i64 t407, .slice (some ad423) t408.length co15, .slice Ao16 t411.length co16, u419003, .int .i64 t417] 40 (0, 0)) BK418.out) : gb424 ≠ gb418)); replace BK418 := am (blk_below BK418.out hb); clear hb hbox hg; have hnb40 := NB424_405.out; have hnc40 := NB405_424.out; have hnb41 := NB424_406.out; have hnc41 := NB406_424.out; have hnb42 := NB424_418.out; have hnc42 := NB418_424.out; obtain ⟨hcz43_0, hcz43_1, hcz43_2, hfz43_0, hfz43_1, hfz43_2⟩ := cells3_ BK424.out) | ((with_reducible refine gate_callee (f := 180) rfl ?_); refine goesL_ (some 29) rfl rfl Try.func180 (by kernel_rfl) rfl #[.agg #[.int .i64 ((rd_T60 t408 x22_1).f0), .int .i64 ((rd_T60 t408 x22_1).f1), .int .i64 ((rd_T60 t408 x22_1).f2)], .slice A1 l1.length c1] rfl (by (try simp only [List.map_toArray, List.map_cons, List.map_nil]); rfl) ?_; (with_reducible refine (impl_CountMatches.calls k1 ((rd_T60 t408 x22_1).f0) ((rd_T60 t408 x22_1).f1) ((rd_T60 t408 x22_1).f2) _ _ l1 t425 _ ?side1 ?side2 A26.out).mono ?_); (case side1 => exact Kd.C_below HR1.out (by repeat (with_reducible first | exact HB.out | refine below_set ?_ GE424.out))); (case side2 => exact HC1.out); rintro e w44 ⟨rfl, hb⟩; refine ⟨_, rfl, ?_⟩; replace HO_7 := am (Kd.R_below (by exact (Kd.R_mono (Kd.R_far (p := ⟨gb424, 2, none⟩) (Kd.R_far (p := ⟨gb424, 1, none⟩) (Kd.R_far (p := ⟨gb424, 0, none⟩) (Kd.R_types HO_7.out BK424.out (by decide)) (fun _ hk => hk.2) (.int .i64 ((rd_T60 t408 x22_1).f0))) (fun _ hk => hk.2) (.int .i64 ((rd_T60 t408 x22_1).f1))) (fun _ hk => hk.2) (.int .i64 ((rd_T60 t408 x22_1).f2))) (fun _ h_ => h_.1))) hb); replace HO_20 := am (Kd.R_below (by exact (Kd.R_mono (Kd.R_far (p := ⟨gb424, 2, none⟩) (Kd.R_far (p := ⟨gb424, 1, none⟩) (Kd.R_far (p := ⟨gb424, 0, none⟩) (Kd.R_mono HO_20.out (fun k_ hk => (⟨hk, hk.2⟩ : _ ∧ k_ ≠ gb424))) (fun _ hk => hk.2) (.int .i64 ((rd_T60 t408 x22_1).f0))) (fun _ hk => hk.2) (.int .i64 ((rd_T60 t408 x22_1).f1))) (fun _ hk => hk.2) (.int .i64 ((rd_T60 t408 x22_1).f2))) (fun _ h_ => h_.1))) hb); replace HO_419001 := am (Kd.R_below (by exact (Kd.R_mono (Kd.R_far (p := ⟨gb424, 2, none⟩) (Kd.R_far (p := ⟨gb424, 1, none⟩) (Kd.R_far (p := ⟨gb424, 0, none⟩) (Kd.R_mono HO_419001.out (fun k_ hk => (⟨hk, hk.2⟩ : _ ∧ k_ ≠ gb424))) (fun _ hk => hk.2) (.int .i64 ((rd_T60 t408 x22_1).f0))) (fun _ hk => hk.2) (.int .i64 ((rd_T60 t408 x22_1).f1))) (fun _ hk => hk.2) (.int .i64 ((rd_T60 t408 x22_1).f2))) (fun _ h_ => h_.1))) hb); replace HO_419002 := am (Kd.R_below (by exact (Kd.R_mono (Kd.R_far (p := ⟨gb424, 2, none⟩) (Kd.R_far (p := ⟨gb424, 1, none⟩) (Kd.R_far (p := ⟨gb424, 0, none⟩) (Kd.R_mono HO_419002.out (fun k_ hk => (⟨hk, hk.2⟩ : _ ∧ k_ ≠ gb424))) (fun _ hk => hk.2) (.int .i64 ((rd_T60 t408 x22_1).f0))) (fun _ hk => hk.2) (.int .i64 ((rd_T60 t408 x22_1).f1))) (fun _ hk => hk.2) (.int .i64 ((rd_T60 t408 x22_1).f2))) (fun _ h_ => h_.1))) hb); replace HO_419003 := am (Kd.R_below (by exact (Kd.R_mono (Kd.R_far (p := ⟨gb424, 2, none⟩) (Kd.R_far (p := ⟨gb424, 1, none⟩) (Kd.R_far (p := ⟨gb424, 0, none⟩) (Kd.R_types HO_419003.out BK424.out (by decide)) (fun _ hk => hk.2) (.int .i64 ((rd_T60 t408 x22_1).f0))) (fun _ hk => hk.2) (.int .i64 ((rd_T60 t408 x22_1).f1))) (fun _ hk => hk.2) (.int .i64 ((rd_T60 t408 x22_1).f2))) (fun _ h_ => h_.1))) hb); replace BK405 := am (blk_below (g := gb405) (o := .cells #[.int .i64 a0_0, .slice A0_1 l0_1.length c0_1, .slice A0_2 l0_2.length c0_2, .slice A0_3 l0_3.length c0_3, .int .i64 a0_4] 40 (0, 0)) (by refine blk_far ?_ NB405_424.out _; refine blk_far ?_ NB405_424.out _; refine blk_far ?_ NB405_424.out _; exact BK405.out) hb); replace BK406 := am (blk_below (g := gb406) (o := .cells #[.int .i64 0, .slice none 0 0, .slice none 0 0, .slice none 0 0, .int .i64 0] 40 (0, 0)) (by refine blk_far ?_ NB406_424.out _; refine blk_far ?_ NB406_424.out _; refine blk_far ?_ NB406_424.out _; exact BK406.out) hb); replace BK418 := am (blk_below (g := gb418) (o := .cells #[.int .i64 t407, .slice (some ad423) t408.length co15, .slice Ao16 t411.length co16, u419003, .int .i64 t417] 40 (0, 0)) (by refine blk_far ?_ NB418_424.out _; refine blk_far ?_ NB418_424.out _; refine blk_far ?_ NB418_424.out _; exact BK418.out) hb); replace BK424 := am (blk_below (g := gb424) (o := .cells #[.int .i64 ((rd_T60 t408 x22_1).f0), .int .i64 ((rd_T60 t408 x22_1).f1), .int .i64 ((rd_T60 t408 x22_1).f2)] 60 (0, 0)) (by refine blk_put (cs := #[.int .i64 ((rd_T60 t408 x22_1).f0), .int .i64 ((rd_T60 t408 x22_1).f1), .int .i64 0]) ?_ 2 _ rfl; refine blk_put (cs := #[.int .i64 ((rd_T60 t408 x22_1).f0), .int .i64 0, .int .i64 0]) ?_ 1 _ rfl; refine blk_put (cs := #[.int .i64 0, .int .i64 0, .int .i64 0]) ?_ 0 _ rfl; exact BK424.out) hb); replace HB := am (below_step (by repeat (with_reducible first | exact HB.out | refine below_set ?_ GE424.out)) hb); (try clear hb); have hnb45 := NB418_405.out; have hnc45 := NB405_418.out; have hnb46 := NB418_406.out; have hnc46 := NB406_418.out; obtain ⟨hcz47_0, hcz47_1, hcz47_2, hcz47_3, hcz47_4, hfz47_0, hfz47_1, hfz47_2, hfz47_3, hfz47_4⟩ := cells5_ BK418.out; obtain ⟨Ao48, co48, eo48⟩ := Kd.R_slice HO_419003.out; subst eo48; have p426 : 0 ≤ (x22_1 : Int) := of_decide_eq_true (by (with_reducible assumption)); have q426 : x22_1 < (x419003_1.length : Int) := of_decide_eq_true (by (with_reducible assumption)); obtain ⟨ad426, e426, hx426_0⟩ := Kd.at_bool (Kd.R_reads' HO_419003.out).2.2 x22_1 p426 q426; (try rw [← Nbq36.out] at hx426_0); cases e426; replace p426 := eq_true p426; replace q426 := eq_true q426; have p38 : 0 ≤ (x22_1 : Int) := of_decide_eq_true (by (with_reducible assumption)); have q38 : (x22_1 : Int) < ((x419003_1.length : Int) : Int) := of_decide_eq_true (by (with_reducible assumption)); obtain ⟨go38, co38, eo38, gb38, gl38, cl38, HG38⟩ := Kd.R_form HO_419003.out (by omega); (cases eo38); have GB38 := am gb38; have GG38 := am HG38; clear gb38 gl38 HG38; (simp only [add_plain] at hx426_0); obtain ⟨hx38_0, hf38_0⟩ := Kd.R_celln false HO_419003.out (x22_1 : Int) p38 q38; replace p38 := eq_true p38; replace q38 := eq_true q38; obtain ⟨hy49_, hz49_⟩ := Kd.R_celln false HO_419003.out (x22_1 : Int) (of_decide_eq_true (by (with_reducible assumption))) (of_decide_eq_true (by (with_reducible assumption))); have HP49 := Kd.R_putg HO_419003.out (x22_1 : Int) true) | ((with_reducible refine gate_store (t := 4) (p := 70) rfl ?_); refine store_event (t := 4) (p := 70) (v := ?vo_w50) (w1 := (w44.setCell ⟨go38, (x22_1 : Int).toNat, none⟩ (.bool true))) ?hg ?ho ?hn ?hr ?_; (case ho => rfl); (case hg => rfl); (case hn => rfl); (case hr => (go_simp; done)); intro w50 hw; have hg : w44.grownBy w50 (some go38) := (by rw [hw]; exact HP49.2); have hp_ : Kd.R Kd.bool 4 w50 w.heap.size (fun _ => True) (.slice (some ⟨go38, 0, none⟩) x419003_1.length co48) y427 := (by rw [hw, Ny427.out]; exact HP49.1); clear HP49; replace HO_7 := am (Kd.R_over' (v := (.slice (some ⟨go38, 0, none⟩) x419003_1.length co48)) HO_7.out (Kd.R_typed HO_419003.out) (by decide) hg); replace HO_20 := am (Kd.R_over' (v := (.slice (some ⟨go38, 0, none⟩) x419003_1.length co48)) HO_20.out (Kd.R_typed HO_419003.out) (by decide) hg); replace HO_419001 := am (Kd.R_over' (v := (.slice (some ⟨go38, 0, none⟩) x419003_1.length co48)) HO_419001.out (Kd.R_typed HO_419003.out) (by decide) hg); replace HO_419002 := am (Kd.R_over' (v := (.slice (some ⟨go38, 0, none⟩) x419003_1.length co48)) HO_419002.out (Kd.R_typed HO_419003.out) (by decide) hg); replace BK405 := am (blk_grown BK405.out hg (Kd.R_ne HO_419003.out BK405.out (by decide))); replace BK406 := am (blk_grown BK406.out hg (Kd.R_ne HO_419003.out BK406.out (by decide))); replace BK418 := am (blk_grown BK418.out hg (Kd.R_ne HO_419003.out BK418.out (by decide))); replace BK424 := am (blk_grown BK424.out hg (Kd.R_ne HO_419003.out BK424.out (by decide))); replace HO_419003 := am (hp_); replace HB := am (by rw [hw]; exact below_set HB.out GB38.out : Below w.heap.size w w50); clear hg hw hp_))
           go_roundg k1
           case measure => have := HK1.out; omega
           case rel => exact ⟨(x7_1), (wrap64 (x22_1 + 1)), (y427), (.slice (some ⟨go38, 0, none⟩) x419003_1.length co48), rfl, H', ⟨by have := HK1.out; omega⟩, ⟨HO_7.out⟩, ⟨by exact Kd.R_mono HO_20.out (fun _ hk => hk.1)⟩, ⟨by exact Kd.R_mono HO_419001.out (fun _ hk => hk.1)⟩, ⟨by exact Kd.R_mono HO_419002.out (fun _ hk => ⟨hk.1.1, hk.1.2⟩)⟩, ⟨HO_419003.out⟩, ⟨BK405.out⟩, ⟨BK406.out⟩, ⟨BK418.out⟩, ⟨HB.out⟩⟩
          ·replace c37 := Bool.eq_false_iff.mpr c37
           subst c37
           rw [if_neg (show ¬ (false = true) by decide)] at H
           by_cases c51 : x7_1.length < 2513169434916
           ·rw [if_pos c51] at H
            have LMc51 := am c51
            clear c51
            obtain ⟨y428, hy428⟩ : ∃ y_ : List (S128), y_ = (x7_1 ++ [(⟨(⟨(rd_T60 t408 x22_1).f0, (rd_T60 t408 x22_1).f1, (rd_T60 t408 x22_1).f2⟩ : S60), (⟨0, 0, 0⟩ : S60), false⟩ : S128)]) := ⟨_, rfl⟩
            replace H : (impl_JoinChunk.l0 k1 l1 y428 t408 (t408.length : Int) (wrap64 (x22_1 + 1)) t407 t408 t411 (x419003_1.set (x22_1 : Int).toNat true) t417) = some (r1, r2, r3, r4, r5, r6) := by (rw [hy428]; with_reducible exact H)
            have Ny428 := am hy428
            clear hy428
            obtain ⟨y431, hy431⟩ : ∃ y_ : List Bool, y_ = (x419003_1.set (x22_1 : Int).toNat true) := ⟨_, rfl⟩
            replace H : (impl_JoinChunk.l0 k1 l1 y428 t408 (t408.length : Int) (wrap64 (x22_1 + 1)) t407 t408 t411 y431 t417) = some (r1, r2, r3, r4, r5, r6) := by (rw [hy431]; with_reducible exact H)
            have Ny431 := am hy431
            clear hy431
            have H' := am H
            clear H
            have p423 : 0 ≤ (x22_1 : Int) := of_decide_eq_true (by (with_reducible assumption))
            have q423 : x22_1 < (t408.length : Int) := of_decide_eq_true (by (with_reducible assumption))
            obtain ⟨ad423, e423, hx423_0, hx423_1, hx423_2⟩ := at_T60 (Kd.R_reads' HO_20.out).2.2 x22_1 p423 q423
            cases e423
            replace p423 := eq_true p423
            replace q423 := eq_true q423
            go_wp2_with (first | ((with_reducible refine gate_dst (N := 9) rfl ?_); refine box_event ?hg (N := 9) ?hd (cs := #[.int .i64 0, .int .i64 0, .int .i64 0]) (t := 60) ?hr ?_; (case hd => rfl); (case hg => rfl); (case hr => (go_simp; done)); intro gb424 hg w53 hbox hb; replace HO_7 := am (Kd.R_below HO_7.out hb); replace HO_20 := am (Kd.R_below (Kd.R_elderB HO_20.out gb424 (Nat.le_of_eq hg.symm)) hb); replace HO_419001 := am (Kd.R_below (Kd.R_elderB HO_419001.out gb424 (Nat.le_of_eq hg.symm)) hb); replace HO_419002 := am (Kd.R_below (Kd.R_elderB HO_419002.out gb424 (Nat.le_of_eq hg.symm)) hb); replace HO_419003 := am (Kd.R_below HO_419003.out hb); have BK424 := am (hbox); have GW424 := am (gw_ hg HB.out); have GE424 := am (gw_ hg HB.out); replace HB := am (below_step HB.out hb); have NB405_424 := am ((by rw [hg]; exact Nat.ne_of_lt (blk_lt (g := gb405) (o := .cells #[.int .i64 a0_0, .slice A0_1 l0_1.length c0_1, .slice A0_2 l0_2.length c0_2, .slice A0_3 l0_3.length c0_3, .int .i64 a0_4] 40 (0, 0)) BK405.out) : gb405 ≠ gb424)); have NB424_405 := am ((by rw [hg]; exact Nat.ne_of_gt (blk_lt (g := gb405) (o := .cells #[.int .i64 a0_0, .slice A0_1 l0_1.length c0_1, .slice A0_2 l0_2.length c0_2, .slice A0_3 l0_3.length c0_3, .int .i64 a0_4] 40 (0, 0)) BK405.out) : gb424 ≠ gb405)); replace BK405 := am (blk_below BK405.out hb); have NB406_424 := am ((by rw [hg]; exact Nat.ne_of_lt (blk_lt (g := gb406) (o := .cells #[.int .i64 0, .slice none 0 0, .slice none 0 0, .slice none 0 0, .int .i64 0] 40 (0, 0)) BK406.out) : gb406 ≠ gb424)); have NB424_406 := am ((by rw [hg]; exact Nat.ne_of_gt (blk_lt (g := gb406) (o := .cells #[.int .i64 0, .slice none 0 0, .slice none 0 0, .slice none 0 0, .int .i64 0] 40 (0, 0)) BK406.out) : gb424 ≠ gb406)); replace BK406 := am (blk_below BK406.out hb); have NB418_424 := am ((by rw [hg]; exact Nat.ne_of_lt (blk_lt (g := gb418) (o := .cells #[.int .i64 t407, .slice (some ad423) t408.length co15, .slice Ao16 t411.length co16, u419003, .int .i64 t417] 40 (0, 0)) BK418.out) : gb418 ≠ gb424)); have NB424_418 := am ((by rw [hg]; exact Nat.ne_of_gt (blk_lt (g := gb418) (o := .cells #[.int .i64 t407, .slice (some ad423) t408.length co15, .slice Ao16 t411.length co16, u419003, .int .i64 t417] 40 (0, 0)) BK418.out) : gb424 ≠ gb418)); replace BK418 := am (blk_below BK418.out hb); clear hb hbox hg; have hnb54 := NB424_405.out; have hnc54 := NB405_424.out; have hnb55 := NB424_406.out; have hnc55 := NB406_424.out; have hnb56 := NB424_418.out; have hnc56 := NB418_424.out; obtain ⟨hcz57_0, hcz57_1, hcz57_2, hfz57_0, hfz57_1, hfz57_2⟩ := cells3_ BK424.out) | ((with_reducible refine gate_callee (f := 180) rfl ?_); refine goesL_ (some 29) rfl rfl Try.func180 (by kernel_rfl) rfl #[.agg #[.int .i64 ((rd_T60 t408 x22_1).f0), .int .i64 ((rd_T60 t408 x22_1).f1), .int .i64 ((rd_T60 t408 x22_1).f2)], .slice A1 l1.length c1] rfl (by (try simp only [List.map_toArray, List.map_cons, List.map_nil]); rfl) ?_; (with_reducible refine (impl_CountMatches.calls k1 ((rd_T60 t408 x22_1).f0) ((rd_T60 t408 x22_1).f1) ((rd_T60 t408 x22_1).f2) _ _ l1 t425 _ ?side1 ?side2 A26.out).mono ?_); (case side1 => exact Kd.C_below HR1.out (by repeat (with_reducible first | exact HB.out | refine below_set ?_ GE424.out))); (case side2 => exact HC1.out); rintro e w58 ⟨rfl, hb⟩; refine ⟨_, rfl, ?_⟩; replace HO_7 := am (Kd.R_below (by exact (Kd.R_mono (Kd.R_far (p := ⟨gb424, 2, none⟩) (Kd.R_far (p := ⟨gb424, 1, none⟩) (Kd.R_far (p := ⟨gb424, 0, none⟩) (Kd.R_types HO_7.out BK424.out (by decide)) (fun _ hk => hk.2) (.int .i64 ((rd_T60 t408 x22_1).f0))) (fun _ hk => hk.2) (.int .i64 ((rd_T60 t408 x22_1).f1))) (fun _ hk => hk.2) (.int .i64 ((rd_T60 t408 x22_1).f2))) (fun _ h_ => h_.1))) hb); replace HO_20 := am (Kd.R_below (by exact (Kd.R_mono (Kd.R_far (p := ⟨gb424, 2, none⟩) (Kd.R_far (p := ⟨gb424, 1, none⟩) (Kd.R_far (p := ⟨gb424, 0, none⟩) (Kd.R_mono HO_20.out (fun k_ hk => (⟨hk, hk.2⟩ : _ ∧ k_ ≠ gb424))) (fun _ hk => hk.2) (.int .i64 ((rd_T60 t408 x22_1).f0))) (fun _ hk => hk.2) (.int .i64 ((rd_T60 t408 x22_1).f1))) (fun _ hk => hk.2) (.int .i64 ((rd_T60 t408 x22_1).f2))) (fun _ h_ => h_.1))) hb); replace HO_419001 := am (Kd.R_below (by exact (Kd.R_mono (Kd.R_far (p := ⟨gb424, 2, none⟩) (Kd.R_far (p := ⟨gb424, 1, none⟩) (Kd.R_far (p := ⟨gb424, 0, none⟩) (Kd.R_mono HO_419001.out (fun k_ hk => (⟨hk, hk.2⟩ : _ ∧ k_ ≠ gb424))) (fun _ hk => hk.2) (.int .i64 ((rd_T60 t408 x22_1).f0))) (fun _ hk => hk.2) (.int .i64 ((rd_T60 t408 x22_1).f1))) (fun _ hk => hk.2) (.int .i64 ((rd_T60 t408 x22_1).f2))) (fun _ h_ => h_.1))) hb); replace HO_419002 := am (Kd.R_below (by exact (Kd.R_mono (Kd.R_far (p := ⟨gb424, 2, none⟩) (Kd.R_far (p := ⟨gb424, 1, none⟩) (Kd.R_far (p := ⟨gb424, 0, none⟩) (Kd.R_mono HO_419002.out (fun k_ hk => (⟨hk, hk.2⟩ : _ ∧ k_ ≠ gb424))) (fun _ hk => hk.2) (.int .i64 ((rd_T60 t408 x22_1).f0))) (fun _ hk => hk.2) (.int .i64 ((rd_T60 t408 x22_1).f1))) (fun _ hk => hk.2) (.int .i64 ((rd_T60 t408 x22_1).f2))) (fun _ h_ => h_.1))) hb); replace HO_419003 := am (Kd.R_below (by exact (Kd.R_mono (Kd.R_far (p := ⟨gb424, 2, none⟩) (Kd.R_far (p := ⟨gb424, 1, none⟩) (Kd.R_far (p := ⟨gb424, 0, none⟩) (Kd.R_types HO_419003.out BK424.out (by decide)) (fun _ hk => hk.2) (.int .i64 ((rd_T60 t408 x22_1).f0))) (fun _ hk => hk.2) (.int .i64 ((rd_T60 t408 x22_1).f1))) (fun _ hk => hk.2) (.int .i64 ((rd_T60 t408 x22_1).f2))) (fun _ h_ => h_.1))) hb); replace BK405 := am (blk_below (g := gb405) (o := .cells #[.int .i64 a0_0, .slice A0_1 l0_1.length c0_1, .slice A0_2 l0_2.length c0_2, .slice A0_3 l0_3.length c0_3, .int .i64 a0_4] 40 (0, 0)) (by refine blk_far ?_ NB405_424.out _; refine blk_far ?_ NB405_424.out _; refine blk_far ?_ NB405_424.out _; exact BK405.out) hb); replace BK406 := am (blk_below (g := gb406) (o := .cells #[.int .i64 0, .slice none 0 0, .slice none 0 0, .slice none 0 0, .int .i64 0] 40 (0, 0)) (by refine blk_far ?_ NB406_424.out _; refine blk_far ?_ NB406_424.out _; refine blk_far ?_ NB406_424.out _; exact BK406.out) hb); replace BK418 := am (blk_below (g := gb418) (o := .cells #[.int .i64 t407, .slice (some ad423) t408.length co15, .slice Ao16 t411.length co16, u419003, .int .i64 t417] 40 (0, 0)) (by refine blk_far ?_ NB418_424.out _; refine blk_far ?_ NB418_424.out _; refine blk_far ?_ NB418_424.out _; exact BK418.out) hb); replace BK424 := am (blk_below (g := gb424) (o := .cells #[.int .i64 ((rd_T60 t408 x22_1).f0), .int .i64 ((rd_T60 t408 x22_1).f1), .int .i64 ((rd_T60 t408 x22_1).f2)] 60 (0, 0)) (by refine blk_put (cs := #[.int .i64 ((rd_T60 t408 x22_1).f0), .int .i64 ((rd_T60 t408 x22_1).f1), .int .i64 0]) ?_ 2 _ rfl; refine blk_put (cs := #[.int .i64 ((rd_T60 t408 x22_1).f0), .int .i64 0, .int .i64 0]) ?_ 1 _ rfl; refine blk_put (cs := #[.int .i64 0, .int .i64 0, .int .i64 0]) ?_ 0 _ rfl; exact BK424.out) hb); replace HB := am (below_step (by repeat (with_reducible first | exact HB.out | refine below_set ?_ GE424.out)) hb); (try clear hb); have hnb59 := NB418_405.out; have hnc59 := NB405_418.out; have hnb60 := NB418_406.out; have hnc60 := NB406_418.out; obtain ⟨hcz61_0, hcz61_1, hcz61_2, hcz61_3, hcz61_4, hfz61_0, hfz61_1, hfz61_2, hfz61_3, hfz61_4⟩ := cells5_ BK418.out; obtain ⟨Ao62, co62, eo62⟩ := Kd.R_slice HO_419003.out; subst eo62; have p426 : 0 ≤ (x22_1 : Int) := of_decide_eq_true (by (with_reducible assumption)); have q426 : x22_1 < (x419003_1.length : Int) := of_decide_eq_true (by (with_reducible assumption)); obtain ⟨ad426, e426, hx426_0⟩ := Kd.at_bool (Kd.R_reads' HO_419003.out).2.2 x22_1 p426 q426; (try rw [← Nbq36.out] at hx426_0); cases e426; replace p426 := eq_true p426; replace q426 := eq_true q426; obtain ⟨hcz63_0, hcz63_1, hcz63_2, hfz63_0, hfz63_1, hfz63_2⟩ := cells3_ BK424.out) | ((with_reducible refine gate_builtin (b := .append) (xs := #[.tmp 41, .tmp 44]) rfl ?_); at_builtin; refine Kd.R_append k128 (w0 := w) w.heap.size rfl (.tmp 41) (.tmp 44) 33 128 (.agg #[(.int .i64 0), (.int .i64 0), (.int .i64 0), (.int .i64 0), (.int .i64 0), (.int .i64 0), (.bool false)]) 56 rfl Try.underlying33 info128 rfl (by decide) (by omega) u7 x7_1 (⟨(⟨(rd_T60 t408 x22_1).f0, (rd_T60 t408 x22_1).f1, (rd_T60 t408 x22_1).f2⟩ : S60), (⟨0, 0, 0⟩ : S60), false⟩ : S128) [.int .i64 ((rd_T60 t408 x22_1).f0), .int .i64 ((rd_T60 t408 x22_1).f1), .int .i64 ((rd_T60 t408 x22_1).f2), .int .i64 0, .int .i64 0, .int .i64 0, .bool false] (fun _ => True) (fun _ => False) rfl rfl ?aP (fun _ hk => hk.elim) ?aF ?aO ?aB ?aS ?aL ?_; (case aP => exact k128_mkM _ _ _ (⟨(⟨(rd_T60 t408 x22_1).f0, (rd_T60 t408 x22_1).f1, (rd_T60 t408 x22_1).f2⟩ : S60), (⟨0, 0, 0⟩ : S60), false⟩ : S128)); (case aB => exact HB.out); (case aF => exact (fun _ _ => trivial)); (case aO => exact HO_7.out); (case aS => exact (below_size HB.out)); (case aL => have := LMc51.out; omega); intro v429 w64 ho hb hg hat; rw [← Ny428.out] at ho; replace HO_20 := am (Kd.R_over' HO_20.out (Kd.R_typed HO_7.out) (by decide) hg); replace HO_419001 := am (Kd.R_over' HO_419001.out (Kd.R_typed HO_7.out) (by decide) hg); replace HO_419002 := am (Kd.R_over' HO_419002.out (Kd.R_typed HO_7.out) (by decide) hg); replace HO_419003 := am (Kd.R_over' HO_419003.out (Kd.R_typed HO_7.out) (by decide) hg); replace BK405 := am (blk_grown BK405.out hg (Kd.R_ne HO_7.out BK405.out (by decide))); replace BK406 := am (blk_grown BK406.out hg (Kd.R_ne HO_7.out BK406.out (by decide))); replace BK418 := am (blk_grown BK418.out hg (Kd.R_ne HO_7.out BK418.out (by decide))); replace BK424 := am (blk_grown BK424.out hg (Kd.R_ne HO_7.out BK424.out (by decide))); replace HB := am (hb); have HO430 := am (ho); clear HO_7 ho hb hg hat; obtain ⟨hcz65_0, hcz65_1, hcz65_2, hcz65_3, hcz65_4, hfz65_0, hfz65_1, hfz65_2, hfz65_3, hfz65_4⟩ := cells5_ BK418.out; have p52 : 0 ≤ (x22_1 : Int) := of_decide_eq_true (by (with_reducible assumption)); have q52 : (x22_1 : Int) < ((x419003_1.length : Int) : Int) := of_decide_eq_true (by (with_reducible assumption)); obtain ⟨go52, co52, eo52, gb52, gl52, cl52, HG52⟩ := Kd.R_form HO_419003.out (by omega); (cases eo52); have GB52 := am gb52; have GG52 := am HG52; clear gb52 gl52 HG52; (simp only [add_plain] at hx426_0); obtain ⟨hx52_0, hf52_0⟩ := Kd.R_celln false HO_419003.out (x22_1 : Int) p52 q52; replace p52 := eq_true p52; replace q52 := eq_true q52; obtain ⟨hy66_, hz66_⟩ := Kd.R_celln false HO_419003.out (x22_1 : Int) (of_decide_eq_true (by (with_reducible assumption))) (of_decide_eq_true (by (with_reducible assumption))); have HP66 := Kd.R_putg HO_419003.out (x22_1 : Int) true) | ((with_reducible refine gate_store (t := 4) (p := 70) rfl ?_); refine store_event (t := 4) (p := 70) (v := ?vo_w67) (w1 := (w64.setCell ⟨go52, (x22_1 : Int).toNat, none⟩ (.bool true))) ?hg ?ho ?hn ?hr ?_; (case ho => rfl); (case hg => rfl); (case hn => rfl); (case hr => (go_simp; done)); intro w67 hw; have hg : w64.grownBy w67 (some go52) := (by rw [hw]; exact HP66.2); have hp_ : Kd.R Kd.bool 4 w67 w.heap.size (fun _ => True) (.slice (some ⟨go52, 0, none⟩) x419003_1.length co62) y431 := (by rw [hw, Ny431.out]; exact HP66.1); clear HP66; replace HO_20 := am (Kd.R_over' (v := (.slice (some ⟨go52, 0, none⟩) x419003_1.length co62)) HO_20.out (Kd.R_typed HO_419003.out) (by decide) hg); replace HO_419001 := am (Kd.R_over' (v := (.slice (some ⟨go52, 0, none⟩) x419003_1.length co62)) HO_419001.out (Kd.R_typed HO_419003.out) (by decide) hg); replace HO_419002 := am (Kd.R_over' (v := (.slice (some ⟨go52, 0, none⟩) x419003_1.length co62)) HO_419002.out (Kd.R_typed HO_419003.out) (by decide) hg); replace BK405 := am (blk_grown BK405.out hg (Kd.R_ne HO_419003.out BK405.out (by decide))); replace BK406 := am (blk_grown BK406.out hg (Kd.R_ne HO_419003.out BK406.out (by decide))); replace BK418 := am (blk_grown BK418.out hg (Kd.R_ne HO_419003.out BK418.out (by decide))); replace BK424 := am (blk_grown BK424.out hg (Kd.R_ne HO_419003.out BK424.out (by decide))); replace HO430 := am (Kd.R_over' (v := (.slice (some ⟨go52, 0, none⟩) x419003_1.length co62)) HO430.out (Kd.R_typed HO_419003.out) (by decide) hg); replace HO_419003 := am (hp_); replace HB := am (by rw [hw]; exact below_set HB.out GB52.out : Below w.heap.size w w67); clear hg hw hp_))
            go_roundg k1
            case measure => have := HK1.out; omega
            case rel => exact ⟨(y428), (wrap64 (x22_1 + 1)), (y431), (.slice (some ⟨go52, 0, none⟩) x419003_1.length co62), rfl, H', ⟨by have := HK1.out; omega⟩, ⟨HO430.out⟩, ⟨by exact Kd.R_mono HO_20.out (fun _ hk => hk.1)⟩, ⟨by exact Kd.R_mono HO_419001.out (fun _ hk => hk.1)⟩, ⟨by exact Kd.R_mono HO_419002.out (fun _ hk => ⟨hk.1.1, hk.1.2⟩)⟩, ⟨HO_419003.out⟩, ⟨BK405.out⟩, ⟨BK406.out⟩, ⟨BK418.out⟩, ⟨HB.out⟩⟩
           ·rw [if_neg c51] at H
            exact absurd H (by simp)
         ·rw [if_neg c35] at H
          exact absurd H (by simp)
        ·rw [if_neg c34] at H
         have c34b0 : (t407 == 2) = false := beq_eq_false_iff_ne.mpr c34
         have c34b1 : (t407 != 2) = true := bne_iff_ne.mpr c34
         have HC68 := am H
         clear H
         have p423 : 0 ≤ (x22_1 : Int) := of_decide_eq_true (by (with_reducible assumption))
         have q423 : x22_1 < (t408.length : Int) := of_decide_eq_true (by (with_reducible assumption))
         obtain ⟨ad423, e423, hx423_0, hx423_1, hx423_2⟩ := at_T60 (Kd.R_reads' HO_20.out).2.2 x22_1 p423 q423
         cases e423
         replace p423 := eq_true p423
         replace q423 := eq_true q423
         go_upto_if 46 with (first | ((with_reducible refine gate_dst (N := 9) rfl ?_); refine box_event ?hg (N := 9) ?hd (cs := #[.int .i64 0, .int .i64 0, .int .i64 0]) (t := 60) ?hr ?_; (case hd => rfl); (case hg => rfl); (case hr => (go_simp; done)); intro gb424 hg w69 hbox hb; replace HO_7 := am (Kd.R_below HO_7.out hb); replace HO_20 := am (Kd.R_below (Kd.R_elderB HO_20.out gb424 (Nat.le_of_eq hg.symm)) hb); replace HO_419001 := am (Kd.R_below (Kd.R_elderB HO_419001.out gb424 (Nat.le_of_eq hg.symm)) hb); replace HO_419002 := am (Kd.R_below (Kd.R_elderB HO_419002.out gb424 (Nat.le_of_eq hg.symm)) hb); replace HO_419003 := am (Kd.R_below HO_419003.out hb); have BK424 := am (hbox); have GW424 := am (gw_ hg HB.out); have GE424 := am (gw_ hg HB.out); replace HB := am (below_step HB.out hb); have NB405_424 := am ((by rw [hg]; exact Nat.ne_of_lt (blk_lt (g := gb405) (o := .cells #[.int .i64 a0_0, .slice A0_1 l0_1.length c0_1, .slice A0_2 l0_2.length c0_2, .slice A0_3 l0_3.length c0_3, .int .i64 a0_4] 40 (0, 0)) BK405.out) : gb405 ≠ gb424)); have NB424_405 := am ((by rw [hg]; exact Nat.ne_of_gt (blk_lt (g := gb405) (o := .cells #[.int .i64 a0_0, .slice A0_1 l0_1.length c0_1, .slice A0_2 l0_2.length c0_2, .slice A0_3 l0_3.length c0_3, .int .i64 a0_4] 40 (0, 0)) BK405.out) : gb424 ≠ gb405)); replace BK405 := am (blk_below BK405.out hb); have NB406_424 := am ((by rw [hg]; exact Nat.ne_of_lt (blk_lt (g := gb406) (o := .cells #[.int .i64 0, .slice none 0 0, .slice none 0 0, .slice none 0 0, .int .i64 0] 40 (0, 0)) BK406.out) : gb406 ≠ gb424)); have NB424_406 := am ((by rw [hg]; exact Nat.ne_of_gt (blk_lt (g := gb406) (o := .cells #[.int .i64 0, .slice none 0 0, .slice none 0 0, .slice none 0 0, .int .i64 0] 40 (0, 0)) BK406.out) : gb424 ≠ gb406)); replace BK406 := am (blk_below BK406.out hb); have NB418_424 := am ((by rw [hg]; exact Nat.ne_of_lt (blk_lt (g := gb418) (o := .cells #[.int .i64 t407, .slice (some ad423) t408.length co15, .slice Ao16 t411.length co16, u419003, .int .i64 t417] 40 (0, 0)) BK418.out) : gb418 ≠ gb424)); have NB424_418 := am ((by rw [hg]; exact Nat.ne_of_gt (blk_lt (g := gb418) (o := .cells #[.int .i64 t407, .slice (some ad423) t408.length co15, .slice Ao16 t411.length co16, u419003, .int .i64 t417] 40 (0, 0)) BK418.out) : gb424 ≠ gb418)); replace BK418 := am (blk_below BK418.out hb); clear hb hbox hg; have hnb70 := NB424_405.out; have hnc70 := NB405_424.out; have hnb71 := NB424_406.out; have hnc71 := NB406_424.out; have hnb72 := NB424_418.out; have hnc72 := NB418_424.out; obtain ⟨hcz73_0, hcz73_1, hcz73_2, hfz73_0, hfz73_1, hfz73_2⟩ := cells3_ BK424.out) | ((with_reducible refine gate_callee (f := 180) rfl ?_); refine goesL_ (some 29) rfl rfl Try.func180 (by kernel_rfl) rfl #[.agg #[.int .i64 ((rd_T60 t408 x22_1).f0), .int .i64 ((rd_T60 t408 x22_1).f1), .int .i64 ((rd_T60 t408 x22_1).f2)], .slice A1 l1.length c1] rfl (by (try simp only [List.map_toArray, List.map_cons, List.map_nil]); rfl) ?_; (with_reducible refine (impl_CountMatches.calls k1 ((rd_T60 t408 x22_1).f0) ((rd_T60 t408 x22_1).f1) ((rd_T60 t408 x22_1).f2) _ _ l1 t425 _ ?side1 ?side2 A26.out).mono ?_); (case side1 => exact Kd.C_below HR1.out (by repeat (with_reducible first | exact HB.out | refine below_set ?_ GE424.out))); (case side2 => exact HC1.out); rintro e w74 ⟨rfl, hb⟩; refine ⟨_, rfl, ?_⟩; replace HO_7 := am (Kd.R_below (by exact (Kd.R_mono (Kd.R_far (p := ⟨gb424, 2, none⟩) (Kd.R_far (p := ⟨gb424, 1, none⟩) (Kd.R_far (p := ⟨gb424, 0, none⟩) (Kd.R_types HO_7.out BK424.out (by decide)) (fun _ hk => hk.2) (.int .i64 ((rd_T60 t408 x22_1).f0))) (fun _ hk => hk.2) (.int .i64 ((rd_T60 t408 x22_1).f1))) (fun _ hk => hk.2) (.int .i64 ((rd_T60 t408 x22_1).f2))) (fun _ h_ => h_.1))) hb); replace HO_20 := am (Kd.R_below (by exact (Kd.R_mono (Kd.R_far (p := ⟨gb424, 2, none⟩) (Kd.R_far (p := ⟨gb424, 1, none⟩) (Kd.R_far (p := ⟨gb424, 0, none⟩) (Kd.R_mono HO_20.out (fun k_ hk => (⟨hk, hk.2⟩ : _ ∧ k_ ≠ gb424))) (fun _ hk => hk.2) (.int .i64 ((rd_T60 t408 x22_1).f0))) (fun _ hk => hk.2) (.int .i64 ((rd_T60 t408 x22_1).f1))) (fun _ hk => hk.2) (.int .i64 ((rd_T60 t408 x22_1).f2))) (fun _ h_ => h_.1))) hb); replace HO_419001 := am (Kd.R_below (by exact (Kd.R_mono (Kd.R_far (p := ⟨gb424, 2, none⟩) (Kd.R_far (p := ⟨gb424, 1, none⟩) (Kd.R_far (p := ⟨gb424, 0, none⟩) (Kd.R_mono HO_419001.out (fun k_ hk => (⟨hk, hk.2⟩ : _ ∧ k_ ≠ gb424))) (fun _ hk => hk.2) (.int .i64 ((rd_T60 t408 x22_1).f0))) (fun _ hk => hk.2) (.int .i64 ((rd_T60 t408 x22_1).f1))) (fun _ hk => hk.2) (.int .i64 ((rd_T60 t408 x22_1).f2))) (fun _ h_ => h_.1))) hb); replace HO_419002 := am (Kd.R_below (by exact (Kd.R_mono (Kd.R_far (p := ⟨gb424, 2, none⟩) (Kd.R_far (p := ⟨gb424, 1, none⟩) (Kd.R_far (p := ⟨gb424, 0, none⟩) (Kd.R_mono HO_419002.out (fun k_ hk => (⟨hk, hk.2⟩ : _ ∧ k_ ≠ gb424))) (fun _ hk => hk.2) (.int .i64 ((rd_T60 t408 x22_1).f0))) (fun _ hk => hk.2) (.int .i64 ((rd_T60 t408 x22_1).f1))) (fun _ hk => hk.2) (.int .i64 ((rd_T60 t408 x22_1).f2))) (fun _ h_ => h_.1))) hb); replace HO_419003 := am (Kd.R_below (by exact (Kd.R_mono (Kd.R_far (p := ⟨gb424, 2, none⟩) (Kd.R_far (p := ⟨gb424, 1, none⟩) (Kd.R_far (p := ⟨gb424, 0, none⟩) (Kd.R_types HO_419003.out BK424.out (by decide)) (fun _ hk => hk.2) (.int .i64 ((rd_T60 t408 x22_1).f0))) (fun _ hk => hk.2) (.int .i64 ((rd_T60 t408 x22_1).f1))) (fun _ hk => hk.2) (.int .i64 ((rd_T60 t408 x22_1).f2))) (fun _ h_ => h_.1))) hb); replace BK405 := am (blk_below (g := gb405) (o := .cells #[.int .i64 a0_0, .slice A0_1 l0_1.length c0_1, .slice A0_2 l0_2.length c0_2, .slice A0_3 l0_3.length c0_3, .int .i64 a0_4] 40 (0, 0)) (by refine blk_far ?_ NB405_424.out _; refine blk_far ?_ NB405_424.out _; refine blk_far ?_ NB405_424.out _; exact BK405.out) hb); replace BK406 := am (blk_below (g := gb406) (o := .cells #[.int .i64 0, .slice none 0 0, .slice none 0 0, .slice none 0 0, .int .i64 0] 40 (0, 0)) (by refine blk_far ?_ NB406_424.out _; refine blk_far ?_ NB406_424.out _; refine blk_far ?_ NB406_424.out _; exact BK406.out) hb); replace BK418 := am (blk_below (g := gb418) (o := .cells #[.int .i64 t407, .slice (some ad423) t408.length co15, .slice Ao16 t411.length co16, u419003, .int .i64 t417] 40 (0, 0)) (by refine blk_far ?_ NB418_424.out _; refine blk_far ?_ NB418_424.out _; refine blk_far ?_ NB418_424.out _; exact BK418.out) hb); replace BK424 := am (blk_below (g := gb424) (o := .cells #[.int .i64 ((rd_T60 t408 x22_1).f0), .int .i64 ((rd_T60 t408 x22_1).f1), .int .i64 ((rd_T60 t408 x22_1).f2)] 60 (0, 0)) (by refine blk_put (cs := #[.int .i64 ((rd_T60 t408 x22_1).f0), .int .i64 ((rd_T60 t408 x22_1).f1), .int .i64 0]) ?_ 2 _ rfl; refine blk_put (cs := #[.int .i64 ((rd_T60 t408 x22_1).f0), .int .i64 0, .int .i64 0]) ?_ 1 _ rfl; refine blk_put (cs := #[.int .i64 0, .int .i64 0, .int .i64 0]) ?_ 0 _ rfl; exact BK424.out) hb); replace HB := am (below_step (by repeat (with_reducible first | exact HB.out | refine below_set ?_ GE424.out)) hb); (try clear hb); have hnb75 := NB418_405.out; have hnc75 := NB405_418.out; have hnb76 := NB418_406.out; have hnc76 := NB406_418.out; obtain ⟨hcz77_0, hcz77_1, hcz77_2, hcz77_3, hcz77_4, hfz77_0, hfz77_1, hfz77_2, hfz77_3, hfz77_4⟩ := cells5_ BK418.out))
         (try simp only [Act.put, s2_, s0_, s1_])
         go_cut [46] (fun v46 wc => ∃ (kq : Nat) (x46_67 : Bool), v46 = .bool x46_67 ∧ Aside0 (impl_JoinChunk.j1 kq l1 x7_1 x22_1 t408 (t408.length : Int) x22_1 x46_67 t407 t408 t411 x419003_1 t417 ((rd_T60 t408 x22_1).f0) ((rd_T60 t408 x22_1).f1) ((rd_T60 t408 x22_1).f2) = some (r1, r2, r3, r4, r5, r6)) ∧ Aside0 (kq ≤ k1) ∧ Aside0 (Kd.R k128 128 wc w.heap.size (fun _ => True) u7 x7_1) ∧ Aside0 (Kd.R k60 60 wc w.heap.size (fun k_ => some k_ ≠ ((.slice Ao16 t411.length co16) : Value).ownBlock ∧ k_ ≠ gb424) (.slice (some ad423) t408.length co15) t408) ∧ Aside0 (Kd.R k60 60 wc w.heap.size (fun k_ => some k_ ≠ ((.slice Ao16 t411.length co16) : Value).ownBlock ∧ k_ ≠ gb424) (.slice (some ad423) t408.length co15) t408) ∧ Aside0 (Kd.R k60 60 wc w.heap.size (fun k_ => some k_ ≠ ((.slice (some ad423) t408.length co15) : Value).ownBlock ∧ some k_ ≠ ((.slice (some ad423) t408.length co15) : Value).ownBlock ∧ k_ ≠ gb424) (.slice Ao16 t411.length co16) t411) ∧ Aside0 (Kd.R Kd.bool 4 wc w.heap.size (fun _ => True) u419003 x419003_1) ∧ Aside0 (wc.heap[gb405]? = some (.cells #[.int .i64 a0_0, (.slice A0_1 l0_1.length c0_1), (.slice A0_2 l0_2.length c0_2), (.slice A0_3 l0_3.length c0_3), .int .i64 a0_4] 40 (0, 0))) ∧ Aside0 (wc.heap[gb406]? = some (.cells #[.int .i64 0, (.slice none 0 0), (.slice none 0 0), (.slice none 0 0), .int .i64 0] 40 (0, 0))) ∧ Aside0 (wc.heap[gb418]? = some (.cells #[.int .i64 t407, (.slice (some ad423) t408.length co15), (.slice Ao16 t411.length co16), u419003, .int .i64 t417] 40 (0, 0))) ∧ Aside0 (wc.heap[gb424]? = some (.cells #[.int .i64 ((rd_T60 t408 x22_1).f0), .int .i64 ((rd_T60 t408 x22_1).f1), .int .i64 ((rd_T60 t408 x22_1).f2)] 60 (0, 0))) ∧ Aside0 (Below w.heap.size w wc))
         case first =>
          have H := HC68.out
          clear HC68
          by_cases c78 : t407 = 1
          ·rw [if_pos c78] at H
           have c78b0 : (t407 == 1) = true := beq_iff_eq.mpr c78
           have c78b1 : (t407 != 1) = false := bne_eq_false_iff_eq.mpr c78
           clear c78
           (rw [c78b0])
           have H' := am H
           clear H
           go_wp2
           go_meet
           case rel => exact ⟨_, ((t407 == 1)), (by (simp [*]; done)), H', ⟨by have := HK1.out; omega⟩, ⟨HO_7.out⟩, ⟨HO_20.out⟩, ⟨HO_419001.out⟩, ⟨by exact Kd.R_mono HO_419002.out (fun _ hk => ⟨hk.1.1, ⟨hk.1.2, hk.2⟩⟩)⟩, ⟨HO_419003.out⟩, ⟨BK405.out⟩, ⟨BK406.out⟩, ⟨BK418.out⟩, ⟨BK424.out⟩, ⟨HB.out⟩⟩
          ·rw [if_neg c78] at H
           have c78b0 : (t407 == 1) = false := beq_eq_false_iff_ne.mpr c78
           have c78b1 : (t407 != 1) = true := bne_iff_ne.mpr c78
           (rw [c78b0])
           have H' := am H
           clear H
           go_wp2
           go_meet
           case rel => exact ⟨_, ((t407 == 4)), rfl, H', ⟨by have := HK1.out; omega⟩, ⟨HO_7.out⟩, ⟨HO_20.out⟩, ⟨HO_419001.out⟩, ⟨by exact Kd.R_mono HO_419002.out (fun _ hk => ⟨hk.1.1, ⟨hk.1.2, hk.2⟩⟩)⟩, ⟨HO_419003.out⟩, ⟨BK405.out⟩, ⟨BK406.out⟩, ⟨BK418.out⟩, ⟨BK424.out⟩, ⟨HB.out⟩⟩
         case rest =>
          clear HC68
          try clear c23b0
          try clear c24b0
          try clear c25b0
          try clear c27
          try clear c27b0
          try clear c27b1
          try clear c34
          try clear c34b0
          try clear c34b1
          try clear hcz73_0
          try clear hcz73_1
          try clear hcz73_2
          try clear hcz77_0
          try clear hcz77_1
          try clear hcz77_2
          try clear hcz77_3
          try clear hcz77_4
          try clear hfz73_0
          try clear hfz73_1
          try clear hfz73_2
          try clear hfz77_0
          try clear hfz77_1
          try clear hfz77_2
          try clear hfz77_3
          try clear hfz77_4
          try clear hx423_0
          try clear hx423_1
          try clear hx423_2
          try clear p423
          try clear q423
          obtain ⟨kq, x46_67, rfl, HA, HJ67, HO_7, HO_20, HO_419001, HO_419002, HO_419003, BK405, BK406, BK418, BK424, HB⟩ := hcut
          cases kq with
          | zero => exact absurd HA.out (by simp [impl_JoinChunk.j1])
          | succ kj67 =>
           have H := HA.out
           clear HA
           simp only [impl_JoinChunk.j1] at H
           by_cases c79 : x46_67 = true
           ·subst c79
            rw [if_pos rfl] at H
            have H' := am H
            clear H
            go_wp2
            go_loopg [7, 51] kj67 (fun kq v7 v51 w' => ∃ (x7_3 : List (S128)) (x51_3 : Int), v51 = .int .i64 x51_3 ∧ Aside0 (impl_JoinChunk.l1 kq l1 x7_3 x22_1 t408 (t408.length : Int) x22_1 l1 (l1.length : Int) x51_3 t407 t408 t411 x419003_1 t417 ((rd_T60 t408 x22_1).f0) ((rd_T60 t408 x22_1).f1) ((rd_T60 t408 x22_1).f2) = some (r1, r2, r3, r4, r5, r6)) ∧ Aside0 (kq ≤ kj67) ∧ Aside0 (Kd.R k128 128 w' w.heap.size (fun _ => True) v7 x7_3) ∧ Aside0 (Kd.R k60 60 w' w.heap.size (fun k_ => some k_ ≠ ((.slice Ao16 t411.length co16) : Value).ownBlock ∧ k_ ≠ gb424) (.slice (some ad423) t408.length co15) t408) ∧ Aside0 (Kd.R k60 60 w' w.heap.size (fun k_ => some k_ ≠ ((.slice Ao16 t411.length co16) : Value).ownBlock ∧ k_ ≠ gb424) (.slice (some ad423) t408.length co15) t408) ∧ Aside0 (Kd.R k60 60 w' w.heap.size (fun k_ => some k_ ≠ ((.slice (some ad423) t408.length co15) : Value).ownBlock ∧ some k_ ≠ ((.slice (some ad423) t408.length co15) : Value).ownBlock ∧ k_ ≠ gb424) (.slice Ao16 t411.length co16) t411) ∧ Aside0 (Kd.R Kd.bool 4 w' w.heap.size (fun _ => True) u419003 x419003_1) ∧ Aside0 (w'.heap[gb405]? = some (.cells #[.int .i64 a0_0, (.slice A0_1 l0_1.length c0_1), (.slice A0_2 l0_2.length c0_2), (.slice A0_3 l0_3.length c0_3), .int .i64 a0_4] 40 (0, 0))) ∧ Aside0 (w'.heap[gb406]? = some (.cells #[.int .i64 0, (.slice none 0 0), (.slice none 0 0), (.slice none 0 0), .int .i64 0] 40 (0, 0))) ∧ Aside0 (w'.heap[gb418]? = some (.cells #[.int .i64 t407, (.slice (some ad423) t408.length co15), (.slice Ao16 t411.length co16), u419003, .int .i64 t417] 40 (0, 0))) ∧ Aside0 (w'.heap[gb424]? = some (.cells #[.int .i64 ((rd_T60 t408 x22_1).f0), .int .i64 ((rd_T60 t408 x22_1).f1), .int .i64 ((rd_T60 t408 x22_1).f2)] 60 (0, 0))) ∧ Aside0 (Below w.heap.size w w'))
            case atStart => exact ⟨(x7_1), (0), rfl, H', ⟨Nat.le_refl _⟩, ⟨HO_7.out⟩, ⟨HO_20.out⟩, ⟨HO_419001.out⟩, ⟨HO_419002.out⟩, ⟨HO_419003.out⟩, ⟨BK405.out⟩, ⟨BK406.out⟩, ⟨BK418.out⟩, ⟨BK424.out⟩, ⟨HB.out⟩⟩
            case round =>
             clear H'
             obtain ⟨x7_3, x51_3, rfl, HA, HK3, HO_7, HO_20, HO_419001, HO_419002, HO_419003, BK405, BK406, BK418, BK424, HB⟩ := hrel
             cases gk with
             | zero => exact absurd HA.out (by simp [impl_JoinChunk.l1])
             | succ k3 =>
              have H := HA.out
              clear HA
              simp only [impl_JoinChunk.l1] at H
              by_cases c80 : x51_3 < (l1.length : Int)
              ·rw [if_pos c80] at H
               have c80b0 : decide (x51_3 < (l1.length : Int)) = true := decide_eq_true c80
               clear c80
               by_cases c81 : 0 ≤ x51_3
               ·rw [if_pos c81] at H
                have c81b0 : decide (0 ≤ x51_3) = true := decide_eq_true c81
                clear c81
                by_cases c82 : x51_3 < (l1.length : Int)
                ·rw [if_pos c82] at H
                 have c82b0 : decide (x51_3 < (l1.length : Int)) = true := decide_eq_true c82
                 clear c82
                 by_cases c83 : ((rd_T60 l1 x51_3).f0) = ((rd_T60 t408 x22_1).f0)
                 ·rw [if_pos c83] at H
                  have c83b0 : (((rd_T60 l1 x51_3).f0) == ((rd_T60 t408 x22_1).f0)) = true := beq_iff_eq.mpr c83
                  have c83b1 : (((rd_T60 l1 x51_3).f0) != ((rd_T60 t408 x22_1).f0)) = false := bne_eq_false_iff_eq.mpr c83
                  clear c83
                  by_cases c84 : x7_3.length < 2513169434916
                  ·rw [if_pos c84] at H
                   have LMc84 := am c84
                   clear c84
                   obtain ⟨y434, hy434⟩ : ∃ y_ : List (S128), y_ = (x7_3 ++ [(⟨(⟨((rd_T60 t408 x22_1).f0), ((rd_T60 t408 x22_1).f1), ((rd_T60 t408 x22_1).f2)⟩ : S60), (⟨(rd_T60 l1 x51_3).f0, (rd_T60 l1 x51_3).f1, (rd_T60 l1 x51_3).f2⟩ : S60), true⟩ : S128)]) := ⟨_, rfl⟩
                   replace H : (impl_JoinChunk.l1 k3 l1 y434 x22_1 t408 (t408.length : Int) x22_1 l1 (l1.length : Int) (wrap64 (x51_3 + 1)) t407 t408 t411 x419003_1 t417 ((rd_T60 t408 x22_1).f0) ((rd_T60 t408 x22_1).f1) ((rd_T60 t408 x22_1).f2)) = some (r1, r2, r3, r4, r5, r6) := by (rw [hy434]; with_reducible exact H)
                   have Ny434 := am hy434
                   clear hy434
                   have H' := am H
                   clear H
                   have p432 : 0 ≤ (x51_3 : Int) := of_decide_eq_true (by (with_reducible assumption))
                   have q432 : x51_3 < (l1.length : Int) := of_decide_eq_true (by (with_reducible assumption))
                   obtain ⟨ad432, e432, hx432_0, hx432_1, hx432_2⟩ := at_T60 HR1.out x51_3 p432 q432
                   cases e432
                   replace hx432_0 := bc_ HB.out hx432_0
                   replace hx432_1 := bc_ HB.out hx432_1
                   replace hx432_2 := bc_ HB.out hx432_2
                   replace p432 := eq_true p432
                   replace q432 := eq_true q432
                   go_wp2_with (first | ((with_reducible refine gate_dst (N := 11) rfl ?_); refine box_event ?hg (N := 11) ?hd (cs := #[.int .i64 0, .int .i64 0, .int .i64 0]) (t := 60) ?hr ?_; (case hd => rfl); (case hg => rfl); (case hr => (go_simp; done)); intro gb433 hg w85 hbox hb; replace HO_7 := am (Kd.R_below HO_7.out hb); replace HO_20 := am (Kd.R_below (Kd.R_elderB HO_20.out gb433 (Nat.le_of_eq hg.symm)) hb); replace HO_419001 := am (Kd.R_below (Kd.R_elderB HO_419001.out gb433 (Nat.le_of_eq hg.symm)) hb); replace HO_419002 := am (Kd.R_below (Kd.R_elderB HO_419002.out gb433 (Nat.le_of_eq hg.symm)) hb); replace HO_419003 := am (Kd.R_below HO_419003.out hb); have BK433 := am (hbox); have GW433 := am (gw_ hg HB.out); have GE433 := am (gw_ hg HB.out); replace HB := am (below_step HB.out hb); have NB405_433 := am ((by rw [hg]; exact Nat.ne_of_lt (blk_lt (g := gb405) (o := .cells #[.int .i64 a0_0, .slice A0_1 l0_1.length c0_1, .slice A0_2 l0_2.length c0_2, .slice A0_3 l0_3.length c0_3, .int .i64 a0_4] 40 (0, 0)) BK405.out) : gb405 ≠ gb433)); have NB433_405 := am ((by rw [hg]; exact Nat.ne_of_gt (blk_lt (g := gb405) (o := .cells #[.int .i64 a0_0, .slice A0_1 l0_1.length c0_1, .slice A0_2 l0_2.length c0_2, .slice A0_3 l0_3.length c0_3, .int .i64 a0_4] 40 (0, 0)) BK405.out) : gb433 ≠ gb405)); replace BK405 := am (blk_below BK405.out hb); have NB406_433 := am ((by rw [hg]; exact Nat.ne_of_lt (blk_lt (g := gb406) (o := .cells #[.int .i64 0, .slice none 0 0, .slice none 0 0, .slice none 0 0, .int .i64 0] 40 (0, 0)) BK406.out) : gb406 ≠ gb433)); have NB433_406 := am ((by rw [hg]; exact Nat.ne_of_gt (blk_lt (g := gb406) (o := .cells #[.int .i64 0, .slice none 0 0, .slice none 0 0, .slice none 0 0, .int .i64 0] 40 (0, 0)) BK406.out) : gb433 ≠ gb406)); replace BK406 := am (blk_below BK406.out hb); have NB418_433 := am ((by rw [hg]; exact Nat.ne_of_lt (blk_lt (g := gb418) (o := .cells #[.int .i64 t407, .slice (some ad423) t408.length co15, .slice Ao16 t411.length co16, u419003, .int .i64 t417] 40 (0, 0)) BK418.out) : gb418 ≠ gb433)); have NB433_418 := am ((by rw [hg]; exact Nat.ne_of_gt (blk_lt (g := gb418) (o := .cells #[.int .i64 t407, .slice (some ad423) t408.length co15, .slice Ao16 t411.length co16, u419003, .int .i64 t417] 40 (0, 0)) BK418.out) : gb433 ≠ gb418)); replace BK418 := am (blk_below BK418.out hb); have NB424_433 := am ((by rw [hg]; exact Nat.ne_of_lt (blk_lt (g := gb424) (o := .cells #[.int .i64 ((rd_T60 t408 x22_1).f0), .int .i64 ((rd_T60 t408 x22_1).f1), .int .i64 ((rd_T60 t408 x22_1).f2)] 60 (0, 0)) BK424.out) : gb424 ≠ gb433)); have NB433_424 := am ((by rw [hg]; exact Nat.ne_of_gt (blk_lt (g := gb424) (o := .cells #[.int .i64 ((rd_T60 t408 x22_1).f0), .int .i64 ((rd_T60 t408 x22_1).f1), .int .i64 ((rd_T60 t408 x22_1).f2)] 60 (0, 0)) BK424.out) : gb433 ≠ gb424)); replace BK424 := am (blk_below BK424.out hb); clear hb hbox hg; have hnb86 := NB433_405.out; have hnc86 := NB405_433.out; have hnb87 := NB433_406.out; have hnc87 := NB406_433.out; have hnb88 := NB433_418.out; have hnc88 := NB418_433.out; have hnb89 := NB433_424.out; have hnc89 := NB424_433.out; obtain ⟨hcz90_0, hcz90_1, hcz90_2, hfz90_0, hfz90_1, hfz90_2⟩ := cells3_ BK433.out; have hnb91 := NB424_405.out; have hnc91 := NB405_424.out; have hnb92 := NB424_406.out; have hnc92 := NB406_424.out; have hnb93 := NB424_418.out; have hnc93 := NB418_424.out; obtain ⟨hcz94_0, hcz94_1, hcz94_2, hfz94_0, hfz94_1, hfz94_2⟩ := cells3_ BK424.out) | ((with_reducible refine gate_builtin (b := .append) (xs := #[.tmp 60, .tmp 64]) rfl ?_); at_builtin; refine Kd.R_append k128 (w0 := w) w.heap.size rfl (.tmp 60) (.tmp 64) 33 128 (.agg #[(.int .i64 0), (.int .i64 0), (.int .i64 0), (.int .i64 0), (.int .i64 0), (.int .i64 0), (.bool false)]) 56 rfl Try.underlying33 info128 rfl (by decide) (by omega) u7 x7_3 (⟨(⟨((rd_T60 t408 x22_1).f0), ((rd_T60 t408 x22_1).f1), ((rd_T60 t408 x22_1).f2)⟩ : S60), (⟨(rd_T60 l1 x51_3).f0, (rd_T60 l1 x51_3).f1, (rd_T60 l1 x51_3).f2⟩ : S60), true⟩ : S128) [.int .i64 ((rd_T60 t408 x22_1).f0), .int .i64 ((rd_T60 t408 x22_1).f1), .int .i64 ((rd_T60 t408 x22_1).f2), .int .i64 ((rd_T60 l1 x51_3).f0), .int .i64 ((rd_T60 l1 x51_3).f1), .int .i64 ((rd_T60 l1 x51_3).f2), .bool true] (fun _ => True) (fun _ => False) rfl (by (go_simp; done)) ?aP (fun _ hk => hk.elim) ?aF ?aO ?aB ?aS ?aL ?_; (case aP => exact k128_mkM _ _ _ (⟨(⟨((rd_T60 t408 x22_1).f0), ((rd_T60 t408 x22_1).f1), ((rd_T60 t408 x22_1).f2)⟩ : S60), (⟨(rd_T60 l1 x51_3).f0, (rd_T60 l1 x51_3).f1, (rd_T60 l1 x51_3).f2⟩ : S60), true⟩ : S128)); (case aB => exact (by repeat (with_reducible first | exact HB.out | refine below_set ?_ GE433.out))); (case aF => exact (fun _ _ => trivial)); (case aO => exact (by exact Kd.R_mono (Kd.R_far (p := ⟨gb433, 2, none⟩) (Kd.R_far (p := ⟨gb433, 1, none⟩) (Kd.R_far (p := ⟨gb433, 0, none⟩) (Kd.R_types HO_7.out BK433.out (by decide)) (fun _ hk => hk.2) (.int .i64 ((rd_T60 l1 x51_3).f0))) (fun _ hk => hk.2) (.int .i64 ((rd_T60 l1 x51_3).f1))) (fun _ hk => hk.2) (.int .i64 ((rd_T60 l1 x51_3).f2))) (fun _ hk => trivial))); (case aS => exact (below_size (by repeat (with_reducible first | exact HB.out | refine below_set ?_ GE433.out)))); (case aL => have := LMc84.out; omega); intro v435 w95 ho hb hg hat; rw [← Ny434.out] at ho; replace HO_20 := am (Kd.R_over' (by exact (Kd.R_mono (Kd.R_far (p := ⟨gb433, 2, none⟩) (Kd.R_far (p := ⟨gb433, 1, none⟩) (Kd.R_far (p := ⟨gb433, 0, none⟩) (Kd.R_mono HO_20.out (fun k_ hk => (⟨hk, hk.2⟩ : _ ∧ k_ ≠ gb433))) (fun _ hk => hk.2) (.int .i64 ((rd_T60 l1 x51_3).f0))) (fun _ hk => hk.2) (.int .i64 ((rd_T60 l1 x51_3).f1))) (fun _ hk => hk.2) (.int .i64 ((rd_T60 l1 x51_3).f2))) (fun _ h_ => h_.1))) (Kd.R_typed (by exact (Kd.R_mono (Kd.R_far (p := ⟨gb433, 2, none⟩) (Kd.R_far (p := ⟨gb433, 1, none⟩) (Kd.R_far (p := ⟨gb433, 0, none⟩) (Kd.R_types HO_7.out BK433.out (by decide)) (fun _ hk => hk.2) (.int .i64 ((rd_T60 l1 x51_3).f0))) (fun _ hk => hk.2) (.int .i64 ((rd_T60 l1 x51_3).f1))) (fun _ hk => hk.2) (.int .i64 ((rd_T60 l1 x51_3).f2))) (fun _ h_ => h_.1)))) (by decide) hg); replace HO_419001 := am (Kd.R_over' (by exact (Kd.R_mono (Kd.R_far (p := ⟨gb433, 2, none⟩) (Kd.R_far (p := ⟨gb433, 1, none⟩) (Kd.R_far (p := ⟨gb433, 0, none⟩) (Kd.R_mono HO_419001.out (fun k_ hk => (⟨hk, hk.2⟩ : _ ∧ k_ ≠ gb433))) (fun _ hk => hk.2) (.int .i64 ((rd_T60 l1 x51_3).f0))) (fun _ hk => hk.2) (.int .i64 ((rd_T60 l1 x51_3).f1))) (fun _ hk => hk.2) (.int .i64 ((rd_T60 l1 x51_3).f2))) (fun _ h_ => h_.1))) (Kd.R_typed (by exact (Kd.R_mono (Kd.R_far (p := ⟨gb433, 2, none⟩) (Kd.R_far (p := ⟨gb433, 1, none⟩) (Kd.R_far (p := ⟨gb433, 0, none⟩) (Kd.R_types HO_7.out BK433.out (by decide)) (fun _ hk => hk.2) (.int .i64 ((rd_T60 l1 x51_3).f0))) (fun _ hk => hk.2) (.int .i64 ((rd_T60 l1 x51_3).f1))) (fun _ hk => hk.2) (.int .i64 ((rd_T60 l1 x51_3).f2))) (fun _ h_ => h_.1)))) (by decide) hg); replace HO_419002 := am (Kd.R_over' (by exact (Kd.R_mono (Kd.R_far (p := ⟨gb433, 2, none⟩) (Kd.R_far (p := ⟨gb433, 1, none⟩) (Kd.R_far (p := ⟨gb433, 0, none⟩) (Kd.R_mono HO_419002.out (fun k_ hk => (⟨hk, hk.2⟩ : _ ∧ k_ ≠ gb433))) (fun _ hk => hk.2) (.int .i64 ((rd_T60 l1 x51_3).f0))) (fun _ hk => hk.2) (.int .i64 ((rd_T60 l1 x51_3).f1))) (fun _ hk => hk.2) (.int .i64 ((rd_T60 l1 x51_3).f2))) (fun _ h_ => h_.1))) (Kd.R_typed (by exact (Kd.R_mono (Kd.R_far (p := ⟨gb433, 2, none⟩) (Kd.R_far (p := ⟨gb433, 1, none⟩) (Kd.R_far (p := ⟨gb433, 0, none⟩) (Kd.R_types HO_7.out BK433.out (by decide)) (fun _ hk => hk.2) (.int .i64 ((rd_T60 l1 x51_3).f0))) (fun _ hk => hk.2) (.int .i64 ((rd_T60 l1 x51_3).f1))) (fun _ hk => hk.2) (.int .i64 ((rd_T60 l1 x51_3).f2))) (fun _ h_ => h_.1)))) (by decide) hg); replace HO_419003 := am (Kd.R_over' (by exact (Kd.R_mono (Kd.R_far (p := ⟨gb433, 2, none⟩) (Kd.R_far (p := ⟨gb433, 1, none⟩) (Kd.R_far (p := ⟨gb433, 0, none⟩) (Kd.R_types HO_419003.out BK433.out (by decide)) (fun _ hk => hk.2) (.int .i64 ((rd_T60 l1 x51_3).f0))) (fun _ hk => hk.2) (.int .i64 ((rd_T60 l1 x51_3).f1))) (fun _ hk => hk.2) (.int .i64 ((rd_T60 l1 x51_3).f2))) (fun _ h_ => h_.1))) (Kd.R_typed (by exact (Kd.R_mono (Kd.R_far (p := ⟨gb433, 2, none⟩) (Kd.R_far (p := ⟨gb433, 1, none⟩) (Kd.R_far (p := ⟨gb433, 0, none⟩) (Kd.R_types HO_7.out BK433.out (by decide)) (fun _ hk => hk.2) (.int .i64 ((rd_T60 l1 x51_3).f0))) (fun _ hk => hk.2) (.int .i64 ((rd_T60 l1 x51_3).f1))) (fun _ hk => hk.2) (.int .i64 ((rd_T60 l1 x51_3).f2))) (fun _ h_ => h_.1)))) (by decide) hg); replace BK405 := am (blk_grown (g := gb405) (o := .cells #[.int .i64 a0_0, .slice A0_1 l0_1.length c0_1, .slice A0_2 l0_2.length c0_2, .slice A0_3 l0_3.length c0_3, .int .i64 a0_4] 40 (0, 0)) (by refine blk_far ?_ NB405_433.out _; refine blk_far ?_ NB405_433.out _; refine blk_far ?_ NB405_433.out _; exact BK405.out) hg (Kd.R_ne HO_7.out BK405.out (by decide))); replace BK406 := am (blk_grown (g := gb406) (o := .cells #[.int .i64 0, .slice none 0 0, .slice none 0 0, .slice none 0 0, .int .i64 0] 40 (0, 0)) (by refine blk_far ?_ NB406_433.out _; refine blk_far ?_ NB406_433.out _; refine blk_far ?_ NB406_433.out _; exact BK406.out) hg (Kd.R_ne HO_7.out BK406.out (by decide))); replace BK418 := am (blk_grown (g := gb418) (o := .cells #[.int .i64 t407, .slice (some ad423) t408.length co15, .slice Ao16 t411.length co16, u419003, .int .i64 t417] 40 (0, 0)) (by refine blk_far ?_ NB418_433.out _; refine blk_far ?_ NB418_433.out _; refine blk_far ?_ NB418_433.out _; exact BK418.out) hg (Kd.R_ne HO_7.out BK418.out (by decide))); replace BK424 := am (blk_grown (g := gb424) (o := .cells #[.int .i64 ((rd_T60 t408 x22_1).f0), .int .i64 ((rd_T60 t408 x22_1).f1), .int .i64 ((rd_T60 t408 x22_1).f2)] 60 (0, 0)) (by refine blk_far ?_ NB424_433.out _; refine blk_far ?_ NB424_433.out _; refine blk_far ?_ NB424_433.out _; exact BK424.out) hg (Kd.R_ne HO_7.out BK424.out (by decide))); replace BK433 := am (blk_grown (g := gb433) (o := .cells #[.int .i64 ((rd_T60 l1 x51_3).f0), .int .i64 ((rd_T60 l1 x51_3).f1), .int .i64 ((rd_T60 l1 x51_3).f2)] 60 (0, 0)) (by refine blk_put (cs := #[.int .i64 ((rd_T60 l1 x51_3).f0), .int .i64 ((rd_T60 l1 x51_3).f1), .int .i64 0]) ?_ 2 _ rfl; refine blk_put (cs := #[.int .i64 ((rd_T60 l1 x51_3).f0), .int .i64 0, .int .i64 0]) ?_ 1 _ rfl; refine blk_put (cs := #[.int .i64 0, .int .i64 0, .int .i64 0]) ?_ 0 _ rfl; exact BK433.out) hg (Kd.R_ne HO_7.out BK433.out (by decide))); replace HB := am (hb); have HO436 := am (ho); clear HO_7 ho hb hg hat))
                   go_roundg k3
                   case measure => have := HK1.out; have := HJ67.out; have := HK3.out; omega
                   case rel => exact ⟨(y434), (wrap64 (x51_3 + 1)), rfl, H', ⟨by have := HK1.out; have := HJ67.out; have := HK3.out; omega⟩, ⟨HO436.out⟩, ⟨by exact Kd.R_mono HO_20.out (fun _ hk => ⟨hk.1.1, hk.1.2⟩)⟩, ⟨by exact Kd.R_mono HO_419001.out (fun _ hk => ⟨hk.1.1, hk.1.2⟩)⟩, ⟨by exact Kd.R_mono HO_419002.out (fun _ hk => ⟨hk.1.1, ⟨hk.1.2.1, hk.1.2.2⟩⟩)⟩, ⟨HO_419003.out⟩, ⟨BK405.out⟩, ⟨BK406.out⟩, ⟨BK418.out⟩, ⟨BK424.out⟩, ⟨HB.out⟩⟩
                  ·rw [if_neg c84] at H
                   exact absurd H (by simp)
                 ·rw [if_neg c83] at H
                  have c83b0 : (((rd_T60 l1 x51_3).f0) == ((rd_T60 t408 x22_1).f0)) = false := beq_eq_false_iff_ne.mpr c83
                  have c83b1 : (((rd_T60 l1 x51_3).f0) != ((rd_T60 t408 x22_1).f0)) = true := bne_iff_ne.mpr c83
                  have H' := am H
                  clear H
                  have p432 : 0 ≤ (x51_3 : Int) := of_decide_eq_true (by (with_reducible assumption))
                  have q432 : x51_3 < (l1.length : Int) := of_decide_eq_true (by (with_reducible assumption))
                  obtain ⟨ad432, e432, hx432_0, hx432_1, hx432_2⟩ := at_T60 HR1.out x51_3 p432 q432
                  cases e432
                  replace hx432_0 := bc_ HB.out hx432_0
                  replace hx432_1 := bc_ HB.out hx432_1
                  replace hx432_2 := bc_ HB.out hx432_2
                  replace p432 := eq_true p432
                  replace q432 := eq_true q432
                  go_wp2_with (((with_reducible refine gate_dst (N := 11) rfl ?_); refine box_event ?hg (N := 11) ?hd (cs := #[.int .i64 0, .int .i64 0, .int .i64 0]) (t := 60) ?hr ?_; (case hd => rfl); (case hg => rfl); (case hr => (go_simp; done)); intro gb433 hg w96 hbox hb; replace HO_7 := am (Kd.R_below HO_7.out hb); replace HO_20 := am (Kd.R_below (Kd.R_elderB HO_20.out gb433 (Nat.le_of_eq hg.symm)) hb); replace HO_419001 := am (Kd.R_below (Kd.R_elderB HO_419001.out gb433 (Nat.le_of_eq hg.symm)) hb); replace HO_419002 := am (Kd.R_below (Kd.R_elderB HO_419002.out gb433 (Nat.le_of_eq hg.symm)) hb); replace HO_419003 := am (Kd.R_below HO_419003.out hb); have BK433 := am (hbox); have GW433 := am (gw_ hg HB.out); have GE433 := am (gw_ hg HB.out); replace HB := am (below_step HB.out hb); have NB405_433 := am ((by rw [hg]; exact Nat.ne_of_lt (blk_lt (g := gb405) (o := .cells #[.int .i64 a0_0, .slice A0_1 l0_1.length c0_1, .slice A0_2 l0_2.length c0_2, .slice A0_3 l0_3.length c0_3, .int .i64 a0_4] 40 (0, 0)) BK405.out) : gb405 ≠ gb433)); have NB433_405 := am ((by rw [hg]; exact Nat.ne_of_gt (blk_lt (g := gb405) (o := .cells #[.int .i64 a0_0, .slice A0_1 l0_1.length c0_1, .slice A0_2 l0_2.length c0_2, .slice A0_3 l0_3.length c0_3, .int .i64 a0_4] 40 (0, 0)) BK405.out) : gb433 ≠ gb405)); replace BK405 := am (blk_below BK405.out hb); have NB406_433 := am ((by rw [hg]; exact Nat.ne_of_lt (blk_lt (g := gb406) (o := .cells #[.int .i64 0, .slice none 0 0, .slice none 0 0, .slice none 0 0, .int .i64 0] 40 (0, 0)) BK406.out) : gb406 ≠ gb433)); have NB433_406 := am ((by rw [hg]; exact Nat.ne_of_gt (blk_lt (g := gb406) (o := .cells #[.int .i64 0, .slice none 0 0, .slice none 0 0, .slice none 0 0, .int .i64 0] 40 (0, 0)) BK406.out) : gb433 ≠ gb406)); replace BK406 := am (blk_below BK406.out hb); have NB418_433 := am ((by rw [hg]; exact Nat.ne_of_lt (blk_lt (g := gb418) (o := .cells #[.int .i64 t407, .slice (some ad423) t408.length co15, .slice Ao16 t411.length co16, u419003, .int .i64 t417] 40 (0, 0)) BK418.out) : gb418 ≠ gb433)); have NB433_418 := am ((by rw [hg]; exact Nat.ne_of_gt (blk_lt (g := gb418) (o := .cells #[.int .i64 t407, .slice (some ad423) t408.length co15, .slice Ao16 t411.length co16, u419003, .int .i64 t417] 40 (0, 0)) BK418.out) : gb433 ≠ gb418)); replace BK418 := am (blk_below BK418.out hb); have NB424_433 := am ((by rw [hg]; exact Nat.ne_of_lt (blk_lt (g := gb424) (o := .cells #[.int .i64 ((rd_T60 t408 x22_1).f0), .int .i64 ((rd_T60 t408 x22_1).f1), .int .i64 ((rd_T60 t408 x22_1).f2)] 60 (0, 0)) BK424.out) : gb424 ≠ gb433)); have NB433_424 := am ((by rw [hg]; exact Nat.ne_of_gt (blk_lt (g := gb424) (o := .cells #[.int .i64 ((rd_T60 t408 x22_1).f0), .int .i64 ((rd_T60 t408 x22_1).f1), .int .i64 ((rd_T60 t408 x22_1).f2)] 60 (0, 0)) BK424.out) : gb433 ≠ gb424)); replace BK424 := am (blk_below BK424.out hb); clear hb hbox hg; have hnb97 := NB433_405.out; have hnc97 := NB405_433.out; have hnb98 := NB433_406.out; have hnc98 := NB406_433.out; have hnb99 := NB433_418.out; have hnc99 := NB418_433.out; have hnb100 := NB433_424.out; have hnc100 := NB424_433.out; obtain ⟨hcz101_0, hcz101_1, hcz101_2, hfz101_0, hfz101_1, hfz101_2⟩ := cells3_ BK433.out; have hnb102 := NB424_405.out; have hnc102 := NB405_424.out; have hnb103 := NB424_406.out; have hnc103 := NB406_424.out; have hnb104 := NB424_418.out; have hnc104 := NB418_424.out; obtain ⟨hcz105_0, hcz105_1, hcz105_2, hfz105_0, hfz105_1, hfz105_2⟩ := cells3_ BK424.out))
                  go_roundg k3
                  case measure => have := HK1.out; have := HJ67.out; have := HK3.out; omega
                  case rel => exact ⟨(x7_3), (wrap64 (x51_3 + 1)), rfl, H', ⟨by have := HK1.out; have := HJ67.out; have := HK3.out; omega⟩, ⟨by exact Kd.R_mono (Kd.R_far (p := ⟨gb433, 2, none⟩) (Kd.R_far (p := ⟨gb433, 1, none⟩) (Kd.R_far (p := ⟨gb433, 0, none⟩) (Kd.R_types HO_7.out BK433.out (by decide)) (fun _ hk => hk.2) (.int .i64 ((rd_T60 l1 x51_3).f0))) (fun _ hk => hk.2) (.int .i64 ((rd_T60 l1 x51_3).f1))) (fun _ hk => hk.2) (.int .i64 ((rd_T60 l1 x51_3).f2))) (fun _ hk => trivial)⟩, ⟨by exact Kd.R_mono (Kd.R_far (p := ⟨gb433, 2, none⟩) (Kd.R_far (p := ⟨gb433, 1, none⟩) (Kd.R_far (p := ⟨gb433, 0, none⟩) (Kd.R_mono HO_20.out (fun k_ hk => (⟨hk, hk.2⟩ : _ ∧ k_ ≠ gb433))) (fun _ hk => hk.2) (.int .i64 ((rd_T60 l1 x51_3).f0))) (fun _ hk => hk.2) (.int .i64 ((rd_T60 l1 x51_3).f1))) (fun _ hk => hk.2) (.int .i64 ((rd_T60 l1 x51_3).f2))) (fun _ hk => ⟨hk.1.1.1, hk.1.1.2⟩)⟩, ⟨by exact Kd.R_mono (Kd.R_far (p := ⟨gb433, 2, none⟩) (Kd.R_far (p := ⟨gb433, 1, none⟩) (Kd.R_far (p := ⟨gb433, 0, none⟩) (Kd.R_mono HO_419001.out (fun k_ hk => (⟨hk, hk.2⟩ : _ ∧ k_ ≠ gb433))) (fun _ hk => hk.2) (.int .i64 ((rd_T60 l1 x51_3).f0))) (fun _ hk => hk.2) (.int .i64 ((rd_T60 l1 x51_3).f1))) (fun _ hk => hk.2) (.int .i64 ((rd_T60 l1 x51_3).f2))) (fun _ hk => ⟨hk.1.1.1, hk.1.1.2⟩)⟩, ⟨by exact Kd.R_mono (Kd.R_far (p := ⟨gb433, 2, none⟩) (Kd.R_far (p := ⟨gb433, 1, none⟩) (Kd.R_far (p := ⟨gb433, 0, none⟩) (Kd.R_mono HO_419002.out (fun k_ hk => (⟨hk, hk.2⟩ : _ ∧ k_ ≠ gb433))) (fun _ hk => hk.2) (.int .i64 ((rd_T60 l1 x51_3).f0))) (fun _ hk => hk.2) (.int .i64 ((rd_T60 l1 x51_3).f1))) (fun _ hk => hk.2) (.int .i64 ((rd_T60 l1 x51_3).f2))) (fun _ hk => ⟨hk.1.1.1, ⟨hk.1.1.2.1, hk.1.1.2.2⟩⟩)⟩, ⟨by exact Kd.R_mono (Kd.R_far (p := ⟨gb433, 2, none⟩) (Kd.R_far (p := ⟨gb433, 1, none⟩) (Kd.R_far (p := ⟨gb433, 0, none⟩) (Kd.R_types HO_419003.out BK433.out (by decide)) (fun _ hk => hk.2) (.int .i64 ((rd_T60 l1 x51_3).f0))) (fun _ hk => hk.2) (.int .i64 ((rd_T60 l1 x51_3).f1))) (fun _ hk => hk.2) (.int .i64 ((rd_T60 l1 x51_3).f2))) (fun _ hk => trivial)⟩, ⟨by refine blk_far ?_ NB405_433.out _; refine blk_far ?_ NB405_433.out _; refine blk_far ?_ NB405_433.out _; exact BK405.out⟩, ⟨by refine blk_far ?_ NB406_433.out _; refine blk_far ?_ NB406_433.out _; refine blk_far ?_ NB406_433.out _; exact BK406.out⟩, ⟨by refine blk_far ?_ NB418_433.out _; refine blk_far ?_ NB418_433.out _; refine blk_far ?_ NB418_433.out _; exact BK418.out⟩, ⟨by refine blk_far ?_ NB424_433.out _; refine blk_far ?_ NB424_433.out _; refine blk_far ?_ NB424_433.out _; exact BK424.out⟩, ⟨by repeat ((with_reducible first | exact HB.out | refine below_set ?_ GE433.out))⟩⟩
                ·rw [if_neg c82] at H
                 exact absurd H (by simp)
               ·rw [if_neg c81] at H
                exact absurd H (by simp)
              ·rw [if_neg c80] at H
               have c80b0 : decide (x51_3 < (l1.length : Int)) = false := decide_eq_false c80
               clear c80
               by_cases c106 : 0 ≤ x22_1
               ·rw [if_pos c106] at H
                have c106b0 : decide (0 ≤ x22_1) = true := decide_eq_true c106
                clear c106
                by_cases c107 : x22_1 < (x419003_1.length : Int)
                ·rw [if_pos c107] at H
                 have c107b0 : decide (x22_1 < (x419003_1.length : Int)) = true := decide_eq_true c107
                 clear c107
                 obtain ⟨y437, hy437⟩ : ∃ y_ : List Bool, y_ = (x419003_1.set (x22_1 : Int).toNat true) := ⟨_, rfl⟩
                 replace H : (impl_JoinChunk.l0 k3 l1 x7_3 t408 (t408.length : Int) (wrap64 (x22_1 + 1)) t407 t408 t411 y437 t417) = some (r1, r2, r3, r4, r5, r6) := by (rw [hy437]; with_reducible exact H)
                 have Ny437 := am hy437
                 clear hy437
                 have H' := am H
                 clear H
                 have hnb109 := NB418_405.out
                 have hnc109 := NB405_418.out
                 have hnb110 := NB418_406.out
                 have hnc110 := NB406_418.out
                 have hnb111 := NB418_424.out
                 have hnc111 := NB424_418.out
                 obtain ⟨hcz112_0, hcz112_1, hcz112_2, hcz112_3, hcz112_4, hfz112_0, hfz112_1, hfz112_2, hfz112_3, hfz112_4⟩ := cells5_ BK418.out
                 have p108 : 0 ≤ (x22_1 : Int) := of_decide_eq_true (by (with_reducible assumption))
                 have q108 : (x22_1 : Int) < ((x419003_1.length : Int) : Int) := of_decide_eq_true (by (with_reducible assumption))
                 obtain ⟨go108, co108, eo108, gb108, gl108, cl108, HG108⟩ := Kd.R_form HO_419003.out (by omega)
                 (cases eo108)
                 have GB108 := am gb108
                 have GG108 := am HG108
                 clear gb108 gl108 HG108
                 obtain ⟨hx108_0, hf108_0⟩ := Kd.R_celln false HO_419003.out (x22_1 : Int) p108 q108
                 replace p108 := eq_true p108
                 replace q108 := eq_true q108
                 have HP113 := Kd.R_putg HO_419003.out (x22_1 : Int) true
                 go_wp2_with (((with_reducible refine gate_store (t := 4) (p := 70) rfl ?_); refine store_event (t := 4) (p := 70) (v := ?vo_w114) (w1 := (wr.setCell ⟨go108, (x22_1 : Int).toNat, none⟩ (.bool true))) ?hg ?ho ?hn ?hr ?_; (case ho => rfl); (case hg => rfl); (case hn => rfl); (case hr => (go_simp; done)); intro w114 hw; have hg : wr.grownBy w114 (some go108) := (by rw [hw]; exact HP113.2); have hp_ : Kd.R Kd.bool 4 w114 w.heap.size (fun _ => True) (.slice (some ⟨go108, 0, none⟩) x419003_1.length co108) y437 := (by rw [hw, Ny437.out]; exact HP113.1); clear HP113; replace HO_7 := am (Kd.R_over' (v := (.slice (some ⟨go108, 0, none⟩) x419003_1.length co108)) HO_7.out (Kd.R_typed HO_419003.out) (by decide) hg); replace HO_20 := am (Kd.R_over' (v := (.slice (some ⟨go108, 0, none⟩) x419003_1.length co108)) HO_20.out (Kd.R_typed HO_419003.out) (by decide) hg); replace HO_419001 := am (Kd.R_over' (v := (.slice (some ⟨go108, 0, none⟩) x419003_1.length co108)) HO_419001.out (Kd.R_typed HO_419003.out) (by decide) hg); replace HO_419002 := am (Kd.R_over' (v := (.slice (some ⟨go108, 0, none⟩) x419003_1.length co108)) HO_419002.out (Kd.R_typed HO_419003.out) (by decide) hg); replace BK405 := am (blk_grown BK405.out hg (Kd.R_ne HO_419003.out BK405.out (by decide))); replace BK406 := am (blk_grown BK406.out hg (Kd.R_ne HO_419003.out BK406.out (by decide))); replace BK418 := am (blk_grown BK418.out hg (Kd.R_ne HO_419003.out BK418.out (by decide))); replace BK424 := am (blk_grown BK424.out hg (Kd.R_ne HO_419003.out BK424.out (by decide))); replace HO_419003 := am (hp_); replace HB := am (by rw [hw]; exact below_set HB.out GB108.out : Below w.heap.size w w114); clear hg hw hp_))
                 go_roundg k3
                 case measure => have := HK1.out; have := HJ67.out; have := HK3.out; omega
                 case rel => exact ⟨(x7_3), (wrap64 (x22_1 + 1)), (y437), (.slice (some ⟨go108, 0, none⟩) x419003_1.length co108), rfl, H', ⟨by have := HK1.out; have := HJ67.out; have := HK3.out; omega⟩, ⟨HO_7.out⟩, ⟨by exact Kd.R_mono HO_20.out (fun _ hk => hk.1)⟩, ⟨by exact Kd.R_mono HO_419001.out (fun _ hk => hk.1)⟩, ⟨by exact Kd.R_mono HO_419002.out (fun _ hk => ⟨hk.1, hk.2.1⟩)⟩, ⟨HO_419003.out⟩, ⟨BK405.out⟩, ⟨BK406.out⟩, ⟨BK418.out⟩, ⟨HB.out⟩⟩
                ·rw [if_neg c107] at H
                 exact absurd H (by simp)
               ·rw [if_neg c106] at H
                exact absurd H (by simp)
           ·replace c79 := Bool.eq_false_iff.mpr c79
            subst c79
            rw [if_neg (show ¬ (false = true) by decide)] at H
            by_cases c115 : 0 ≤ x22_1
            ·rw [if_pos c115] at H
             have c115b0 : decide (0 ≤ x22_1) = true := decide_eq_true c115
             clear c115
             by_cases c116 : x22_1 < (x419003_1.length : Int)
             ·rw [if_pos c116] at H
              have c116b0 : decide (x22_1 < (x419003_1.length : Int)) = true := decide_eq_true c116
              clear c116
              obtain ⟨y438, hy438⟩ : ∃ y_ : List Bool, y_ = (x419003_1.set (x22_1 : Int).toNat true) := ⟨_, rfl⟩
              replace H : (impl_JoinChunk.l0 kj67 l1 x7_1 t408 (t408.length : Int) (wrap64 (x22_1 + 1)) t407 t408 t411 y438 t417) = some (r1, r2, r3, r4, r5, r6) := by (rw [hy438]; with_reducible exact H)
              have Ny438 := am hy438
              clear hy438
              have H' := am H
              clear H
              have hnb118 := NB418_405.out
              have hnc118 := NB405_418.out
              have hnb119 := NB418_406.out
              have hnc119 := NB406_418.out
              have hnb120 := NB418_424.out
              have hnc120 := NB424_418.out
              obtain ⟨hcz121_0, hcz121_1, hcz121_2, hcz121_3, hcz121_4, hfz121_0, hfz121_1, hfz121_2, hfz121_3, hfz121_4⟩ := cells5_ BK418.out
              have p117 : 0 ≤ (x22_1 : Int) := of_decide_eq_true (by (with_reducible assumption))
              have q117 : (x22_1 : Int) < ((x419003_1.length : Int) : Int) := of_decide_eq_true (by (with_reducible assumption))
              obtain ⟨go117, co117, eo117, gb117, gl117, cl117, HG117⟩ := Kd.R_form HO_419003.out (by omega)
              (cases eo117)
              have GB117 := am gb117
              have GG117 := am HG117
              clear gb117 gl117 HG117
              obtain ⟨hx117_0, hf117_0⟩ := Kd.R_celln false HO_419003.out (x22_1 : Int) p117 q117
              replace p117 := eq_true p117
              replace q117 := eq_true q117
              have HP122 := Kd.R_putg HO_419003.out (x22_1 : Int) true
              go_wp2_with (((with_reducible refine gate_store (t := 4) (p := 70) rfl ?_); refine store_event (t := 4) (p := 70) (v := ?vo_w123) (w1 := (wc.setCell ⟨go117, (x22_1 : Int).toNat, none⟩ (.bool true))) ?hg ?ho ?hn ?hr ?_; (case ho => rfl); (case hg => rfl); (case hn => rfl); (case hr => (go_simp; done)); intro w123 hw; have hg : wc.grownBy w123 (some go117) := (by rw [hw]; exact HP122.2); have hp_ : Kd.R Kd.bool 4 w123 w.heap.size (fun _ => True) (.slice (some ⟨go117, 0, none⟩) x419003_1.length co117) y438 := (by rw [hw, Ny438.out]; exact HP122.1); clear HP122; replace HO_7 := am (Kd.R_over' (v := (.slice (some ⟨go117, 0, none⟩) x419003_1.length co117)) HO_7.out (Kd.R_typed HO_419003.out) (by decide) hg); replace HO_20 := am (Kd.R_over' (v := (.slice (some ⟨go117, 0, none⟩) x419003_1.length co117)) HO_20.out (Kd.R_typed HO_419003.out) (by decide) hg); replace HO_419001 := am (Kd.R_over' (v := (.slice (some ⟨go117, 0, none⟩) x419003_1.length co117)) HO_419001.out (Kd.R_typed HO_419003.out) (by decide) hg); replace HO_419002 := am (Kd.R_over' (v := (.slice (some ⟨go117, 0, none⟩) x419003_1.length co117)) HO_419002.out (Kd.R_typed HO_419003.out) (by decide) hg); replace BK405 := am (blk_grown BK405.out hg (Kd.R_ne HO_419003.out BK405.out (by decide))); replace BK406 := am (blk_grown BK406.out hg (Kd.R_ne HO_419003.out BK406.out (by decide))); replace BK418 := am (blk_grown BK418.out hg (Kd.R_ne HO_419003.out BK418.out (by decide))); replace BK424 := am (blk_grown BK424.out hg (Kd.R_ne HO_419003.out BK424.out (by decide))); replace HO_419003 := am (hp_); replace HB := am (by rw [hw]; exact below_set HB.out GB117.out : Below w.heap.size w w123); clear hg hw hp_))
              go_roundg kj67
              case measure => have := HK1.out; have := HJ67.out; omega
              case rel => exact ⟨(x7_1), (wrap64 (x22_1 + 1)), (y438), (.slice (some ⟨go117, 0, none⟩) x419003_1.length co117), rfl, H', ⟨by have := HK1.out; have := HJ67.out; omega⟩, ⟨HO_7.out⟩, ⟨by exact Kd.R_mono HO_20.out (fun _ hk => hk.1)⟩, ⟨by exact Kd.R_mono HO_419001.out (fun _ hk => hk.1)⟩, ⟨by exact Kd.R_mono HO_419002.out (fun _ hk => ⟨hk.1, hk.2.1⟩)⟩, ⟨HO_419003.out⟩, ⟨BK405.out⟩, ⟨BK406.out⟩, ⟨BK418.out⟩, ⟨HB.out⟩⟩
             ·rw [if_neg c116] at H
              exact absurd H (by simp)
            ·rw [if_neg c115] at H
             exact absurd H (by simp)
      ·rw [if_neg c25] at H
       exact absurd H (by simp)
     ·rw [if_neg c24] at H
      exact absurd H (by simp)
    ·rw [if_neg c23] at H
     have c23b0 : decide (x22_1 < (t408.length : Int)) = false := decide_eq_false c23
     clear c23
     simp only [Option.some.injEq, Prod.mk.injEq] at H
     obtain ⟨rfl, rfl, rfl, rfl, rfl, rfl⟩ := H
     try go_wp2
     replace HO_7 := am (Kd.R_drew HO_7.out)
     replace HO_20 := am (Kd.R_drew HO_20.out)
     replace HO_419001 := am (Kd.R_drew HO_419001.out)
     replace HO_419002 := am (Kd.R_drew HO_419002.out)
     replace HO_419003 := am (Kd.R_drew HO_419003.out)
     replace BK405 := am (blk_drew BK405.out)
     replace BK406 := am (blk_drew BK406.out)
     replace BK418 := am (blk_drew BK418.out)
     replace HB := am (below_drew1 HB.out)
     obtain ⟨Ao128, co128, eo128⟩ := Kd.R_slice HO_419003.out
     (subst eo128)
     refine start_ (n := 4) (S := fun w' => w'.cell? ⟨gb418, 0, none⟩ = some (.int .i64 t407) ∧ w'.cell? ⟨gb418, 1, none⟩ = some (.slice Ao15 t408.length co15) ∧ w'.cell? ⟨gb418, 2, none⟩ = some (.slice Ao16 t411.length co16) ∧ w'.cell? ⟨gb418, 3, none⟩ = some (.slice Ao128 x419003_1.length co128) ∧ w'.cell? ⟨gb418, 4, none⟩ = some (.int .i64 t417)) (ds := []) #[false, false, false, false] (by kernel_rfl) rfl rfl ⟨(blk_cell BK418.out 0).trans rfl, (blk_cell BK418.out 1).trans rfl, (blk_cell BK418.out 2).trans rfl, (blk_cell BK418.out 3).trans rfl, (blk_cell BK418.out 4).trans rfl⟩ (fun hHeld => ?_)
     generalize wr.drew = w124 at HO_7 HO_20 HO_419001 HO_419002 HO_419003 BK405 BK406 BK418 HB hHeld ⊢
     refine pure_ (i := 0) (N := some 72) (v := ?_) (a' := ?_) #[true, false, false, false] rfl rfl (by kernel_rfl) (fun _ _ _ h => h) (Or.inl ⟨rfl, ?_⟩) ?_ ?_
     rotate_left
     ·intro w'
      go_simp
      with_reducible rfl
     rotate_left
     ·simp only [Act.put, s2_, s0_, s1_, i64_w, i32_w]
      rfl
     refine pure_ (i := 2) (N := some 4) (v := ?_) (a' := ?_) #[true, false, true, false] rfl rfl (by kernel_rfl) (fun _ _ _ h => h) (Or.inl ⟨rfl, ?_⟩) ?_ ?_
     rotate_left
     ·intro w'
      go_simp
      with_reducible rfl
     rotate_left
     ·simp only [Act.put, s2_, s0_, s1_, i64_w, i32_w]
      rfl
     refine take_ (i := 1) (N := some 73) (v := ?_) (a' := ?_) #[true, true, true, false] rfl rfl (by kernel_rfl) (fun _ _ _ h => h) (Or.inl ⟨rfl, ?_⟩) hHeld ?_ ?_
     rotate_left
     ·rintro w' ⟨s0, s1, s2, s3, s4⟩
      go_simp
      with_reducible rfl
     rotate_left
     ·simp only [Act.put, s2_, s0_, s1_, i64_w, i32_w]
      rfl
     refine one_ (i := 3) (N := none) #[true, true, true, true] rfl rfl (by kernel_rfl) (by decide) (fun K hK => ?_)
     have hs125 : w124.cell? ⟨gb406, 0, none⟩ = some (.int .i64 0) := (blk_cell BK406.out 0).trans rfl
     have hfs125 := blk_frozen BK406.out 0
     have hns125_0 := NB405_406.out
     have hns125_2 := NB418_406.out
     have hms125_0 := NB406_405.out
     have hms125_2 := NB406_418.out
     have hs126 : w124.cell? ⟨gb406, 1, none⟩ = some (.slice none 0 0) := (blk_cell BK406.out 1).trans rfl
     have hfs126 := blk_frozen BK406.out 1
     have hns126_0 := NB405_406.out
     have hns126_2 := NB418_406.out
     have hms126_0 := NB406_405.out
     have hms126_2 := NB406_418.out
     have hs127 : w124.cell? ⟨gb406, 2, none⟩ = some (.slice none 0 0) := (blk_cell BK406.out 2).trans rfl
     have hfs127 := blk_frozen BK406.out 2
     have hns127_0 := NB405_406.out
     have hns127_2 := NB418_406.out
     have hms127_0 := NB406_405.out
     have hms127_2 := NB406_418.out
     have hs129 : w124.cell? ⟨gb406, 3, none⟩ = some (.slice none 0 0) := (blk_cell BK406.out 3).trans rfl
     have hfs129 := blk_frozen BK406.out 3
     have hns129_0 := NB405_406.out
     have hns129_2 := NB418_406.out
     have hms129_0 := NB406_405.out
     have hms129_2 := NB406_418.out
     have hs130 : w124.cell? ⟨gb406, 4, none⟩ = some (.int .i64 0) := (blk_cell BK406.out 4).trans rfl
     have hfs130 := blk_frozen BK406.out 4
     have hns130_0 := NB405_406.out
     have hns130_2 := NB418_406.out
     have hms130_0 := NB406_405.out
     have hms130_2 := NB406_418.out
     refine skip_ (w1 := ?_) rfl rfl ?_ ?_
     rotate_left
     ·go_simp
      rfl
     refine hK.out _ _ ⟨((cell_far (p := ⟨gb406, _, none⟩) NB418_406.out _).trans (((cell_far (p := ⟨gb406, _, none⟩) NB418_406.out _).trans (((cell_far (p := ⟨gb406, _, none⟩) NB418_406.out _).trans (((cell_far (p := ⟨gb406, _, none⟩) NB418_406.out _).trans (((cell_far (p := ⟨gb406, _, none⟩) NB418_406.out _).trans (hHeld.1)))))))))), ((cell_far (p := ⟨gb406, _, none⟩) NB418_406.out _).trans (((cell_far (p := ⟨gb406, _, none⟩) NB418_406.out _).trans (((cell_far (p := ⟨gb406, _, none⟩) NB418_406.out _).trans (((cell_far (p := ⟨gb406, _, none⟩) NB418_406.out _).trans (((cell_far (p := ⟨gb406, _, none⟩) NB418_406.out _).trans (hHeld.2.1)))))))))), ((cell_far (p := ⟨gb406, _, none⟩) NB418_406.out _).trans (((cell_far (p := ⟨gb406, _, none⟩) NB418_406.out _).trans (((cell_far (p := ⟨gb406, _, none⟩) NB418_406.out _).trans (((cell_far (p := ⟨gb406, _, none⟩) NB418_406.out _).trans (((cell_far (p := ⟨gb406, _, none⟩) NB418_406.out _).trans (hHeld.2.2.1)))))))))), ((cell_far (p := ⟨gb406, _, none⟩) NB418_406.out _).trans (((cell_far (p := ⟨gb406, _, none⟩) NB418_406.out _).trans (((cell_far (p := ⟨gb406, _, none⟩) NB418_406.out _).trans (((cell_far (p := ⟨gb406, _, none⟩) NB418_406.out _).trans (((cell_far (p := ⟨gb406, _, none⟩) NB418_406.out _).trans (hHeld.2.2.2.1)))))))))), ((cell_far (p := ⟨gb406, _, none⟩) NB418_406.out _).trans (((cell_far (p := ⟨gb406, _, none⟩) NB418_406.out _).trans (((cell_far (p := ⟨gb406, _, none⟩) NB418_406.out _).trans (((cell_far (p := ⟨gb406, _, none⟩) NB418_406.out _).trans (((cell_far (p := ⟨gb406, _, none⟩) NB418_406.out _).trans (hHeld.2.2.2.2))))))))))⟩ (fun hHeld => ?_)
     clear hK K
     refine done_ (by kernel_rfl) ?_
     try go_wp2
     refine bodyPost_ret (results_tc rfl _ _ gb406 40 #[.int .i64 t407, .slice Ao15 t408.length co15, .slice Ao16 t411.length co16, .slice Ao128 x419003_1.length co128, .int .i64 t417] (0, 0) _ rfl (by refine blk_put (cs := #[.int .i64 t407, .slice Ao15 t408.length co15, .slice Ao16 t411.length co16, .slice Ao128 x419003_1.length co128, .int .i64 0]) ?_ 4 _ rfl; refine blk_put (cs := #[.int .i64 t407, .slice Ao15 t408.length co15, .slice Ao16 t411.length co16, .slice none 0 0, .int .i64 0]) ?_ 3 _ rfl; refine blk_put (cs := #[.int .i64 t407, .slice Ao15 t408.length co15, .slice none 0 0, .slice none 0 0, .int .i64 0]) ?_ 2 _ rfl; refine blk_put (cs := #[.int .i64 t407, .slice none 0 0, .slice none 0 0, .slice none 0 0, .int .i64 0]) ?_ 1 _ rfl; refine blk_put (cs := #[.int .i64 0, .slice none 0 0, .slice none 0 0, .slice none 0 0, .int .i64 0]) ?_ 0 _ rfl; exact BK406.out) Try.underlying40 rfl (by kernel_rfl)) rfl ?_
     exact ⟨_, _, _, _, rfl, by exact Kd.R_mono (Kd.R_far (p := ⟨gb406, 4, none⟩) (Kd.R_far (p := ⟨gb406, 3, none⟩) (Kd.R_far (p := ⟨gb406, 2, none⟩) (Kd.R_far (p := ⟨gb406, 1, none⟩) (Kd.R_far (p := ⟨gb406, 0, none⟩) (Kd.R_types HO_7.out BK406.out (by decide)) (fun _ hk => hk.2) (.int .i64 t407)) (fun _ hk => hk.2) (.slice Ao15 t408.length co15)) (fun _ hk => hk.2) (.slice Ao16 t411.length co16)) (fun _ hk => hk.2) (.slice Ao128 x419003_1.length co128)) (fun _ hk => hk.2) (.int .i64 t417)) (fun _ hk => trivial), by exact Kd.R_mono (Kd.R_far (p := ⟨gb406, 4, none⟩) (Kd.R_far (p := ⟨gb406, 3, none⟩) (Kd.R_far (p := ⟨gb406, 2, none⟩) (Kd.R_far (p := ⟨gb406, 1, none⟩) (Kd.R_far (p := ⟨gb406, 0, none⟩) (Kd.R_types HO_419001.out BK406.out (by decide)) (fun _ hk => hk.2) (.int .i64 t407)) (fun _ hk => hk.2) (.slice Ao15 t408.length co15)) (fun _ hk => hk.2) (.slice Ao16 t411.length co16)) (fun _ hk => hk.2) (.slice Ao128 x419003_1.length co128)) (fun _ hk => hk.2) (.int .i64 t417)) (fun _ hk => hk.1), by exact Kd.R_mono (Kd.R_far (p := ⟨gb406, 4, none⟩) (Kd.R_far (p := ⟨gb406, 3, none⟩) (Kd.R_far (p := ⟨gb406, 2, none⟩) (Kd.R_far (p := ⟨gb406, 1, none⟩) (Kd.R_far (p := ⟨gb406, 0, none⟩) (Kd.R_types HO_419002.out BK406.out (by decide)) (fun _ hk => hk.2) (.int .i64 t407)) (fun _ hk => hk.2) (.slice Ao15 t408.length co15)) (fun _ hk => hk.2) (.slice Ao16 t411.length co16)) (fun _ hk => hk.2) (.slice Ao128 x419003_1.length co128)) (fun _ hk => hk.2) (.int .i64 t417)) (fun _ hk => hk.1.2), by exact Kd.R_mono (Kd.R_far (p := ⟨gb406, 4, none⟩) (Kd.R_far (p := ⟨gb406, 3, none⟩) (Kd.R_far (p := ⟨gb406, 2, none⟩) (Kd.R_far (p := ⟨gb406, 1, none⟩) (Kd.R_far (p := ⟨gb406, 0, none⟩) (Kd.R_types HO_419003.out BK406.out (by decide)) (fun _ hk => hk.2) (.int .i64 t407)) (fun _ hk => hk.2) (.slice Ao15 t408.length co15)) (fun _ hk => hk.2) (.slice Ao16 t411.length co16)) (fun _ hk => hk.2) (.slice Ao128 x419003_1.length co128)) (fun _ hk => hk.2) (.int .i64 t417)) (fun _ hk => trivial), by repeat ((with_reducible first | exact HB.out | refine below_set ?_ GE406.out))⟩
 ·replace c5 := Bool.eq_false_iff.mpr c5
  subst c5
  rw [if_neg (show ¬ (false = true) by decide)] at H
  simp only [Option.some.injEq, Prod.mk.injEq] at H
  obtain ⟨rfl, rfl, rfl, rfl, rfl, rfl⟩ := H
  go_enter Try.func117, Try.ntmps117
  try go_wp2_with (first | ((with_reducible refine gate_dst (N := 2) rfl ?_); refine box_event ?hg (N := 2) ?hd (cs := #[.int .i64 a0_0, .slice A0_1 l0_1.length c0_1, .slice A0_2 l0_2.length c0_2, .slice A0_3 l0_3.length c0_3, .int .i64 a0_4]) (t := 40) ?hr ?_; (case hd => rfl); (case hg => rfl); (case hr => (go_simp; done)); intro gb405 hg w131 hbox hb; have BK405 := am (hbox); have GW405 := am (gw_ hg HB.out); have GE405 := am (gw_ hg HB.out); replace HB := am (below_step HB.out hb); clear hb hbox hg) | ((with_reducible refine gate_dst (N := 5) rfl ?_); refine box_event ?hg (N := 5) ?hd (cs := #[.int .i64 0, .slice none 0 0, .slice none 0 0, .slice none 0 0, .int .i64 0]) (t := 40) ?hr ?_; (case hd => rfl); (case hg => rfl); (case hr => (go_simp; done)); intro gb406 hg w132 hbox hb; have BK406 := am (hbox); have GW406 := am (gw_ hg HB.out); have GE406 := am (gw_ hg HB.out); replace HB := am (below_step HB.out hb); have NB405_406 := am ((by rw [hg]; exact Nat.ne_of_lt (blk_lt (g := gb405) (o := .cells #[.int .i64 a0_0, .slice A0_1 l0_1.length c0_1, .slice A0_2 l0_2.length c0_2, .slice A0_3 l0_3.length c0_3, .int .i64 a0_4] 40 (0, 0)) BK405.out) : gb405 ≠ gb406)); have NB406_405 := am ((by rw [hg]; exact Nat.ne_of_gt (blk_lt (g := gb405) (o := .cells #[.int .i64 a0_0, .slice A0_1 l0_1.length c0_1, .slice A0_2 l0_2.length c0_2, .slice A0_3 l0_3.length c0_3, .int .i64 a0_4] 40 (0, 0)) BK405.out) : gb406 ≠ gb405)); replace BK405 := am (blk_below BK405.out hb); clear hb hbox hg; have hnb133 := NB405_406.out; have hnc133 := NB406_405.out; obtain ⟨hcz134_0, hcz134_1, hcz134_2, hcz134_3, hcz134_4, hfz134_0, hfz134_1, hfz134_2, hfz134_3, hfz134_4⟩ := cells5_ BK405.out) | ((with_reducible refine gate_callee (f := 179) rfl ?_); refine goesL_ (some 13) rfl rfl Try.func179 (by kernel_rfl) rfl #[.agg #[.int .i64 a0_0, .slice A0_1 l0_1.length c0_1, .slice A0_2 l0_2.length c0_2, .slice A0_3 l0_3.length c0_3, .int .i64 a0_4]] rfl (by (try simp only [List.map_toArray, List.map_cons, List.map_nil]); rfl) ?_; (with_reducible refine (impl_cloneTask.calls a0_0 _ _ l0_1 _ _ l0_2 _ _ l0_3 a0_4 t407 t408 t411 t414 t417 _ ?side1 ?side2 ?side3 ?side4 ?side5 ?side6 A3.out).mono ?_); (case side1 => repeat (exact (Kd.C_below HR0_1.out HB.out))); (case side2 => exact HC0_1.out); (case side3 => repeat (exact (Kd.C_below HR0_2.out HB.out))); (case side4 => exact HC0_2.out); (case side5 => repeat (exact (Kd.C_below HR0_3.out HB.out))); (case side6 => exact HC0_3.out); rintro e w135 ⟨v409, v412, v415, rfl, ho0, ho1, ho2, hb⟩; refine ⟨_, rfl, ?_⟩; have HO410 := am (Kd.R_lower ho0 (below_size HB.out)); have HO413 := am (Kd.R_lower ho1 (below_size HB.out)); have HO416 := am (Kd.R_lower ho2 (below_size HB.out)); replace BK405 := am (blk_below BK405.out hb); replace BK406 := am (blk_below BK406.out hb); replace HB := am (below_step HB.out hb); (try clear hb); (try clear ho0); (try clear ho1); (try clear ho2)) | ((with_reducible refine gate_dst (N := 6) rfl ?_); refine box_event ?hg (N := 6) ?hd (cs := #[.int .i64 0, .slice none 0 0, .slice none 0 0, .slice none 0 0, .int .i64 0]) (t := 40) ?hr ?_; (case hd => rfl); (case hg => rfl); (case hr => (go_simp; done)); intro gb418 hg w136 hbox hb; replace HO410 := am (Kd.R_below HO410.out hb); replace HO413 := am (Kd.R_below HO413.out hb); replace HO416 := am (Kd.R_below HO416.out hb); have BK418 := am (hbox); have GW418 := am (gw_ hg HB.out); have GE418 := am (gw_ hg HB.out); replace HB := am (below_step HB.out hb); have NB405_418 := am ((by rw [hg]; exact Nat.ne_of_lt (blk_lt (g := gb405) (o := .cells #[.int .i64 a0_0, .slice A0_1 l0_1.length c0_1, .slice A0_2 l0_2.length c0_2, .slice A0_3 l0_3.length c0_3, .int .i64 a0_4] 40 (0, 0)) BK405.out) : gb405 ≠ gb418)); have NB418_405 := am ((by rw [hg]; exact Nat.ne_of_gt (blk_lt (g := gb405) (o := .cells #[.int .i64 a0_0, .slice A0_1 l0_1.length c0_1, .slice A0_2 l0_2.length c0_2, .slice A0_3 l0_3.length c0_3, .int .i64 a0_4] 40 (0, 0)) BK405.out) : gb418 ≠ gb405)); replace BK405 := am (blk_below BK405.out hb); have NB406_418 := am ((by rw [hg]; exact Nat.ne_of_lt (blk_lt (g := gb406) (o := .cells #[.int .i64 0, .slice none 0 0, .slice none 0 0, .slice none 0 0, .int .i64 0] 40 (0, 0)) BK406.out) : gb406 ≠ gb418)); have NB418_406 := am ((by rw [hg]; exact Nat.ne_of_gt (blk_lt (g := gb406) (o := .cells #[.int .i64 0, .slice none 0 0, .slice none 0 0, .slice none 0 0, .int .i64 0] 40 (0, 0)) BK406.out) : gb418 ≠ gb406)); replace BK406 := am (blk_below BK406.out hb); clear hb hbox hg; have hnb137 := NB418_405.out; have hnc137 := NB405_418.out; have hnb138 := NB418_406.out; have hnc138 := NB406_418.out; obtain ⟨hcz139_0, hcz139_1, hcz139_2, hcz139_3, hcz139_4, hfz139_0, hfz139_1, hfz139_2, hfz139_3, hfz139_4⟩ := cells5_ BK418.out; obtain ⟨Ao140, co140, eo140⟩ := Kd.R_slice HO410.out; subst eo140; obtain ⟨Ao141, co141, eo141⟩ := Kd.R_slice HO413.out; subst eo141; obtain ⟨Ao142, co142, eo142⟩ := Kd.R_slice HO416.out; subst eo142; obtain ⟨hcz143_0, hcz143_1, hcz143_2, hcz143_3, hcz143_4, hfz143_0, hfz143_1, hfz143_2, hfz143_3, hfz143_4⟩ := cells5_ BK405.out) | ((with_reducible refine gate_callee (f := 39) rfl ?_); refine goesL_ (some 15) rfl rfl Try.func39 (by kernel_rfl) rfl #[.agg #[.int .i64 a0_0, .slice A0_1 l0_1.length c0_1, .slice A0_2 l0_2.length c0_2, .slice A0_3 l0_3.length c0_3, .int .i64 a0_4]] rfl (by (try simp only [List.map_toArray, List.map_cons, List.map_nil]); rfl) ?_; (with_reducible refine (impl_IsValidTask.calls k a0_0 _ _ l0_1 _ _ l0_2 _ _ l0_3 a0_4 false _ ?side1 ?side2 ?side3 ?side4 ?side5 ?side6 A4.out).mono ?_); (case side1 => exact Kd.C_below HR0_1.out (by repeat (with_reducible first | exact HB.out | refine below_set ?_ GE418.out))); (case side2 => exact HC0_1.out); (case side3 => exact Kd.C_below HR0_2.out (by repeat (with_reducible first | exact HB.out | refine below_set ?_ GE418.out))); (case side4 => exact HC0_2.out); (case side5 => exact Kd.C_below HR0_3.out (by repeat (with_reducible first | exact HB.out | refine below_set ?_ GE418.out))); (case side6 => exact HC0_3.out); rintro e w144 ⟨rfl, hb⟩; refine ⟨_, rfl, ?_⟩; replace HO410 := am (Kd.R_below (by exact (Kd.R_mono (Kd.R_far (p := ⟨gb418, 4, none⟩) (Kd.R_far (p := ⟨gb418, 3, none⟩) (Kd.R_far (p := ⟨gb418, 2, none⟩) (Kd.R_far (p := ⟨gb418, 1, none⟩) (Kd.R_far (p := ⟨gb418, 0, none⟩) (Kd.R_types HO410.out BK418.out (by decide)) (fun _ hk => hk.2) (.int .i64 t407)) (fun _ hk => hk.2) (.slice Ao140 t408.length co140)) (fun _ hk => hk.2) (.slice Ao141 t411.length co141)) (fun _ hk => hk.2) (.slice Ao142 t414.length co142)) (fun _ hk => hk.2) (.int .i64 t417)) (fun _ h_ => h_.1))) hb); replace HO413 := am (Kd.R_below (by exact (Kd.R_mono (Kd.R_far (p := ⟨gb418, 4, none⟩) (Kd.R_far (p := ⟨gb418, 3, none⟩) (Kd.R_far (p := ⟨gb418, 2, none⟩) (Kd.R_far (p := ⟨gb418, 1, none⟩) (Kd.R_far (p := ⟨gb418, 0, none⟩) (Kd.R_types HO413.out BK418.out (by decide)) (fun _ hk => hk.2) (.int .i64 t407)) (fun _ hk => hk.2) (.slice Ao140 t408.length co140)) (fun _ hk => hk.2) (.slice Ao141 t411.length co141)) (fun _ hk => hk.2) (.slice Ao142 t414.length co142)) (fun _ hk => hk.2) (.int .i64 t417)) (fun _ h_ => h_.1))) hb); replace HO416 := am (Kd.R_below (by exact (Kd.R_mono (Kd.R_far (p := ⟨gb418, 4, none⟩) (Kd.R_far (p := ⟨gb418, 3, none⟩) (Kd.R_far (p := ⟨gb418, 2, none⟩) (Kd.R_far (p := ⟨gb418, 1, none⟩) (Kd.R_far (p := ⟨gb418, 0, none⟩) (Kd.R_types HO416.out BK418.out (by decide)) (fun _ hk => hk.2) (.int .i64 t407)) (fun _ hk => hk.2) (.slice Ao140 t408.length co140)) (fun _ hk => hk.2) (.slice Ao141 t411.length co141)) (fun _ hk => hk.2) (.slice Ao142 t414.length co142)) (fun _ hk => hk.2) (.int .i64 t417)) (fun _ h_ => h_.1))) hb); replace BK405 := am (blk_below (g := gb405) (o := .cells #[.int .i64 a0_0, .slice A0_1 l0_1.length c0_1, .slice A0_2 l0_2.length c0_2, .slice A0_3 l0_3.length c0_3, .int .i64 a0_4] 40 (0, 0)) (by refine blk_far ?_ NB405_418.out _; refine blk_far ?_ NB405_418.out _; refine blk_far ?_ NB405_418.out _; refine blk_far ?_ NB405_418.out _; refine blk_far ?_ NB405_418.out _; exact BK405.out) hb); replace BK406 := am (blk_below (g := gb406) (o := .cells #[.int .i64 0, .slice none 0 0, .slice none 0 0, .slice none 0 0, .int .i64 0] 40 (0, 0)) (by refine blk_far ?_ NB406_418.out _; refine blk_far ?_ NB406_418.out _; refine blk_far ?_ NB406_418.out _; refine blk_far ?_ NB406_418.out _; refine blk_far ?_ NB406_418.out _; exact BK406.out) hb); replace BK418 := am (blk_below (g := gb418) (o := .cells #[.int .i64 t407, .slice Ao140 t408.length co140, .slice Ao141 t411.length co141, .slice Ao142 t414.length co142, .int .i64 t417] 40 (0, 0)) (by refine blk_put (cs := #[.int .i64 t407, .slice Ao140 t408.length co140, .slice Ao141 t411.length co141, .slice Ao142 t414.length co142, .int .i64 0]) ?_ 4 _ rfl; refine blk_put (cs := #[.int .i64 t407, .slice Ao140 t408.length co140, .slice Ao141 t411.length co141, .slice none 0 0, .int .i64 0]) ?_ 3 _ rfl; refine blk_put (cs := #[.int .i64 t407, .slice Ao140 t408.length co140, .slice none 0 0, .slice none 0 0, .int .i64 0]) ?_ 2 _ rfl; refine blk_put (cs := #[.int .i64 t407, .slice none 0 0, .slice none 0 0, .slice none 0 0, .int .i64 0]) ?_ 1 _ rfl; refine blk_put (cs := #[.int .i64 0, .slice none 0 0, .slice none 0 0, .slice none 0 0, .int .i64 0]) ?_ 0 _ rfl; exact BK418.out) hb); replace HB := am (below_step (by repeat (with_reducible first | exact HB.out | refine below_set ?_ GE418.out)) hb); (try clear hb)))
  replace HO410 := am (Kd.R_drew HO410.out)
  replace HO413 := am (Kd.R_drew HO413.out)
  replace HO416 := am (Kd.R_drew HO416.out)
  replace BK405 := am (blk_drew BK405.out)
  replace BK406 := am (blk_drew BK406.out)
  replace BK418 := am (blk_drew BK418.out)
  replace HB := am (below_drew1 HB.out)
  refine start_ (n := 3) (S := fun w' => w'.cell? ⟨gb418, 0, none⟩ = some (.int .i64 t407) ∧ w'.cell? ⟨gb418, 1, none⟩ = some (.slice Ao140 t408.length co140) ∧ w'.cell? ⟨gb418, 2, none⟩ = some (.slice Ao141 t411.length co141) ∧ w'.cell? ⟨gb418, 3, none⟩ = some (.slice Ao142 t414.length co142) ∧ w'.cell? ⟨gb418, 4, none⟩ = some (.int .i64 t417)) (ds := []) #[false, false, false] (by kernel_rfl) rfl rfl ⟨(blk_cell BK418.out 0).trans rfl, (blk_cell BK418.out 1).trans rfl, (blk_cell BK418.out 2).trans rfl, (blk_cell BK418.out 3).trans rfl, (blk_cell BK418.out 4).trans rfl⟩ (fun hHeld => ?_)
  generalize w144.drew = w145 at HO410 HO413 HO416 BK405 BK406 BK418 HB hHeld ⊢
  refine pure_ (i := 1) (N := some 4) (v := ?_) (a' := ?_) #[false, true, false] rfl rfl (by kernel_rfl) (fun _ _ _ h => h) (Or.inl ⟨rfl, ?_⟩) ?_ ?_
  rotate_left
  ·intro w'
   go_simp
   with_reducible rfl
  rotate_left
  ·simp only [Act.put, s2_, s0_, s1_, i64_w, i32_w]
   rfl
  refine take_ (i := 0) (N := some 17) (v := ?_) (a' := ?_) #[true, true, false] rfl rfl (by kernel_rfl) (fun _ _ _ h => h) (Or.inl ⟨rfl, ?_⟩) hHeld ?_ ?_
  rotate_left
  ·rintro w' ⟨s0, s1, s2, s3, s4⟩
   go_simp
   with_reducible rfl
  rotate_left
  ·simp only [Act.put, s2_, s0_, s1_, i64_w, i32_w]
   rfl
  refine one_ (i := 2) (N := none) #[true, true, true] rfl rfl (by kernel_rfl) (by decide) (fun K hK => ?_)
  have hs146 : w145.cell? ⟨gb406, 0, none⟩ = some (.int .i64 0) := (blk_cell BK406.out 0).trans rfl
  have hfs146 := blk_frozen BK406.out 0
  have hns146_0 := NB405_406.out
  have hns146_2 := NB418_406.out
  have hms146_0 := NB406_405.out
  have hms146_2 := NB406_418.out
  have hs147 : w145.cell? ⟨gb406, 1, none⟩ = some (.slice none 0 0) := (blk_cell BK406.out 1).trans rfl
  have hfs147 := blk_frozen BK406.out 1
  have hns147_0 := NB405_406.out
  have hns147_2 := NB418_406.out
  have hms147_0 := NB406_405.out
  have hms147_2 := NB406_418.out
  have hs148 : w145.cell? ⟨gb406, 2, none⟩ = some (.slice none 0 0) := (blk_cell BK406.out 2).trans rfl
  have hfs148 := blk_frozen BK406.out 2
  have hns148_0 := NB405_406.out
  have hns148_2 := NB418_406.out
  have hms148_0 := NB406_405.out
  have hms148_2 := NB406_418.out
  have hs149 : w145.cell? ⟨gb406, 3, none⟩ = some (.slice none 0 0) := (blk_cell BK406.out 3).trans rfl
  have hfs149 := blk_frozen BK406.out 3
  have hns149_0 := NB405_406.out
  have hns149_2 := NB418_406.out
  have hms149_0 := NB406_405.out
  have hms149_2 := NB406_418.out
  have hs150 : w145.cell? ⟨gb406, 4, none⟩ = some (.int .i64 0) := (blk_cell BK406.out 4).trans rfl
  have hfs150 := blk_frozen BK406.out 4
  have hns150_0 := NB405_406.out
  have hns150_2 := NB418_406.out
  have hms150_0 := NB406_405.out
  have hms150_2 := NB406_418.out
  refine skip_ (w1 := ?_) rfl rfl ?_ ?_
  rotate_left
  ·go_simp
   rfl
  refine hK.out _ _ ⟨((cell_far (p := ⟨gb406, _, none⟩) NB418_406.out _).trans (((cell_far (p := ⟨gb406, _, none⟩) NB418_406.out _).trans (((cell_far (p := ⟨gb406, _, none⟩) NB418_406.out _).trans (((cell_far (p := ⟨gb406, _, none⟩) NB418_406.out _).trans (((cell_far (p := ⟨gb406, _, none⟩) NB418_406.out _).trans (hHeld.1)))))))))), ((cell_far (p := ⟨gb406, _, none⟩) NB418_406.out _).trans (((cell_far (p := ⟨gb406, _, none⟩) NB418_406.out _).trans (((cell_far (p := ⟨gb406, _, none⟩) NB418_406.out _).trans (((cell_far (p := ⟨gb406, _, none⟩) NB418_406.out _).trans (((cell_far (p := ⟨gb406, _, none⟩) NB418_406.out _).trans (hHeld.2.1)))))))))), ((cell_far (p := ⟨gb406, _, none⟩) NB418_406.out _).trans (((cell_far (p := ⟨gb406, _, none⟩) NB418_406.out _).trans (((cell_far (p := ⟨gb406, _, none⟩) NB418_406.out _).trans (((cell_far (p := ⟨gb406, _, none⟩) NB418_406.out _).trans (((cell_far (p := ⟨gb406, _, none⟩) NB418_406.out _).trans (hHeld.2.2.1)))))))))), ((cell_far (p := ⟨gb406, _, none⟩) NB418_406.out _).trans (((cell_far (p := ⟨gb406, _, none⟩) NB418_406.out _).trans (((cell_far (p := ⟨gb406, _, none⟩) NB418_406.out _).trans (((cell_far (p := ⟨gb406, _, none⟩) NB418_406.out _).trans (((cell_far (p := ⟨gb406, _, none⟩) NB418_406.out _).trans (hHeld.2.2.2.1)))))))))), ((cell_far (p := ⟨gb406, _, none⟩) NB418_406.out _).trans (((cell_far (p := ⟨gb406, _, none⟩) NB418_406.out _).trans (((cell_far (p := ⟨gb406, _, none⟩) NB418_406.out _).trans (((cell_far (p := ⟨gb406, _, none⟩) NB418_406.out _).trans (((cell_far (p := ⟨gb406, _, none⟩) NB418_406.out _).trans (hHeld.2.2.2.2))))))))))⟩ (fun hHeld => ?_)
  clear hK K
  refine done_ (by kernel_rfl) ?_
  try go_wp2
  refine bodyPost_ret (results_tc rfl _ _ gb406 40 #[.int .i64 t407, .slice Ao140 t408.length co140, .slice Ao141 t411.length co141, .slice Ao142 t414.length co142, .int .i64 t417] (0, 0) _ rfl (by refine blk_put (cs := #[.int .i64 t407, .slice Ao140 t408.length co140, .slice Ao141 t411.length co141, .slice Ao142 t414.length co142, .int .i64 0]) ?_ 4 _ rfl; refine blk_put (cs := #[.int .i64 t407, .slice Ao140 t408.length co140, .slice Ao141 t411.length co141, .slice none 0 0, .int .i64 0]) ?_ 3 _ rfl; refine blk_put (cs := #[.int .i64 t407, .slice Ao140 t408.length co140, .slice none 0 0, .slice none 0 0, .int .i64 0]) ?_ 2 _ rfl; refine blk_put (cs := #[.int .i64 t407, .slice none 0 0, .slice none 0 0, .slice none 0 0, .int .i64 0]) ?_ 1 _ rfl; refine blk_put (cs := #[.int .i64 0, .slice none 0 0, .slice none 0 0, .slice none 0 0, .int .i64 0]) ?_ 0 _ rfl; exact BK406.out) Try.underlying40 rfl (by kernel_rfl)) rfl ?_
  exact ⟨_, _, _, _, rfl, by exact Kd.R_nil _ _ _ _ _, by exact Kd.R_mono (Kd.R_far (p := ⟨gb406, 4, none⟩) (Kd.R_far (p := ⟨gb406, 3, none⟩) (Kd.R_far (p := ⟨gb406, 2, none⟩) (Kd.R_far (p := ⟨gb406, 1, none⟩) (Kd.R_far (p := ⟨gb406, 0, none⟩) (Kd.R_types HO410.out BK406.out (by decide)) (fun _ hk => hk.2) (.int .i64 t407)) (fun _ hk => hk.2) (.slice Ao140 t408.length co140)) (fun _ hk => hk.2) (.slice Ao141 t411.length co141)) (fun _ hk => hk.2) (.slice Ao142 t414.length co142)) (fun _ hk => hk.2) (.int .i64 t417)) (fun _ hk => hk.1), by exact Kd.R_mono (Kd.R_far (p := ⟨gb406, 4, none⟩) (Kd.R_far (p := ⟨gb406, 3, none⟩) (Kd.R_far (p := ⟨gb406, 2, none⟩) (Kd.R_far (p := ⟨gb406, 1, none⟩) (Kd.R_far (p := ⟨gb406, 0, none⟩) (Kd.R_types HO413.out BK406.out (by decide)) (fun _ hk => hk.2) (.int .i64 t407)) (fun _ hk => hk.2) (.slice Ao140 t408.length co140)) (fun _ hk => hk.2) (.slice Ao141 t411.length co141)) (fun _ hk => hk.2) (.slice Ao142 t414.length co142)) (fun _ hk => hk.2) (.int .i64 t417)) (fun _ hk => hk.1), by exact Kd.R_mono (Kd.R_far (p := ⟨gb406, 4, none⟩) (Kd.R_far (p := ⟨gb406, 3, none⟩) (Kd.R_far (p := ⟨gb406, 2, none⟩) (Kd.R_far (p := ⟨gb406, 1, none⟩) (Kd.R_far (p := ⟨gb406, 0, none⟩) (Kd.R_types HO416.out BK406.out (by decide)) (fun _ hk => hk.2) (.int .i64 t407)) (fun _ hk => hk.2) (.slice Ao140 t408.length co140)) (fun _ hk => hk.2) (.slice Ao141 t411.length co141)) (fun _ hk => hk.2) (.slice Ao142 t414.length co142)) (fun _ hk => hk.2) (.int .i64 t417)) (fun _ hk => trivial), by repeat ((with_reducible first | exact HB.out | refine below_set ?_ GE406.out))⟩

mutual
def impl_UnmatchedRows.j0 : Nat → Bool → Int → List (S60) → List (S60) → List Bool → Int → Option ((List (S128)))
 | 0, _, _, _, _, _, _ => none
 | k + 1, x18, x440000, x440001, x440002, x440003, x440004 => if x18 = true then (some ([] : List (S128))) else (impl_UnmatchedRows.l0 k (([] : List (S128))) x440001 (x440001.length : Int) 0 x440000 x440001 x440002 x440003 x440004)
def impl_UnmatchedRows.l0 : Nat → List (S128) → List (S60) → Int → Int → Int → List (S60) → List (S60) → List Bool → Int → Option ((List (S128)))
 | 0, _, _, _, _, _, _, _, _, _ => none
 | k + 1, x3, x21, x22, x23, x440000, x440001, x440002, x440003, x440004 => if x23 < x22 then (if 0 ≤ x23 then (if x23 < (x21.length : Int) then (if x23 < (x440003.length : Int) then (if rdOf false x440003 x23 = true then (impl_UnmatchedRows.l0 k x3 x21 x22 (wrap64 (x23 + 1)) x440000 x440001 x440002 x440003 x440004) else (if x3.length < 2513169434916 then (impl_UnmatchedRows.l0 k (x3 ++ [(⟨(⟨(rd_T60 x21 x23).f0, (rd_T60 x21 x23).f1, (rd_T60 x21 x23).f2⟩ : S60), (⟨0, 0, 0⟩ : S60), false⟩ : S128)]) x21 x22 (wrap64 (x23 + 1)) x440000 x440001 x440002 x440003 x440004) else (none))) else (none)) else (none)) else (none)) else (some x3)
end
def impl_UnmatchedRows.f (k : Nat) (a0_0 : Int) (l0_1 : List (S60)) (l0_2 : List (S60)) (l0_3 : List Bool) (a0_4 : Int) : Option ((List (S128))) := (impl_IsValidTask.f k a0_0 l0_1 l0_2 l0_3 a0_4).bind fun t440 => (if t440 = true then (if a0_0 = 3 then (impl_UnmatchedRows.j0 k false a0_0 l0_1 l0_2 l0_3 a0_4) else (impl_UnmatchedRows.j0 k (a0_0 != 4) a0_0 l0_1 l0_2 l0_3 a0_4)) else (impl_UnmatchedRows.j0 k true a0_0 l0_1 l0_2 l0_3 a0_4))
theorem impl_UnmatchedRows.calls (k : Nat) (a0_0 : Int) (A0_1 : Option Addr) (c0_1 : Nat) (l0_1 : List (S60)) (A0_2 : Option Addr) (c0_2 : Nat) (l0_2 : List (S60)) (A0_3 : Option Addr) (c0_3 : Nat) (l0_3 : List Bool) (a0_4 : Int) (r : List (S128)) (w : World) (hr0_1 : Kd.C k60 w A0_1 l0_1.length l0_1) (hc0_1 : l0_1.length ≤ c0_1) (hr0_2 : Kd.C k60 w A0_2 l0_2.length l0_2) (hc0_2 : l0_2.length ≤ c0_2) (hr0_3 : Kd.C Kd.bool w A0_3 l0_3.length l0_3) (hc0_3 : l0_3.length ≤ c0_3) (h : impl_UnmatchedRows.f k a0_0 l0_1 l0_2 l0_3 a0_4 = some r) :
  Calls Try.prog 118 #[.agg #[.int .i64 a0_0, .slice A0_1 l0_1.length c0_1, .slice A0_2 l0_2.length c0_2, .slice A0_3 l0_3.length c0_3, .int .i64 a0_4]] w fun e w' => ∃ v0_ : Value, e = .returned (v0_) ∧ Kd.R k128 128 w' w.heap.size (fun _ => True) v0_ r ∧ Below w.heap.size w w' := by
 have hu40 := Try.underlying40
 have hu60 := Try.underlying60
 have hu128 := Try.underlying128
 have HR0_1 := am hr0_1
 have HC0_1 := am hc0_1
 clear hr0_1 hc0_1
 have HR0_2 := am hr0_2
 have HC0_2 := am hc0_2
 clear hr0_2 hc0_2
 have HR0_3 := am hr0_3
 have HC0_3 := am hc0_3
 clear hr0_3 hc0_3
 have HB := am (Below.refl w.heap.size w)
 have H : ((impl_IsValidTask.f k a0_0 l0_1 l0_2 l0_3 a0_4).bind fun t440 => (if t440 = true then (if a0_0 = 3 then (impl_UnmatchedRows.j0 k false a0_0 l0_1 l0_2 l0_3 a0_4) else (impl_UnmatchedRows.j0 k (a0_0 != 4) a0_0 l0_1 l0_2 l0_3 a0_4)) else (impl_UnmatchedRows.j0 k true a0_0 l0_1 l0_2 l0_3 a0_4))) = some r := h
 clear h
 have HC2 := am H
 clear H
 go_enter Try.func118, Try.ntmps118
 go_upto_region 1 with (((with_reducible refine gate_dst (N := 1) rfl ?_); refine box_event ?hg (N := 1) ?hd (cs := #[.int .i64 a0_0, .slice A0_1 l0_1.length c0_1, .slice A0_2 l0_2.length c0_2, .slice A0_3 l0_3.length c0_3, .int .i64 a0_4]) (t := 40) ?hr ?_; (case hd => rfl); (case hg => rfl); (case hr => (go_simp; done)); intro gb439 hg w3 hbox hb; have BK439 := am (hbox); have GW439 := am (gw_ hg HB.out); have GE439 := am (gw_ hg HB.out); replace HB := am (below_step HB.out hb); clear hb hbox hg))
 (try simp only [Act.put, s2_, s0_, s1_])
 go_cut [18] (fun v18 wc => ∃ (kq : Nat) (x18_1 : Bool), v18 = .bool x18_1 ∧ Aside0 (impl_UnmatchedRows.j0 kq x18_1 a0_0 l0_1 l0_2 l0_3 a0_4 = some r) ∧ Aside0 (kq ≤ k) ∧ Aside0 (wc.heap[gb439]? = some (.cells #[.int .i64 a0_0, (.slice A0_1 l0_1.length c0_1), (.slice A0_2 l0_2.length c0_2), (.slice A0_3 l0_3.length c0_3), .int .i64 a0_4] 40 (0, 0))) ∧ Aside0 (Below w.heap.size w wc))
 case first =>
  have H := HC2.out
  clear HC2
  replace H := Option.bind_eq_some_iff.mp H
  obtain ⟨t440, A40, H⟩ := H
  have A4 := am A40
  clear A40
  by_cases c5 : t440 = true
  ·subst c5
   rw [if_pos rfl] at H
   by_cases c6 : a0_0 = 3
   ·rw [if_pos c6] at H
    have c6b0 : (a0_0 == 3) = true := beq_iff_eq.mpr c6
    have c6b1 : (a0_0 != 3) = false := bne_eq_false_iff_eq.mpr c6
    clear c6
    (skip)
    have H' := am H
    clear H
    obtain ⟨hcz7_0, hcz7_1, hcz7_2, hcz7_3, hcz7_4, hfz7_0, hfz7_1, hfz7_2, hfz7_3, hfz7_4⟩ := cells5_ BK439.out
    go_wp2_with (((with_reducible refine gate_callee (f := 39) rfl ?_); refine goesL_ (some 7) rfl rfl Try.func39 (by kernel_rfl) rfl #[.agg #[.int .i64 a0_0, .slice A0_1 l0_1.length c0_1, .slice A0_2 l0_2.length c0_2, .slice A0_3 l0_3.length c0_3, .int .i64 a0_4]] rfl (by (try simp only [List.map_toArray, List.map_cons, List.map_nil]); rfl) ?_; (with_reducible refine (impl_IsValidTask.calls k a0_0 _ _ l0_1 _ _ l0_2 _ _ l0_3 a0_4 true _ ?side1 ?side2 ?side3 ?side4 ?side5 ?side6 A4.out).mono ?_); (case side1 => repeat (exact (Kd.C_below HR0_1.out HB.out))); (case side2 => exact HC0_1.out); (case side3 => repeat (exact (Kd.C_below HR0_2.out HB.out))); (case side4 => exact HC0_2.out); (case side5 => repeat (exact (Kd.C_below HR0_3.out HB.out))); (case side6 => exact HC0_3.out); rintro e w8 ⟨rfl, hb⟩; refine ⟨_, rfl, ?_⟩; replace BK439 := am (blk_below BK439.out hb); replace HB := am (below_step HB.out hb); (try clear hb); obtain ⟨hcz9_0, hcz9_1, hcz9_2, hcz9_3, hcz9_4, hfz9_0, hfz9_1, hfz9_2, hfz9_3, hfz9_4⟩ := cells5_ BK439.out))
    go_meet
    case rel => exact ⟨_, (false), rfl, H', ⟨by omega⟩, ⟨BK439.out⟩, ⟨HB.out⟩⟩
   ·rw [if_neg c6] at H
    have c6b0 : (a0_0 == 3) = false := beq_eq_false_iff_ne.mpr c6
    have c6b1 : (a0_0 != 3) = true := bne_iff_ne.mpr c6
    (skip)
    have H' := am H
    clear H
    obtain ⟨hcz10_0, hcz10_1, hcz10_2, hcz10_3, hcz10_4, hfz10_0, hfz10_1, hfz10_2, hfz10_3, hfz10_4⟩ := cells5_ BK439.out
    go_wp2_with (((with_reducible refine gate_callee (f := 39) rfl ?_); refine goesL_ (some 7) rfl rfl Try.func39 (by kernel_rfl) rfl #[.agg #[.int .i64 a0_0, .slice A0_1 l0_1.length c0_1, .slice A0_2 l0_2.length c0_2, .slice A0_3 l0_3.length c0_3, .int .i64 a0_4]] rfl (by (try simp only [List.map_toArray, List.map_cons, List.map_nil]); rfl) ?_; (with_reducible refine (impl_IsValidTask.calls k a0_0 _ _ l0_1 _ _ l0_2 _ _ l0_3 a0_4 true _ ?side1 ?side2 ?side3 ?side4 ?side5 ?side6 A4.out).mono ?_); (case side1 => repeat (exact (Kd.C_below HR0_1.out HB.out))); (case side2 => exact HC0_1.out); (case side3 => repeat (exact (Kd.C_below HR0_2.out HB.out))); (case side4 => exact HC0_2.out); (case side5 => repeat (exact (Kd.C_below HR0_3.out HB.out))); (case side6 => exact HC0_3.out); rintro e w11 ⟨rfl, hb⟩; refine ⟨_, rfl, ?_⟩; replace BK439 := am (blk_below BK439.out hb); replace HB := am (below_step HB.out hb); (try clear hb); obtain ⟨hcz12_0, hcz12_1, hcz12_2, hcz12_3, hcz12_4, hfz12_0, hfz12_1, hfz12_2, hfz12_3, hfz12_4⟩ := cells5_ BK439.out))
    go_meet
    case rel => exact ⟨_, ((a0_0 != 4)), rfl, H', ⟨by omega⟩, ⟨BK439.out⟩, ⟨HB.out⟩⟩
  ·replace c5 := Bool.eq_false_iff.mpr c5
   subst c5
   rw [if_neg (show ¬ (false = true) by decide)] at H
   have H' := am H
   clear H
   obtain ⟨hcz13_0, hcz13_1, hcz13_2, hcz13_3, hcz13_4, hfz13_0, hfz13_1, hfz13_2, hfz13_3, hfz13_4⟩ := cells5_ BK439.out
   go_wp2_with (((with_reducible refine gate_callee (f := 39) rfl ?_); refine goesL_ (some 7) rfl rfl Try.func39 (by kernel_rfl) rfl #[.agg #[.int .i64 a0_0, .slice A0_1 l0_1.length c0_1, .slice A0_2 l0_2.length c0_2, .slice A0_3 l0_3.length c0_3, .int .i64 a0_4]] rfl (by (try simp only [List.map_toArray, List.map_cons, List.map_nil]); rfl) ?_; (with_reducible refine (impl_IsValidTask.calls k a0_0 _ _ l0_1 _ _ l0_2 _ _ l0_3 a0_4 false _ ?side1 ?side2 ?side3 ?side4 ?side5 ?side6 A4.out).mono ?_); (case side1 => repeat (exact (Kd.C_below HR0_1.out HB.out))); (case side2 => exact HC0_1.out); (case side3 => repeat (exact (Kd.C_below HR0_2.out HB.out))); (case side4 => exact HC0_2.out); (case side5 => repeat (exact (Kd.C_below HR0_3.out HB.out))); (case side6 => exact HC0_3.out); rintro e w14 ⟨rfl, hb⟩; refine ⟨_, rfl, ?_⟩; replace BK439 := am (blk_below BK439.out hb); replace HB := am (below_step HB.out hb); (try clear hb)))
   go_meet
   case rel => exact ⟨_, (true), rfl, H', ⟨by omega⟩, ⟨BK439.out⟩, ⟨HB.out⟩⟩
 case rest =>
  clear HC2
  obtain ⟨kq, x18_1, rfl, HA, HJ1, BK439, HB⟩ := hcut
  cases kq with
  | zero => exact absurd HA.out (by simp [impl_UnmatchedRows.j0])
  | succ kj1 =>
   have H := HA.out
   clear HA
   simp only [impl_UnmatchedRows.j0] at H
   by_cases c15 : x18_1 = true
   ·subst c15
    rw [if_pos rfl] at H
    obtain rfl := Option.some.inj H
    go_wp2
    go_ret
    exact ⟨_, rfl, by exact Kd.R_nil _ _ _ _ _, HB.out⟩
   ·replace c15 := Bool.eq_false_iff.mpr c15
    subst c15
    rw [if_neg (show ¬ (false = true) by decide)] at H
    obtain ⟨y441, hy441⟩ : ∃ y_ : List (S128), y_ = (([] : List (S128))) := ⟨_, rfl⟩
    replace H : (impl_UnmatchedRows.l0 kj1 y441 l0_1 (l0_1.length : Int) 0 a0_0 l0_1 l0_2 l0_3 a0_4) = some r := by (rw [hy441]; with_reducible exact H)
    have Ny441 := am hy441
    clear hy441
    have H' := am H
    clear H
    go_wp2_with (((with_reducible refine gate_dst (N := 19) rfl ?_); refine Kd.R_lit k128 _ 128 ?hg (N := 19) ?hd (xs := ([] : List (S128))) (inner := []) (ok := fun _ => True) (okp := fun _ => True) ?hr ?hp (fun _ hk => hk) trivial (Below.refl _ _) (Nat.le_refl _) (by simp) ?_; (case hd => rfl); (case hg => rfl); (case hr => (go_simp; done)); (case hp => exact (Reps.none _ _)); intro v442 w16 ho17 hb hg_ hnew_; clear hg_ hnew_; (rw [← Ny441.out] at ho17); have HO443 := am (Kd.R_lower ho17 (below_size HB.out)); replace BK439 := am (blk_below BK439.out hb); replace HB := am (below_step HB.out hb); clear hb ho17; obtain ⟨hcz18_0, hcz18_1, hcz18_2, hcz18_3, hcz18_4, hfz18_0, hfz18_1, hfz18_2, hfz18_3, hfz18_4⟩ := cells5_ BK439.out))
    go_loopg [3, 23] kj1 (fun kq v3 v23 w' => ∃ (x3_2 : List (S128)) (x23_2 : Int), v23 = .int .i64 x23_2 ∧ Aside0 (impl_UnmatchedRows.l0 kq x3_2 l0_1 (l0_1.length : Int) x23_2 a0_0 l0_1 l0_2 l0_3 a0_4 = some r) ∧ Aside0 (kq ≤ kj1) ∧ Aside0 (Kd.R k128 128 w' w.heap.size (fun _ => True) v3 x3_2) ∧ Aside0 (w'.heap[gb439]? = some (.cells #[.int .i64 a0_0, (.slice A0_1 l0_1.length c0_1), (.slice A0_2 l0_2.length c0_2), (.slice A0_3 l0_3.length c0_3), .int .i64 a0_4] 40 (0, 0))) ∧ Aside0 (Below w.heap.size w w'))
    case atStart => exact ⟨(y441), (0), rfl, H', ⟨Nat.le_refl _⟩, ⟨HO443.out⟩, ⟨BK439.out⟩, ⟨HB.out⟩⟩
    case round =>
     clear H'
     try clear hcz18_0
     try clear hcz18_1
     try clear hcz18_2
     try clear hcz18_3
     try clear hcz18_4
     try clear hfz18_0
     try clear hfz18_1
     try clear hfz18_2
     try clear hfz18_3
     try clear hfz18_4
     obtain ⟨x3_2, x23_2, rfl, HA, HK2, HO_3, BK439, HB⟩ := hrel
     cases gk with
     | zero => exact absurd HA.out (by simp [impl_UnmatchedRows.l0])
     | succ k2 =>
      have H := HA.out
      clear HA
      simp only [impl_UnmatchedRows.l0] at H
      by_cases c19 : x23_2 < (l0_1.length : Int)
      ·rw [if_pos c19] at H
       have c19b0 : decide (x23_2 < (l0_1.length : Int)) = true := decide_eq_true c19
       clear c19
       by_cases c20 : 0 ≤ x23_2
       ·rw [if_pos c20] at H
        have c20b0 : decide (0 ≤ x23_2) = true := decide_eq_true c20
        clear c20
        by_cases c21 : x23_2 < (l0_1.length : Int)
        ·rw [if_pos c21] at H
         have c21b0 : decide (x23_2 < (l0_1.length : Int)) = true := decide_eq_true c21
         clear c21
         by_cases c22 : x23_2 < (l0_3.length : Int)
         ·rw [if_pos c22] at H
          have c22b0 : decide (x23_2 < (l0_3.length : Int)) = true := decide_eq_true c22
          clear c22
          obtain ⟨bq23, hbq23⟩ : ∃ b_ : Bool, b_ = (rdOf false l0_3 x23_2) := ⟨_, rfl⟩
          replace H : (if bq23 = true then (impl_UnmatchedRows.l0 k2 x3_2 l0_1 (l0_1.length : Int) (wrap64 (x23_2 + 1)) a0_0 l0_1 l0_2 l0_3 a0_4) else (if x3_2.length < 2513169434916 then (impl_UnmatchedRows.l0 k2 (x3_2 ++ [(⟨(⟨(rd_T60 l0_1 x23_2).f0, (rd_T60 l0_1 x23_2).f1, (rd_T60 l0_1 x23_2).f2⟩ : S60), (⟨0, 0, 0⟩ : S60), false⟩ : S128)]) l0_1 (l0_1.length : Int) (wrap64 (x23_2 + 1)) a0_0 l0_1 l0_2 l0_3 a0_4) else (none))) = some r := by rw [← hbq23] at H; exact H
          have Nbq23 := am hbq23
          clear hbq23
          by_cases c24 : bq23 = true
          ·subst c24
           rw [if_pos rfl] at H
           have H' := am H
           clear H
           have p444 : 0 ≤ (x23_2 : Int) := of_decide_eq_true (by (with_reducible assumption))
           have q444 : x23_2 < (l0_1.length : Int) := of_decide_eq_true (by (with_reducible assumption))
           obtain ⟨ad444, e444, hx444_0, hx444_1, hx444_2⟩ := at_T60 HR0_1.out x23_2 p444 q444
           cases e444
           replace hx444_0 := bc_ HB.out hx444_0
           replace hx444_1 := bc_ HB.out hx444_1
           replace hx444_2 := bc_ HB.out hx444_2
           replace p444 := eq_true p444
           replace q444 := eq_true q444
           go_wp2_with (((with_reducible refine gate_dst (N := 5) rfl ?_); refine box_event ?hg (N := 5) ?hd (cs := #[.int .i64 0, .int .i64 0, .int .i64 0]) (t := 60) ?hr ?_; (case hd => rfl); (case hg => rfl); (case hr => (go_simp; done)); intro gb445 hg w25 hbox hb; replace HO_3 := am (Kd.R_below HO_3.out hb); have BK445 := am (hbox); have GW445 := am (gw_ hg HB.out); have GE445 := am (gw_ hg HB.out); replace HB := am (below_step HB.out hb); have NB439_445 := am ((by rw [hg]; exact Nat.ne_of_lt (blk_lt (g := gb439) (o := .cells #[.int .i64 a0_0, .slice (some ad444) l0_1.length c0_1, .slice A0_2 l0_2.length c0_2, .slice A0_3 l0_3.length c0_3, .int .i64 a0_4] 40 (0, 0)) BK439.out) : gb439 ≠ gb445)); have NB445_439 := am ((by rw [hg]; exact Nat.ne_of_gt (blk_lt (g := gb439) (o := .cells #[.int .i64 a0_0, .slice (some ad444) l0_1.length c0_1, .slice A0_2 l0_2.length c0_2, .slice A0_3 l0_3.length c0_3, .int .i64 a0_4] 40 (0, 0)) BK439.out) : gb445 ≠ gb439)); replace BK439 := am (blk_below BK439.out hb); clear hb hbox hg; have hnb26 := NB445_439.out; have hnc26 := NB439_445.out; obtain ⟨hcz27_0, hcz27_1, hcz27_2, hfz27_0, hfz27_1, hfz27_2⟩ := cells3_ BK445.out; obtain ⟨hcz28_0, hcz28_1, hcz28_2, hcz28_3, hcz28_4, hfz28_0, hfz28_1, hfz28_2, hfz28_3, hfz28_4⟩ := cells5_ BK439.out; have p446 : 0 ≤ (x23_2 : Int) := of_decide_eq_true (by (with_reducible assumption)); have q446 : x23_2 < (l0_3.length : Int) := of_decide_eq_true (by (with_reducible assumption)); obtain ⟨ad446, e446, hx446_0⟩ := Kd.at_bool HR0_3.out x23_2 p446 q446; (try rw [← Nbq23.out] at hx446_0); cases e446; have hn446_0 : ad446.block ≠ gb445 := Nat.ne_of_lt (Nat.lt_of_lt_of_le (by have := World.block_lt_of_cell? _ _ hx446_0; rwa [add_block] at this) GW445.out); have hn446_1 : ad446.block ≠ gb445 := Nat.ne_of_lt (Nat.lt_of_lt_of_le (by have := World.block_lt_of_cell? _ _ hx446_0; rwa [add_block] at this) GW445.out); have hn446_2 : ad446.block ≠ gb445 := Nat.ne_of_lt (Nat.lt_of_lt_of_le (by have := World.block_lt_of_cell? _ _ hx446_0; rwa [add_block] at this) GW445.out); replace hx446_0 := bc_ HB.out hx446_0; replace hx446_0 := (cell_far (p := ⟨gb445, 0, none⟩) (by (rw [add_block]; exact hn446_0)) (.int .i64 ((rd_T60 l0_1 x23_2).f0))).trans hx446_0; replace hx446_0 := (cell_far (p := ⟨gb445, 1, none⟩) (by (rw [add_block]; exact hn446_1)) (.int .i64 ((rd_T60 l0_1 x23_2).f1))).trans hx446_0; replace hx446_0 := (cell_far (p := ⟨gb445, 2, none⟩) (by (rw [add_block]; exact hn446_2)) (.int .i64 ((rd_T60 l0_1 x23_2).f2))).trans hx446_0; clear hn446_0 hn446_1 hn446_2; replace p446 := eq_true p446; replace q446 := eq_true q446))
           go_roundg k2
           case measure => have := HJ1.out; have := HK2.out; omega
           case rel => exact ⟨(x3_2), (wrap64 (x23_2 + 1)), rfl, H', ⟨by have := HJ1.out; have := HK2.out; omega⟩, ⟨by exact Kd.R_mono (Kd.R_far (p := ⟨gb445, 2, none⟩) (Kd.R_far (p := ⟨gb445, 1, none⟩) (Kd.R_far (p := ⟨gb445, 0, none⟩) (Kd.R_types HO_3.out BK445.out (by decide)) (fun _ hk => hk.2) (.int .i64 ((rd_T60 l0_1 x23_2).f0))) (fun _ hk => hk.2) (.int .i64 ((rd_T60 l0_1 x23_2).f1))) (fun _ hk => hk.2) (.int .i64 ((rd_T60 l0_1 x23_2).f2))) (fun _ hk => trivial)⟩, ⟨by refine blk_far ?_ NB439_445.out _; refine blk_far ?_ NB439_445.out _; refine blk_far ?_ NB439_445.out _; exact BK439.out⟩, ⟨by repeat ((with_reducible first | exact HB.out | refine below_set ?_ GE445.out))⟩⟩
          ·replace c24 := Bool.eq_false_iff.mpr c24
           subst c24
           rw [if_neg (show ¬ (false = true) by decide)] at H
           by_cases c29 : x3_2.length < 2513169434916
           ·rw [if_pos c29] at H
            have LMc29 := am c29
            clear c29
            obtain ⟨y447, hy447⟩ : ∃ y_ : List (S128), y_ = (x3_2 ++ [(⟨(⟨(rd_T60 l0_1 x23_2).f0, (rd_T60 l0_1 x23_2).f1, (rd_T60 l0_1 x23_2).f2⟩ : S60), (⟨0, 0, 0⟩ : S60), false⟩ : S128)]) := ⟨_, rfl⟩
            replace H : (impl_UnmatchedRows.l0 k2 y447 l0_1 (l0_1.length : Int) (wrap64 (x23_2 + 1)) a0_0 l0_1 l0_2 l0_3 a0_4) = some r := by (rw [hy447]; with_reducible exact H)
            have Ny447 := am hy447
            clear hy447
            have H' := am H
            clear H
            have p444 : 0 ≤ (x23_2 : Int) := of_decide_eq_true (by (with_reducible assumption))
            have q444 : x23_2 < (l0_1.length : Int) := of_decide_eq_true (by (with_reducible assumption))
            obtain ⟨ad444, e444, hx444_0, hx444_1, hx444_2⟩ := at_T60 HR0_1.out x23_2 p444 q444
            cases e444
            replace hx444_0 := bc_ HB.out hx444_0
            replace hx444_1 := bc_ HB.out hx444_1
            replace hx444_2 := bc_ HB.out hx444_2
            replace p444 := eq_true p444
            replace q444 := eq_true q444
            go_wp2_with (first | ((with_reducible refine gate_dst (N := 5) rfl ?_); refine box_event ?hg (N := 5) ?hd (cs := #[.int .i64 0, .int .i64 0, .int .i64 0]) (t := 60) ?hr ?_; (case hd => rfl); (case hg => rfl); (case hr => (go_simp; done)); intro gb445 hg w30 hbox hb; replace HO_3 := am (Kd.R_below HO_3.out hb); have BK445 := am (hbox); have GW445 := am (gw_ hg HB.out); have GE445 := am (gw_ hg HB.out); replace HB := am (below_step HB.out hb); have NB439_445 := am ((by rw [hg]; exact Nat.ne_of_lt (blk_lt (g := gb439) (o := .cells #[.int .i64 a0_0, .slice (some ad444) l0_1.length c0_1, .slice A0_2 l0_2.length c0_2, .slice A0_3 l0_3.length c0_3, .int .i64 a0_4] 40 (0, 0)) BK439.out) : gb439 ≠ gb445)); have NB445_439 := am ((by rw [hg]; exact Nat.ne_of_gt (blk_lt (g := gb439) (o := .cells #[.int .i64 a0_0, .slice (some ad444) l0_1.length c0_1, .slice A0_2 l0_2.length c0_2, .slice A0_3 l0_3.length c0_3, .int .i64 a0_4] 40 (0, 0)) BK439.out) : gb445 ≠ gb439)); replace BK439 := am (blk_below BK439.out hb); clear hb hbox hg; have hnb31 := NB445_439.out; have hnc31 := NB439_445.out; obtain ⟨hcz32_0, hcz32_1, hcz32_2, hfz32_0, hfz32_1, hfz32_2⟩ := cells3_ BK445.out; obtain ⟨hcz33_0, hcz33_1, hcz33_2, hcz33_3, hcz33_4, hfz33_0, hfz33_1, hfz33_2, hfz33_3, hfz33_4⟩ := cells5_ BK439.out; have p446 : 0 ≤ (x23_2 : Int) := of_decide_eq_true (by (with_reducible assumption)); have q446 : x23_2 < (l0_3.length : Int) := of_decide_eq_true (by (with_reducible assumption)); obtain ⟨ad446, e446, hx446_0⟩ := Kd.at_bool HR0_3.out x23_2 p446 q446; (try rw [← Nbq23.out] at hx446_0); cases e446; have hn446_0 : ad446.block ≠ gb445 := Nat.ne_of_lt (Nat.lt_of_lt_of_le (by have := World.block_lt_of_cell? _ _ hx446_0; rwa [add_block] at this) GW445.out); have hn446_1 : ad446.block ≠ gb445 := Nat.ne_of_lt (Nat.lt_of_lt_of_le (by have := World.block_lt_of_cell? _ _ hx446_0; rwa [add_block] at this) GW445.out); have hn446_2 : ad446.block ≠ gb445 := Nat.ne_of_lt (Nat.lt_of_lt_of_le (by have := World.block_lt_of_cell? _ _ hx446_0; rwa [add_block] at this) GW445.out); replace hx446_0 := bc_ HB.out hx446_0; replace hx446_0 := (cell_far (p := ⟨gb445, 0, none⟩) (by (rw [add_block]; exact hn446_0)) (.int .i64 ((rd_T60 l0_1 x23_2).f0))).trans hx446_0; replace hx446_0 := (cell_far (p := ⟨gb445, 1, none⟩) (by (rw [add_block]; exact hn446_1)) (.int .i64 ((rd_T60 l0_1 x23_2).f1))).trans hx446_0; replace hx446_0 := (cell_far (p := ⟨gb445, 2, none⟩) (by (rw [add_block]; exact hn446_2)) (.int .i64 ((rd_T60 l0_1 x23_2).f2))).trans hx446_0; clear hn446_0 hn446_1 hn446_2; replace p446 := eq_true p446; replace q446 := eq_true q446) | ((with_reducible refine gate_builtin (b := .append) (xs := #[.tmp 34, .tmp 37]) rfl ?_); at_builtin; refine Kd.R_append k128 (w0 := w) w.heap.size rfl (.tmp 34) (.tmp 37) 33 128 (.agg #[(.int .i64 0), (.int .i64 0), (.int .i64 0), (.int .i64 0), (.int .i64 0), (.int .i64 0), (.bool false)]) 56 rfl Try.underlying33 info128 rfl (by decide) (by omega) u3 x3_2 (⟨(⟨(rd_T60 l0_1 x23_2).f0, (rd_T60 l0_1 x23_2).f1, (rd_T60 l0_1 x23_2).f2⟩ : S60), (⟨0, 0, 0⟩ : S60), false⟩ : S128) [.int .i64 ((rd_T60 l0_1 x23_2).f0), .int .i64 ((rd_T60 l0_1 x23_2).f1), .int .i64 ((rd_T60 l0_1 x23_2).f2), .int .i64 0, .int .i64 0, .int .i64 0, .bool false] (fun _ => True) (fun _ => False) rfl (by (go_simp; done)) ?aP (fun _ hk => hk.elim) ?aF ?aO ?aB ?aS ?aL ?_; (case aP => exact k128_mkM _ _ _ (⟨(⟨(rd_T60 l0_1 x23_2).f0, (rd_T60 l0_1 x23_2).f1, (rd_T60 l0_1 x23_2).f2⟩ : S60), (⟨0, 0, 0⟩ : S60), false⟩ : S128)); (case aB => exact (by repeat (with_reducible first | exact HB.out | refine below_set ?_ GE445.out))); (case aF => exact (fun _ _ => trivial)); (case aO => exact (by exact Kd.R_mono (Kd.R_far (p := ⟨gb445, 2, none⟩) (Kd.R_far (p := ⟨gb445, 1, none⟩) (Kd.R_far (p := ⟨gb445, 0, none⟩) (Kd.R_types HO_3.out BK445.out (by decide)) (fun _ hk => hk.2) (.int .i64 ((rd_T60 l0_1 x23_2).f0))) (fun _ hk => hk.2) (.int .i64 ((rd_T60 l0_1 x23_2).f1))) (fun _ hk => hk.2) (.int .i64 ((rd_T60 l0_1 x23_2).f2))) (fun _ hk => trivial))); (case aS => exact (below_size (by repeat (with_reducible first | exact HB.out | refine below_set ?_ GE445.out)))); (case aL => have := LMc29.out; omega); intro v448 w34 ho hb hg hat; rw [← Ny447.out] at ho; replace BK439 := am (blk_grown (g := gb439) (o := .cells #[.int .i64 a0_0, .slice (some ad444) l0_1.length c0_1, .slice A0_2 l0_2.length c0_2, .slice (some ad446) l0_3.length c0_3, .int .i64 a0_4] 40 (0, 0)) (by refine blk_far ?_ NB439_445.out _; refine blk_far ?_ NB439_445.out _; refine blk_far ?_ NB439_445.out _; exact BK439.out) hg (Kd.R_ne HO_3.out BK439.out (by decide))); replace BK445 := am (blk_grown (g := gb445) (o := .cells #[.int .i64 ((rd_T60 l0_1 x23_2).f0), .int .i64 ((rd_T60 l0_1 x23_2).f1), .int .i64 ((rd_T60 l0_1 x23_2).f2)] 60 (0, 0)) (by refine blk_put (cs := #[.int .i64 ((rd_T60 l0_1 x23_2).f0), .int .i64 ((rd_T60 l0_1 x23_2).f1), .int .i64 0]) ?_ 2 _ rfl; refine blk_put (cs := #[.int .i64 ((rd_T60 l0_1 x23_2).f0), .int .i64 0, .int .i64 0]) ?_ 1 _ rfl; refine blk_put (cs := #[.int .i64 0, .int .i64 0, .int .i64 0]) ?_ 0 _ rfl; exact BK445.out) hg (Kd.R_ne HO_3.out BK445.out (by decide))); replace HB := am (hb); have HO449 := am (ho); clear HO_3 ho hb hg hat))
            go_roundg k2
            case measure => have := HJ1.out; have := HK2.out; omega
            case rel => exact ⟨(y447), (wrap64 (x23_2 + 1)), rfl, H', ⟨by have := HJ1.out; have := HK2.out; omega⟩, ⟨HO449.out⟩, ⟨BK439.out⟩, ⟨HB.out⟩⟩
           ·rw [if_neg c29] at H
            exact absurd H (by simp)
         ·rw [if_neg c22] at H
          exact absurd H (by simp)
        ·rw [if_neg c21] at H
         exact absurd H (by simp)
       ·rw [if_neg c20] at H
        exact absurd H (by simp)
      ·rw [if_neg c19] at H
       have c19b0 : decide (x23_2 < (l0_1.length : Int)) = false := decide_eq_false c19
       clear c19
       obtain rfl := Option.some.inj H
       go_wp2
       go_ret
       exact ⟨_, rfl, HO_3.out, HB.out⟩

mutual
def impl_BlockNestedLoopJoin.j0 : Nat → Int → Bool → Int → List (S60) → List (S60) → List Bool → Int → Option ((List (S128)) × Int × Bool)
 | 0, _, _, _, _, _, _, _ => none
 | k + 1, x3, x31, x463000, x463001, x463002, x463003, x463004 => if x31 = true then (some (([] : List (S128)), 0, false)) else (impl_BlockNestedLoopJoin.l0 k x3 (([] : List (S128))) 0 x463002 x463000 x463001 x463002 x463003 x463004)
def impl_BlockNestedLoopJoin.l0 : Nat → Int → List (S128) → Int → List (S60) → Int → List (S60) → List (S60) → List Bool → Int → Option ((List (S128)) × Int × Bool)
 | 0, _, _, _, _, _, _, _, _, _ => none
 | k + 1, x3, x13, x14, x15, x463000, x463001, x463002, x463003, x463004 => if (x15.length : Int) > 0 then ((impl_NextChunk.f k x15 x3).bind fun bt473 => ((impl_JoinChunk.f k x463000 x463001 x463002 x463003 x463004 bt473.1).bind fun bt479 => (if x13.length + bt479.1.length < 2513169434916 then (impl_BlockNestedLoopJoin.l0 k x3 (x13 ++ bt479.1) (wrap64 (x14 + 1)) bt473.2 bt479.2.1 bt479.2.2.1 bt479.2.2.2.1 bt479.2.2.2.2.1 bt479.2.2.2.2.2) else (none)))) else ((impl_UnmatchedRows.f k x463000 x463001 x463002 x463003 x463004).bind fun t496 => (if x13.length + t496.length < 2513169434916 then (some ((x13 ++ t496), x14, true)) else (none)))
end
def impl_BlockNestedLoopJoin.f (k : Nat) (a0 : Int) (l1 : List (S60)) (l2 : List (S60)) (a3 : Int) : Option ((List (S128)) × Int × Bool) := (impl_NewTask.f k a0 l1 l2).bind fun bt450 => (if bt450.2.2.2.2.2 = true then ((impl_isGrant.f a3).bind fun t463 => (impl_BlockNestedLoopJoin.j0 k a3 (!t463) bt450.1 bt450.2.1 bt450.2.2.1 bt450.2.2.2.1 bt450.2.2.2.2.1)) else (impl_BlockNestedLoopJoin.j0 k a3 true bt450.1 bt450.2.1 bt450.2.2.1 bt450.2.2.2.1 bt450.2.2.2.2.1))
theorem impl_BlockNestedLoopJoin.calls (k : Nat) (a0 : Int) (A1 : Option Addr) (c1 : Nat) (l1 : List (S60)) (A2 : Option Addr) (c2 : Nat) (l2 : List (S60)) (a3 : Int) (r1 : List (S128)) (r2 : Int) (r3 : Bool) (w : World) (hr1 : Kd.C k60 w A1 l1.length l1) (hc1 : l1.length ≤ c1) (hr2 : Kd.C k60 w A2 l2.length l2) (hc2 : l2.length ≤ c2) (h : impl_BlockNestedLoopJoin.f k a0 l1 l2 a3 = some (r1, r2, r3)) :
  Calls Try.prog 23 #[.int .i64 a0, .slice A1 l1.length c1, .slice A2 l2.length c2, .int .i64 a3] w fun e w' => ∃ v0_ : Value, e = .returned (.tuple #[v0_, .int .i64 r2, .bool r3]) ∧ Kd.R k128 128 w' w.heap.size (fun _ => True) v0_ r1 ∧ Below w.heap.size w w' := by
 have hu40 := Try.underlying40
 have HR1 := am hr1
 have HC1 := am hc1
 clear hr1 hc1
 have HR2 := am hr2
 have HC2 := am hc2
 clear hr2 hc2
 have HB := am (Below.refl w.heap.size w)
 have H : ((impl_NewTask.f k a0 l1 l2).bind fun bt450 => (if bt450.2.2.2.2.2 = true then ((impl_isGrant.f a3).bind fun t463 => (impl_BlockNestedLoopJoin.j0 k a3 (!t463) bt450.1 bt450.2.1 bt450.2.2.1 bt450.2.2.2.1 bt450.2.2.2.2.1)) else (impl_BlockNestedLoopJoin.j0 k a3 true bt450.1 bt450.2.1 bt450.2.2.1 bt450.2.2.2.1 bt450.2.2.2.2.1))) = some (r1, r2, r3) := h
 clear h
 replace H := Option.bind_eq_some_iff.mp H
 obtain ⟨⟨t450, t451, t454, t457, t460, t461⟩, A50, H⟩ := H
 have A5 := am A50
 clear A50
 have HC6 := am H
 clear H
 go_enter Try.func23, Try.ntmps23
 go_upto_region 2 with (first | ((with_reducible refine gate_callee (f := 63) rfl ?_); refine goesL_ (some 22) rfl rfl Try.func63 (by kernel_rfl) rfl #[.int .i64 a0, .slice A1 l1.length c1, .slice A2 l2.length c2] rfl (by (try simp only [List.map_toArray, List.map_cons, List.map_nil]); rfl) ?_; (with_reducible refine (impl_NewTask.calls k a0 _ _ l1 _ _ l2 t450 t451 t454 t457 t460 t461 _ ?side1 ?side2 ?side3 ?side4 A5.out).mono ?_); (case side1 => repeat (exact HR1.out)); (case side2 => exact HC1.out); (case side3 => repeat (exact HR2.out)); (case side4 => exact HC2.out); rintro e w7 ⟨v452, v455, v458, rfl, ho0, ho1, ho2, hb⟩; refine ⟨_, rfl, ?_⟩; have HO453 := am (Kd.R_lower ho0 (below_size HB.out)); have HO456 := am (Kd.R_lower ho1 (below_size HB.out)); have HO459 := am (Kd.R_lower ho2 (below_size HB.out)); replace HB := am (below_step HB.out hb); (try clear hb); (try clear ho0); (try clear ho1); (try clear ho2)) | ((with_reducible refine gate_dst (N := 11) rfl ?_); refine box_event ?hg (N := 11) ?hd (cs := #[.int .i64 0, .slice none 0 0, .slice none 0 0, .slice none 0 0, .int .i64 0]) (t := 40) ?hr ?_; (case hd => rfl); (case hg => rfl); (case hr => (go_simp; done)); intro gb462 hg w8 hbox hb; replace HO453 := am (Kd.R_below HO453.out hb); replace HO456 := am (Kd.R_below HO456.out hb); replace HO459 := am (Kd.R_below HO459.out hb); have BK462 := am (hbox); have GW462 := am (gw_ hg HB.out); have GE462 := am (gw_ hg HB.out); replace HB := am (below_step HB.out hb); clear hb hbox hg; obtain ⟨hcz9_0, hcz9_1, hcz9_2, hcz9_3, hcz9_4, hfz9_0, hfz9_1, hfz9_2, hfz9_3, hfz9_4⟩ := cells5_ BK462.out; obtain ⟨Ao10, co10, eo10⟩ := Kd.R_slice HO453.out; subst eo10; obtain ⟨Ao11, co11, eo11⟩ := Kd.R_slice HO456.out; subst eo11; obtain ⟨Ao12, co12, eo12⟩ := Kd.R_slice HO459.out; subst eo12))
 (try simp only [Act.put, s2_, s0_, s1_])
 go_cut [31] (fun v31 wc => ∃ (kq : Nat) (x31_5 : Bool), v31 = .bool x31_5 ∧ Aside0 (impl_BlockNestedLoopJoin.j0 kq a3 x31_5 t450 t451 t454 t457 t460 = some (r1, r2, r3)) ∧ Aside0 (kq ≤ k) ∧ Aside0 (Kd.R k60 60 wc w.heap.size (fun k_ => some k_ ≠ ((.slice Ao11 t454.length co11) : Value).ownBlock) (.slice Ao10 t451.length co10) t451) ∧ Aside0 (Kd.R k60 60 wc w.heap.size (fun k_ => some k_ ≠ ((.slice Ao10 t451.length co10) : Value).ownBlock) (.slice Ao11 t454.length co11) t454) ∧ Aside0 (Kd.R Kd.bool 4 wc w.heap.size (fun _ => True) (.slice Ao12 t457.length co12) t457) ∧ Aside0 (wc.heap[gb462]? = some (.cells #[.int .i64 t450, (.slice Ao10 t451.length co10), (.slice Ao11 t454.length co11), (.slice Ao12 t457.length co12), .int .i64 t460] 40 (0, 0))) ∧ Aside0 (Below w.heap.size w wc))
 case first =>
  have H := HC6.out
  clear HC6
  by_cases c13 : t461 = true
  ·subst c13
   rw [if_pos rfl] at H
   replace H := Option.bind_eq_some_iff.mp H
   obtain ⟨t463, A140, H⟩ := H
   have A14 := am A140
   clear A140
   have H' := am H
   clear H
   go_wp2_with ((go_at_call 116; (with_reducible refine (impl_isGrant.calls a3 t463 _ A14.out).mono ?_); rintro e w' ⟨rfl, ⟨nd, rfl⟩⟩))
   go_meet
   case rel => exact ⟨_, (!t463), rfl, H', ⟨by omega⟩, ⟨by (with_reducible repeat (apply Kd.R_drewN)); exact Kd.R_mono (Kd.R_far (p := ⟨gb462, 4, none⟩) (Kd.R_far (p := ⟨gb462, 3, none⟩) (Kd.R_far (p := ⟨gb462, 2, none⟩) (Kd.R_far (p := ⟨gb462, 1, none⟩) (Kd.R_far (p := ⟨gb462, 0, none⟩) (Kd.R_types HO453.out BK462.out (by decide)) (fun _ hk => hk.2) (.int .i64 t450)) (fun _ hk => hk.2) (.slice Ao10 t451.length co10)) (fun _ hk => hk.2) (.slice Ao11 t454.length co11)) (fun _ hk => hk.2) (.slice Ao12 t457.length co12)) (fun _ hk => hk.2) (.int .i64 t460)) (fun _ hk => hk.1)⟩, ⟨by (with_reducible repeat (apply Kd.R_drewN)); exact Kd.R_mono (Kd.R_far (p := ⟨gb462, 4, none⟩) (Kd.R_far (p := ⟨gb462, 3, none⟩) (Kd.R_far (p := ⟨gb462, 2, none⟩) (Kd.R_far (p := ⟨gb462, 1, none⟩) (Kd.R_far (p := ⟨gb462, 0, none⟩) (Kd.R_types HO456.out BK462.out (by decide)) (fun _ hk => hk.2) (.int .i64 t450)) (fun _ hk => hk.2) (.slice Ao10 t451.length co10)) (fun _ hk => hk.2) (.slice Ao11 t454.length co11)) (fun _ hk => hk.2) (.slice Ao12 t457.length co12)) (fun _ hk => hk.2) (.int .i64 t460)) (fun _ hk => hk.1)⟩, ⟨by (with_reducible repeat (apply Kd.R_drewN)); exact Kd.R_mono (Kd.R_far (p := ⟨gb462, 4, none⟩) (Kd.R_far (p := ⟨gb462, 3, none⟩) (Kd.R_far (p := ⟨gb462, 2, none⟩) (Kd.R_far (p := ⟨gb462, 1, none⟩) (Kd.R_far (p := ⟨gb462, 0, none⟩) (Kd.R_types HO459.out BK462.out (by decide)) (fun _ hk => hk.2) (.int .i64 t450)) (fun _ hk => hk.2) (.slice Ao10 t451.length co10)) (fun _ hk => hk.2) (.slice Ao11 t454.length co11)) (fun _ hk => hk.2) (.slice Ao12 t457.length co12)) (fun _ hk => hk.2) (.int .i64 t460)) (fun _ hk => trivial)⟩, ⟨by (with_reducible repeat (refine blk_drewN ?_ _)); refine blk_put (cs := #[.int .i64 t450, .slice Ao10 t451.length co10, .slice Ao11 t454.length co11, .slice Ao12 t457.length co12, .int .i64 0]) ?_ 4 _ rfl; refine blk_put (cs := #[.int .i64 t450, .slice Ao10 t451.length co10, .slice Ao11 t454.length co11, .slice none 0 0, .int .i64 0]) ?_ 3 _ rfl; refine blk_put (cs := #[.int .i64 t450, .slice Ao10 t451.length co10, .slice none 0 0, .slice none 0 0, .int .i64 0]) ?_ 2 _ rfl; refine blk_put (cs := #[.int .i64 t450, .slice none 0 0, .slice none 0 0, .slice none 0 0, .int .i64 0]) ?_ 1 _ rfl; refine blk_put (cs := #[.int .i64 0, .slice none 0 0, .slice none 0 0, .slice none 0 0, .int .i64 0]) ?_ 0 _ rfl; exact BK462.out⟩, ⟨by repeat ((with_reducible first | exact HB.out | apply pw_below_drewN | refine below_set ?_ GE462.out))⟩⟩
  ·replace c13 := Bool.eq_false_iff.mpr c13
   subst c13
   rw [if_neg (show ¬ (false = true) by decide)] at H
   have H' := am H
   clear H
   go_wp2
   go_meet
   case rel => exact ⟨_, (true), rfl, H', ⟨by omega⟩, ⟨by exact Kd.R_mono (Kd.R_far (p := ⟨gb462, 4, none⟩) (Kd.R_far (p := ⟨gb462, 3, none⟩) (Kd.R_far (p := ⟨gb462, 2, none⟩) (Kd.R_far (p := ⟨gb462, 1, none⟩) (Kd.R_far (p := ⟨gb462, 0, none⟩) (Kd.R_types HO453.out BK462.out (by decide)) (fun _ hk => hk.2) (.int .i64 t450)) (fun _ hk => hk.2) (.slice Ao10 t451.length co10)) (fun _ hk => hk.2) (.slice Ao11 t454.length co11)) (fun _ hk => hk.2) (.slice Ao12 t457.length co12)) (fun _ hk => hk.2) (.int .i64 t460)) (fun _ hk => hk.1)⟩, ⟨by exact Kd.R_mono (Kd.R_far (p := ⟨gb462, 4, none⟩) (Kd.R_far (p := ⟨gb462, 3, none⟩) (Kd.R_far (p := ⟨gb462, 2, none⟩) (Kd.R_far (p := ⟨gb462, 1, none⟩) (Kd.R_far (p := ⟨gb462, 0, none⟩) (Kd.R_types HO456.out BK462.out (by decide)) (fun _ hk => hk.2) (.int .i64 t450)) (fun _ hk => hk.2) (.slice Ao10 t451.length co10)) (fun _ hk => hk.2) (.slice Ao11 t454.length co11)) (fun _ hk => hk.2) (.slice Ao12 t457.length co12)) (fun _ hk => hk.2) (.int .i64 t460)) (fun _ hk => hk.1)⟩, ⟨by exact Kd.R_mono (Kd.R_far (p := ⟨gb462, 4, none⟩) (Kd.R_far (p := ⟨gb462, 3, none⟩) (Kd.R_far (p := ⟨gb462, 2, none⟩) (Kd.R_far (p := ⟨gb462, 1, none⟩) (Kd.R_far (p := ⟨gb462, 0, none⟩) (Kd.R_types HO459.out BK462.out (by decide)) (fun _ hk => hk.2) (.int .i64 t450)) (fun _ hk => hk.2) (.slice Ao10 t451.length co10)) (fun _ hk => hk.2) (.slice Ao11 t454.length co11)) (fun _ hk => hk.2) (.slice Ao12 t457.length co12)) (fun _ hk => hk.2) (.int .i64 t460)) (fun _ hk => trivial)⟩, ⟨by refine blk_put (cs := #[.int .i64 t450, .slice Ao10 t451.length co10, .slice Ao11 t454.length co11, .slice Ao12 t457.length co12, .int .i64 0]) ?_ 4 _ rfl; refine blk_put (cs := #[.int .i64 t450, .slice Ao10 t451.length co10, .slice Ao11 t454.length co11, .slice none 0 0, .int .i64 0]) ?_ 3 _ rfl; refine blk_put (cs := #[.int .i64 t450, .slice Ao10 t451.length co10, .slice none 0 0, .slice none 0 0, .int .i64 0]) ?_ 2 _ rfl; refine blk_put (cs := #[.int .i64 t450, .slice none 0 0, .slice none 0 0, .slice none 0 0, .int .i64 0]) ?_ 1 _ rfl; refine blk_put (cs := #[.int .i64 0, .slice none 0 0, .slice none 0 0, .slice none 0 0, .int .i64 0]) ?_ 0 _ rfl; exact BK462.out⟩, ⟨by repeat ((with_reducible first | exact HB.out | refine below_set ?_ GE462.out))⟩⟩
 case rest =>
  clear HC6
  try clear hcz9_0
  try clear hcz9_1
  try clear hcz9_2
  try clear hcz9_3
  try clear hcz9_4
  try clear hfz9_0
  try clear hfz9_1
  try clear hfz9_2
  try clear hfz9_3
  try clear hfz9_4
  obtain ⟨kq, x31_5, rfl, HA, HJ5, HO_463001, HO_463002, HO_463003, BK462, HB⟩ := hcut
  cases kq with
  | zero => exact absurd HA.out (by simp [impl_BlockNestedLoopJoin.j0])
  | succ kj5 =>
   have H := HA.out
   clear HA
   simp only [impl_BlockNestedLoopJoin.j0] at H
   by_cases c15 : x31_5 = true
   ·subst c15
    rw [if_pos rfl] at H
    simp only [Option.some.injEq, Prod.mk.injEq] at H
    obtain ⟨rfl, rfl, rfl⟩ := H
    go_wp2
    go_ret3
    exact ⟨_, rfl, by exact Kd.R_nil _ _ _ _ _, HB.out⟩
   ·replace c15 := Bool.eq_false_iff.mpr c15
    subst c15
    rw [if_neg (show ¬ (false = true) by decide)] at H
    obtain ⟨y464, hy464⟩ : ∃ y_ : List (S128), y_ = (([] : List (S128))) := ⟨_, rfl⟩
    replace H : (impl_BlockNestedLoopJoin.l0 kj5 a3 y464 0 t454 t450 t451 t454 t457 t460) = some (r1, r2, r3) := by (rw [hy464]; with_reducible exact H)
    have Ny464 := am hy464
    clear hy464
    have H' := am H
    clear H
    try go_wp2
    replace HO_463001 := am (Kd.R_drew HO_463001.out)
    replace HO_463002 := am (Kd.R_drew HO_463002.out)
    replace HO_463003 := am (Kd.R_drew HO_463003.out)
    replace BK462 := am (blk_drew BK462.out)
    replace HB := am (below_drew1 HB.out)
    refine start_ (n := 6) (S := fun w' => w'.cell? ⟨gb462, 0, none⟩ = some (.int .i64 t450) ∧ w'.cell? ⟨gb462, 1, none⟩ = some (.slice Ao10 t451.length co10) ∧ w'.cell? ⟨gb462, 2, none⟩ = some (.slice Ao11 t454.length co11) ∧ w'.cell? ⟨gb462, 3, none⟩ = some (.slice Ao12 t457.length co12) ∧ w'.cell? ⟨gb462, 4, none⟩ = some (.int .i64 t460)) (ds := []) #[false, false, false, false, false, false] (by kernel_rfl) rfl rfl ⟨(blk_cell BK462.out 0).trans rfl, (blk_cell BK462.out 1).trans rfl, (blk_cell BK462.out 2).trans rfl, (blk_cell BK462.out 3).trans rfl, (blk_cell BK462.out 4).trans rfl⟩ (fun hHeld => ?_)
    generalize wc.drew = w16 at HO_463001 HO_463002 HO_463003 BK462 HB hHeld ⊢
    refine pure_ (i := 1) (N := some 33) (v := ?_) (a' := ?_) #[false, true, false, false, false, false] rfl rfl (by kernel_rfl) (fun _ _ _ h => h) (Or.inl ⟨rfl, ?_⟩) ?_ ?_
    rotate_left
    ·intro w'
     go_simp
     with_reducible rfl
    rotate_left
    ·simp only [Act.put, s2_, s0_, s1_, i64_w, i32_w]
     rfl
    refine take_ (i := 2) (N := some 34) (v := ?_) (a' := ?_) #[false, true, true, false, false, false] rfl rfl (by kernel_rfl) (fun _ _ _ h => h) (Or.inl ⟨rfl, ?_⟩) hHeld ?_ ?_
    rotate_left
    ·rintro w' ⟨s0, s1, s2, s3, s4⟩
     go_simp
     with_reducible rfl
    rotate_left
    ·simp only [Act.put, s2_, s0_, s1_, i64_w, i32_w]
     rfl
    refine one_ (i := 0) (N := some 32) #[true, true, true, false, false, false] rfl rfl (by kernel_rfl) (by decide) (fun K hK => ?_)
    refine Kd.R_lit_step k128 _ 128 ?hg (N := 32) ?hd (xs := ([] : List (S128))) (inner := []) (ok := fun _ => True) (okp := fun _ => True) ?hr ?hp (fun _ hk => hk) trivial (Below.refl _ _) (Nat.le_refl _) (by simp) ?_; (case hd => rfl); (case hg => rfl); (case hr => (go_simp; done)); (case hp => exact (Reps.none _ _))
    intro v465 w17 ho18 hb hg_ hnew_
    clear hg_ hnew_
    (rw [← Ny464.out] at ho18)
    replace HO_463001 := am (Kd.R_below HO_463001.out hb)
    replace HO_463002 := am (Kd.R_below HO_463002.out hb)
    replace HO_463003 := am (Kd.R_below HO_463003.out hb)
    have HO466 := am (Kd.R_lower ho18 (below_size HB.out))
    replace BK462 := am (blk_below BK462.out hb)
    replace HB := am (below_step HB.out hb)
    clear hb ho18
    refine hK.out _ _ ⟨(blk_cell BK462.out 0).trans rfl, (blk_cell BK462.out 1).trans rfl, (blk_cell BK462.out 2).trans rfl, (blk_cell BK462.out 3).trans rfl, (blk_cell BK462.out 4).trans rfl⟩ (fun hHeld => ?_)
    clear hK K
    refine norm_ (a' := ?_) ?_ ?_
    rotate_left
    ·show Act.put _ (some 32) _ = _
     simp only [Act.put, s2_, s0_, s1_, i64_w, i32_w]
     rfl
    refine pure_ (i := 3) (N := some 13) (v := ?_) (a' := ?_) #[true, true, true, true, false, false] rfl rfl (by kernel_rfl) (fun _ _ _ h => h) (Or.inl ⟨rfl, ?_⟩) ?_ ?_
    rotate_left
    ·intro w'
     go_simp
     with_reducible rfl
    rotate_left
    ·simp only [Act.put, s2_, s0_, s1_, i64_w, i32_w]
     rfl
    refine pure_ (i := 4) (N := some 14) (v := ?_) (a' := ?_) #[true, true, true, true, true, false] rfl rfl (by kernel_rfl) (fun _ _ _ h => h) (Or.inl ⟨rfl, ?_⟩) ?_ ?_
    rotate_left
    ·intro w'
     go_simp
     with_reducible rfl
    rotate_left
    ·simp only [Act.put, s2_, s0_, s1_, i64_w, i32_w]
     rfl
    refine pure_ (i := 5) (N := some 15) (v := ?_) (a' := ?_) #[true, true, true, true, true, true] rfl rfl (by kernel_rfl) (fun _ _ _ h => h) (Or.inl ⟨rfl, ?_⟩) ?_ ?_
    rotate_left
    ·intro w'
     go_simp
     with_reducible rfl
    rotate_left
    ·simp only [Act.put, s2_, s0_, s1_, i64_w, i32_w]
     rfl
    refine done_ (by kernel_rfl) ?_
    try go_wp2
    go_loopg [13, 14, 15] kj5 (fun kq v13 v14 v15 w' => ∃ (x13_2 : List (S128)) (x14_2 : Int) (x15_2 : List (S60)) (x463000_2 : Int) (x463001_2 : List (S60)) (x463002_2 : List (S60)) (x463003_2 : List Bool) (x463004_2 : Int) (u463001 : Value) (u463002 : Value) (u463003 : Value), v14 = .int .i64 x14_2 ∧ Aside0 (impl_BlockNestedLoopJoin.l0 kq a3 x13_2 x14_2 x15_2 x463000_2 x463001_2 x463002_2 x463003_2 x463004_2 = some (r1, r2, r3)) ∧ Aside0 (kq ≤ kj5) ∧ Aside0 (Kd.R k128 128 w' w.heap.size (fun _ => True) v13 x13_2) ∧ Aside0 (Kd.R k60 60 w' w.heap.size (fun k_ => some k_ ≠ (u463001 : Value).ownBlock) v15 x15_2) ∧ Aside0 (Kd.R k60 60 w' w.heap.size (fun k_ => some k_ ≠ (v15 : Value).ownBlock ∧ some k_ ≠ (u463002 : Value).ownBlock) u463001 x463001_2) ∧ Aside0 (Kd.R k60 60 w' w.heap.size (fun k_ => some k_ ≠ (u463001 : Value).ownBlock) u463002 x463002_2) ∧ Aside0 (Kd.R Kd.bool 4 w' w.heap.size (fun _ => True) u463003 x463003_2) ∧ Aside0 (w'.heap[gb462]? = some (.cells #[.int .i64 x463000_2, u463001, u463002, u463003, .int .i64 x463004_2] 40 (0, 0))) ∧ Aside0 (Below w.heap.size w w'))
    case atStart => exact ⟨(y464), (0), (t454), (t450), (t451), (t454), (t457), (t460), (.slice Ao10 t451.length co10), (.slice Ao11 t454.length co11), (.slice Ao12 t457.length co12), rfl, H', ⟨Nat.le_refl _⟩, ⟨HO466.out⟩, ⟨HO_463002.out⟩, ⟨by exact Kd.R_mono HO_463001.out (fun _ hk => ⟨hk, hk⟩)⟩, ⟨HO_463002.out⟩, ⟨HO_463003.out⟩, ⟨BK462.out⟩, ⟨HB.out⟩⟩
    case round =>
     clear H'
     obtain ⟨x13_2, x14_2, x15_2, x463000_2, x463001_2, x463002_2, x463003_2, x463004_2, u463001, u463002, u463003, rfl, HA, HK2, HO_13, HO_15, HO_463001, HO_463002, HO_463003, BK462, HB⟩ := hrel
     cases gk with
     | zero => exact absurd HA.out (by simp [impl_BlockNestedLoopJoin.l0])
     | succ k2 =>
      have H := HA.out
      clear HA
      simp only [impl_BlockNestedLoopJoin.l0] at H
      by_cases c19 : (x15_2.length : Int) > 0
      ·rw [if_pos c19] at H
       have c19b0 : decide (0 < (x15_2.length : Int)) = true := decide_eq_true c19
       have c19b1 : decide (0 < x15_2.length) = true := decide_eq_true (by omega)
       clear c19
       obtain ⟨y467, hy467⟩ : ∃ y_ : List (S60), y_ = (([] : List (S60))) := ⟨_, rfl⟩
       replace H : ((impl_NextChunk.f k2 x15_2 a3).bind fun bt473 => ((impl_JoinChunk.f k2 x463000_2 x463001_2 x463002_2 x463003_2 x463004_2 bt473.1).bind fun bt479 => (if x13_2.length + bt479.1.length < 2513169434916 then (impl_BlockNestedLoopJoin.l0 k2 a3 (x13_2 ++ bt479.1) (wrap64 (x14_2 + 1)) bt473.2 bt479.2.1 bt479.2.2.1 bt479.2.2.2.1 bt479.2.2.2.2.1 bt479.2.2.2.2.2) else (none)))) = some (r1, r2, r3) := by with_reducible exact H
       have Ny467 := am hy467
       clear hy467
       obtain ⟨y470, hy470⟩ : ∃ y_ : List (S128), y_ = (([] : List (S128))) := ⟨_, rfl⟩
       replace H : ((impl_NextChunk.f k2 x15_2 a3).bind fun bt473 => ((impl_JoinChunk.f k2 x463000_2 x463001_2 x463002_2 x463003_2 x463004_2 bt473.1).bind fun bt479 => (if x13_2.length + bt479.1.length < 2513169434916 then (impl_BlockNestedLoopJoin.l0 k2 a3 (x13_2 ++ bt479.1) (wrap64 (x14_2 + 1)) bt473.2 bt479.2.1 bt479.2.2.1 bt479.2.2.2.1 bt479.2.2.2.2.1 bt479.2.2.2.2.2) else (none)))) = some (r1, r2, r3) := by with_reducible exact H
       have Ny470 := am hy470
       clear hy470
       replace H := Option.bind_eq_some_iff.mp H
       obtain ⟨⟨t473, t474⟩, A200, H⟩ := H
       have A20 := am A200
       clear A200
       replace H := Option.bind_eq_some_iff.mp H
       obtain ⟨⟨t479, t482, t483, t486, t489, t492⟩, A210, H⟩ := H
       have A21 := am A210
       clear A210
       by_cases c22 : x13_2.length + t479.length < 2513169434916
       ·rw [if_pos c22] at H
        have LMc22 := am c22
        clear c22
        obtain ⟨y493, hy493⟩ : ∃ y_ : List (S128), y_ = (x13_2 ++ t479) := ⟨_, rfl⟩
        replace H : (impl_BlockNestedLoopJoin.l0 k2 a3 y493 (wrap64 (x14_2 + 1)) t474 t482 t483 t486 t489 t492) = some (r1, r2, r3) := by (rw [hy493]; with_reducible exact H)
        have Ny493 := am hy493
        clear hy493
        have H' := am H
        clear H
        obtain ⟨Ao23, co23, eo23⟩ := Kd.R_slice HO_15.out
        subst eo23
        go_wp2_with (first | ((with_reducible refine gate_dst (N := 38) rfl ?_); refine Kd.R_lit k60 _ 60 ?hg (N := 38) ?hd (xs := ([] : List (S60))) (inner := []) (ok := fun _ => True) (okp := fun _ => True) ?hr ?hp (fun _ hk => hk) trivial (Below.refl _ _) (Nat.le_refl _) (by simp) ?_; (case hd => rfl); (case hg => rfl); (case hr => (go_simp; done)); (case hp => exact (Reps.none _ _)); intro v468 w24 ho25 hb hg_ hnew_; clear hg_ hnew_; (rw [← Ny467.out] at ho25); replace HO_13 := am (Kd.R_below HO_13.out hb); replace HO_463003 := am (Kd.R_below HO_463003.out hb); have HO469 := am (Kd.R_lower (Kd.R_new' (Kd.R_new' (Kd.R_new' ho25 (Kd.R_lt HO_15.out)) (Kd.R_lt HO_463001.out)) (Kd.R_lt HO_463002.out)) (below_size HB.out)); replace HO_15 := am (Kd.R_elder' HO_15.out (Kd.R_base ho25) hb); replace HO_463001 := am (Kd.R_elder' HO_463001.out (Kd.R_base ho25) hb); replace HO_463002 := am (Kd.R_elder' HO_463002.out (Kd.R_base ho25) hb); replace BK462 := am (blk_below BK462.out hb); replace HB := am (below_step HB.out hb); clear hb ho25) | ((with_reducible refine gate_dst (N := 39) rfl ?_); refine Kd.R_lit k128 _ 128 ?hg (N := 39) ?hd (xs := ([] : List (S128))) (inner := []) (ok := fun _ => True) (okp := fun _ => True) ?hr ?hp (fun _ hk => hk) trivial (Below.refl _ _) (Nat.le_refl _) (by simp) ?_; (case hd => rfl); (case hg => rfl); (case hr => (go_simp; done)); (case hp => exact (Reps.none _ _)); intro v471 w26 ho27 hb hg_ hnew_; clear hg_ hnew_; (rw [← Ny470.out] at ho27); replace HO_15 := am (Kd.R_below HO_15.out hb); replace HO_463001 := am (Kd.R_below HO_463001.out hb); replace HO_463002 := am (Kd.R_below HO_463002.out hb); replace HO_463003 := am (Kd.R_below HO_463003.out hb); replace HO469 := am (Kd.R_below HO469.out hb); have HO472 := am (Kd.R_lower (Kd.R_new' ho27 (Kd.R_lt HO_13.out)) (below_size HB.out)); replace HO_13 := am (Kd.R_elder' HO_13.out (Kd.R_base ho27) hb); replace BK462 := am (blk_below BK462.out hb); replace HB := am (below_step HB.out hb); clear hb ho27) | ((with_reducible refine gate_callee (f := 18) rfl ?_); refine goesL_ (some 43) rfl rfl Try.func18 (by kernel_rfl) rfl #[.slice Ao23 x15_2.length co23, .int .i64 a3] rfl (by (try simp only [List.map_toArray, List.map_cons, List.map_nil]); rfl) ?_; (with_reducible refine (impl_NextChunk.calls k2 _ _ x15_2 a3 t473 t474 _ ?side1 ?side2 A20.out).mono ?_); (case side1 => repeat (exact (Kd.R_reads' HO_15.out).2.2)); (case side2 => exact (Kd.R_reads' HO_15.out).2.1); rintro e w28 ⟨v475, v477, rfl, ho0, ho1, hb⟩; refine ⟨_, rfl, ?_⟩; replace HO_13 := am (Kd.R_below HO_13.out hb); replace HO_463003 := am (Kd.R_below HO_463003.out hb); replace HO472 := am (Kd.R_below HO472.out hb); have HO476 := am (Kd.R_lower (Kd.R_new' (Kd.R_new' (Kd.R_new' (Kd.R_new' ho0 (Kd.R_lt HO_15.out)) (Kd.R_lt HO_463001.out)) (Kd.R_lt HO_463002.out)) (Kd.R_lt HO469.out)) (below_size HB.out)); have HO478 := am (Kd.R_lower (Kd.R_new' (Kd.R_new' (Kd.R_new' (Kd.R_new' ho1 (Kd.R_lt HO_15.out)) (Kd.R_lt HO_463001.out)) (Kd.R_lt HO_463002.out)) (Kd.R_lt HO469.out)) (below_size HB.out)); replace HO_15 := am (Kd.R_mono (Kd.R_told (Kd.R_told (Kd.R_old HO_15.out hb) (Kd.R_base ho0)) (Kd.R_base ho1)) (fun _ h_ => h_.1)); replace HO_463001 := am (Kd.R_mono (Kd.R_told (Kd.R_told (Kd.R_old HO_463001.out hb) (Kd.R_base ho0)) (Kd.R_base ho1)) (fun _ h_ => h_.1)); replace HO_463002 := am (Kd.R_mono (Kd.R_told (Kd.R_told (Kd.R_old HO_463002.out hb) (Kd.R_base ho0)) (Kd.R_base ho1)) (fun _ h_ => h_.1)); replace HO469 := am (Kd.R_mono (Kd.R_told (Kd.R_told (Kd.R_old HO469.out hb) (Kd.R_base ho0)) (Kd.R_base ho1)) (fun _ h_ => h_.1)); replace BK462 := am (blk_below BK462.out hb); replace HB := am (below_step HB.out hb); (try clear hb); (try clear ho0); (try clear ho1); obtain ⟨hcz29_0, hcz29_1, hcz29_2, hcz29_3, hcz29_4, hfz29_0, hfz29_1, hfz29_2, hfz29_3, hfz29_4⟩ := cells5_ BK462.out; obtain ⟨Ao30, co30, eo30⟩ := Kd.R_slice HO_463001.out; subst eo30; obtain ⟨Ao31, co31, eo31⟩ := Kd.R_slice HO_463002.out; subst eo31; obtain ⟨Ao32, co32, eo32⟩ := Kd.R_slice HO_463003.out; subst eo32; obtain ⟨Ao33, co33, eo33⟩ := Kd.R_slice HO476.out; subst eo33) | ((with_reducible refine gate_callee (f := 117) rfl ?_); refine goesL_ (some 49) rfl rfl Try.func117 (by kernel_rfl) rfl #[.agg #[.int .i64 x463000_2, .slice Ao30 x463001_2.length co30, .slice Ao31 x463002_2.length co31, .slice Ao32 x463003_2.length co32, .int .i64 x463004_2], .slice Ao33 t473.length co33] rfl (by (try simp only [List.map_toArray, List.map_cons, List.map_nil]); rfl) ?_; (with_reducible refine (impl_JoinChunk.calls k2 x463000_2 _ _ x463001_2 _ _ x463002_2 _ _ x463003_2 x463004_2 _ _ t473 t479 t482 t483 t486 t489 t492 _ ?side1 ?side2 ?side3 ?side4 ?side5 ?side6 ?side7 ?side8 A21.out).mono ?_); (case side1 => repeat (exact (Kd.R_reads' HO_463001.out).2.2)); (case side2 => exact (Kd.R_reads' HO_463001.out).2.1); (case side3 => repeat (exact (Kd.R_reads' HO_463002.out).2.2)); (case side4 => exact (Kd.R_reads' HO_463002.out).2.1); (case side5 => repeat (exact (Kd.R_reads' HO_463003.out).2.2)); (case side6 => exact (Kd.R_reads' HO_463003.out).2.1); (case side7 => repeat (exact (Kd.R_reads' HO476.out).2.2)); (case side8 => exact (Kd.R_reads' HO476.out).2.1); rintro e w34 ⟨v480, v484, v487, v490, rfl, ho0, ho1, ho2, ho3, hb⟩; refine ⟨_, rfl, ?_⟩; have HO481 := am (Kd.R_lower (Kd.R_new' (Kd.R_new' ho0 (Kd.R_lt HO_13.out)) (Kd.R_lt HO472.out)) (below_size HB.out)); replace HO_13 := am (Kd.R_elder' HO_13.out (Kd.R_base ho0) hb); replace HO472 := am (Kd.R_elder' HO472.out (Kd.R_base ho0) hb); have HO485 := am (Kd.R_lower (Kd.R_new' (Kd.R_new' (Kd.R_new' (Kd.R_new' (Kd.R_new' (Kd.R_new' ho1 (Kd.R_lt HO_15.out)) (Kd.R_lt HO_463001.out)) (Kd.R_lt HO_463002.out)) (Kd.R_lt HO469.out)) (Kd.R_lt HO476.out)) (Kd.R_lt HO478.out)) (below_size HB.out)); have HO488 := am (Kd.R_lower (Kd.R_new' (Kd.R_new' (Kd.R_new' (Kd.R_new' (Kd.R_new' (Kd.R_new' ho2 (Kd.R_lt HO_15.out)) (Kd.R_lt HO_463001.out)) (Kd.R_lt HO_463002.out)) (Kd.R_lt HO469.out)) (Kd.R_lt HO476.out)) (Kd.R_lt HO478.out)) (below_size HB.out)); replace HO_15 := am (Kd.R_mono (Kd.R_told (Kd.R_told (Kd.R_old HO_15.out hb) (Kd.R_base ho1)) (Kd.R_base ho2)) (fun _ h_ => h_.1)); replace HO_463001 := am (Kd.R_mono (Kd.R_told (Kd.R_told (Kd.R_old HO_463001.out hb) (Kd.R_base ho1)) (Kd.R_base ho2)) (fun _ h_ => h_.1)); replace HO_463002 := am (Kd.R_mono (Kd.R_told (Kd.R_told (Kd.R_old HO_463002.out hb) (Kd.R_base ho1)) (Kd.R_base ho2)) (fun _ h_ => h_.1)); replace HO469 := am (Kd.R_mono (Kd.R_told (Kd.R_told (Kd.R_old HO469.out hb) (Kd.R_base ho1)) (Kd.R_base ho2)) (fun _ h_ => h_.1)); replace HO476 := am (Kd.R_mono (Kd.R_told (Kd.R_told (Kd.R_old HO476.out hb) (Kd.R_base ho1)) (Kd.R_base ho2)) (fun _ h_ => h_.1)); replace HO478 := am (Kd.R_mono (Kd.R_told (Kd.R_told (Kd.R_old HO478.out hb) (Kd.R_base ho1)) (Kd.R_base ho2)) (fun _ h_ => h_.1)); have HO491 := am (Kd.R_lower (Kd.R_new' ho3 (Kd.R_lt HO_463003.out)) (below_size HB.out)); replace HO_463003 := am (Kd.R_elder' HO_463003.out (Kd.R_base ho3) hb); replace BK462 := am (blk_below BK462.out hb); replace HB := am (below_step HB.out hb); (try clear hb); (try clear ho0); (try clear ho1); (try clear ho2); (try clear ho3); obtain ⟨hcz35_0, hcz35_1, hcz35_2, hcz35_3, hcz35_4, hfz35_0, hfz35_1, hfz35_2, hfz35_3, hfz35_4⟩ := cells5_ BK462.out; obtain ⟨Ao36, co36, eo36⟩ := Kd.R_slice HO485.out; subst eo36; obtain ⟨Ao37, co37, eo37⟩ := Kd.R_slice HO488.out; subst eo37; obtain ⟨Ao38, co38, eo38⟩ := Kd.R_slice HO491.out; subst eo38; obtain ⟨Ao40, co40, eo40⟩ := Kd.R_slice HO481.out; subst eo40) | ((with_reducible refine gate_builtin (b := .append) (xs := #[.tmp 52, .tmp 53]) rfl ?_); at_builtin; refine Kd.R_append_rows k128 (w0 := w) w.heap.size rfl (.tmp 52) (.tmp 53) 33 128 (.agg #[(.int .i64 0), (.int .i64 0), (.int .i64 0), (.int .i64 0), (.int .i64 0), (.int .i64 0), (.bool false)]) 56 rfl Try.underlying33 info128 rfl (by decide) (by omega) u13 x13_2 t479 _ _ _ (fun k_ => some k_ ≠ (v471 : Value).ownBlock ∧ some k_ ≠ (.slice Ao40 t479.length co40 : Value).ownBlock) (fun _ => False) rfl rfl ?aO ?aR (fun _ _ h => h) (fun _ h => h.elim) ?aF ?aB ?aS ?aL ?_; (case aR => refine (Kd.R_reads' (e := 128) (base := w.heap.size) (ok := fun k_ => ((True ∧ some k_ ≠ (u13 : Value).ownBlock) ∧ some k_ ≠ (v471 : Value).ownBlock)) (n := t479.length) (c := co40) ?_).2.2; exact (by exact (Kd.R_mono (Kd.R_far (p := ⟨gb462, 4, none⟩) (Kd.R_far (p := ⟨gb462, 3, none⟩) (Kd.R_far (p := ⟨gb462, 2, none⟩) (Kd.R_far (p := ⟨gb462, 1, none⟩) (Kd.R_far (p := ⟨gb462, 0, none⟩) (Kd.R_types HO481.out BK462.out (by decide)) (fun _ hk => hk.2) (.int .i64 t482)) (fun _ hk => hk.2) (.slice Ao36 t483.length co36)) (fun _ hk => hk.2) (.slice Ao37 t486.length co37)) (fun _ hk => hk.2) (.slice Ao38 t489.length co38)) (fun _ hk => hk.2) (.int .i64 t492)) (fun _ h_ => h_.1)))); (case aB => exact (by repeat (with_reducible first | exact HB.out | refine below_set ?_ GE462.out))); (case aF => exact (fun k_ hk => ⟨Kd.fresh' (Kd.R_lt (by exact (Kd.R_mono (Kd.R_far (p := ⟨gb462, 4, none⟩) (Kd.R_far (p := ⟨gb462, 3, none⟩) (Kd.R_far (p := ⟨gb462, 2, none⟩) (Kd.R_far (p := ⟨gb462, 1, none⟩) (Kd.R_far (p := ⟨gb462, 0, none⟩) (Kd.R_types HO472.out BK462.out (by decide)) (fun _ hk => hk.2) (.int .i64 t482)) (fun _ hk => hk.2) (.slice Ao36 t483.length co36)) (fun _ hk => hk.2) (.slice Ao37 t486.length co37)) (fun _ hk => hk.2) (.slice Ao38 t489.length co38)) (fun _ hk => hk.2) (.int .i64 t492)) (fun _ h_ => h_.1)))) k_ hk, Kd.fresh' (Kd.R_lt (by exact (Kd.R_mono (Kd.R_far (p := ⟨gb462, 4, none⟩) (Kd.R_far (p := ⟨gb462, 3, none⟩) (Kd.R_far (p := ⟨gb462, 2, none⟩) (Kd.R_far (p := ⟨gb462, 1, none⟩) (Kd.R_far (p := ⟨gb462, 0, none⟩) (Kd.R_types HO481.out BK462.out (by decide)) (fun _ hk => hk.2) (.int .i64 t482)) (fun _ hk => hk.2) (.slice Ao36 t483.length co36)) (fun _ hk => hk.2) (.slice Ao37 t486.length co37)) (fun _ hk => hk.2) (.slice Ao38 t489.length co38)) (fun _ hk => hk.2) (.int .i64 t492)) (fun _ h_ => h_.1)))) k_ hk⟩)); (case aO => exact (by exact Kd.R_mono (Kd.R_far (p := ⟨gb462, 4, none⟩) (Kd.R_far (p := ⟨gb462, 3, none⟩) (Kd.R_far (p := ⟨gb462, 2, none⟩) (Kd.R_far (p := ⟨gb462, 1, none⟩) (Kd.R_far (p := ⟨gb462, 0, none⟩) (Kd.R_types HO_13.out BK462.out (by decide)) (fun _ hk => hk.2) (.int .i64 t482)) (fun _ hk => hk.2) (.slice Ao36 t483.length co36)) (fun _ hk => hk.2) (.slice Ao37 t486.length co37)) (fun _ hk => hk.2) (.slice Ao38 t489.length co38)) (fun _ hk => hk.2) (.int .i64 t492)) (fun _ hk => ⟨hk.1.1.2, hk.1.2⟩))); (case aS => exact (below_size (by repeat (with_reducible first | exact HB.out | refine below_set ?_ GE462.out)))); (case aL => have := LMc22.out; omega); intro v494 w39 ho hb hg hat; rw [← Ny493.out] at ho; replace HO_15 := am (Kd.R_over' (by exact (Kd.R_mono (Kd.R_far (p := ⟨gb462, 4, none⟩) (Kd.R_far (p := ⟨gb462, 3, none⟩) (Kd.R_far (p := ⟨gb462, 2, none⟩) (Kd.R_far (p := ⟨gb462, 1, none⟩) (Kd.R_far (p := ⟨gb462, 0, none⟩) (Kd.R_types HO_15.out BK462.out (by decide)) (fun _ hk => hk.2) (.int .i64 t482)) (fun _ hk => hk.2) (.slice Ao36 t483.length co36)) (fun _ hk => hk.2) (.slice Ao37 t486.length co37)) (fun _ hk => hk.2) (.slice Ao38 t489.length co38)) (fun _ hk => hk.2) (.int .i64 t492)) (fun _ h_ => h_.1))) (Kd.R_typed (by exact (Kd.R_mono (Kd.R_far (p := ⟨gb462, 4, none⟩) (Kd.R_far (p := ⟨gb462, 3, none⟩) (Kd.R_far (p := ⟨gb462, 2, none⟩) (Kd.R_far (p := ⟨gb462, 1, none⟩) (Kd.R_far (p := ⟨gb462, 0, none⟩) (Kd.R_types HO_13.out BK462.out (by decide)) (fun _ hk => hk.2) (.int .i64 t482)) (fun _ hk => hk.2) (.slice Ao36 t483.length co36)) (fun _ hk => hk.2) (.slice Ao37 t486.length co37)) (fun _ hk => hk.2) (.slice Ao38 t489.length co38)) (fun _ hk => hk.2) (.int .i64 t492)) (fun _ h_ => h_.1)))) (by decide) hg); replace HO_463001 := am (Kd.R_over' (by exact (Kd.R_mono (Kd.R_far (p := ⟨gb462, 4, none⟩) (Kd.R_far (p := ⟨gb462, 3, none⟩) (Kd.R_far (p := ⟨gb462, 2, none⟩) (Kd.R_far (p := ⟨gb462, 1, none⟩) (Kd.R_far (p := ⟨gb462, 0, none⟩) (Kd.R_types HO_463001.out BK462.out (by decide)) (fun _ hk => hk.2) (.int .i64 t482)) (fun _ hk => hk.2) (.slice Ao36 t483.length co36)) (fun _ hk => hk.2) (.slice Ao37 t486.length co37)) (fun _ hk => hk.2) (.slice Ao38 t489.length co38)) (fun _ hk => hk.2) (.int .i64 t492)) (fun _ h_ => h_.1))) (Kd.R_typed (by exact (Kd.R_mono (Kd.R_far (p := ⟨gb462, 4, none⟩) (Kd.R_far (p := ⟨gb462, 3, none⟩) (Kd.R_far (p := ⟨gb462, 2, none⟩) (Kd.R_far (p := ⟨gb462, 1, none⟩) (Kd.R_far (p := ⟨gb462, 0, none⟩) (Kd.R_types HO_13.out BK462.out (by decide)) (fun _ hk => hk.2) (.int .i64 t482)) (fun _ hk => hk.2) (.slice Ao36 t483.length co36)) (fun _ hk => hk.2) (.slice Ao37 t486.length co37)) (fun _ hk => hk.2) (.slice Ao38 t489.length co38)) (fun _ hk => hk.2) (.int .i64 t492)) (fun _ h_ => h_.1)))) (by decide) hg); replace HO_463002 := am (Kd.R_over' (by exact (Kd.R_mono (Kd.R_far (p := ⟨gb462, 4, none⟩) (Kd.R_far (p := ⟨gb462, 3, none⟩) (Kd.R_far (p := ⟨gb462, 2, none⟩) (Kd.R_far (p := ⟨gb462, 1, none⟩) (Kd.R_far (p := ⟨gb462, 0, none⟩) (Kd.R_types HO_463002.out BK462.out (by decide)) (fun _ hk => hk.2) (.int .i64 t482)) (fun _ hk => hk.2) (.slice Ao36 t483.length co36)) (fun _ hk => hk.2) (.slice Ao37 t486.length co37)) (fun _ hk => hk.2) (.slice Ao38 t489.length co38)) (fun _ hk => hk.2) (.int .i64 t492)) (fun _ h_ => h_.1))) (Kd.R_typed (by exact (Kd.R_mono (Kd.R_far (p := ⟨gb462, 4, none⟩) (Kd.R_far (p := ⟨gb462, 3, none⟩) (Kd.R_far (p := ⟨gb462, 2, none⟩) (Kd.R_far (p := ⟨gb462, 1, none⟩) (Kd.R_far (p := ⟨gb462, 0, none⟩) (Kd.R_types HO_13.out BK462.out (by decide)) (fun _ hk => hk.2) (.int .i64 t482)) (fun _ hk => hk.2) (.slice Ao36 t483.length co36)) (fun _ hk => hk.2) (.slice Ao37 t486.length co37)) (fun _ hk => hk.2) (.slice Ao38 t489.length co38)) (fun _ hk => hk.2) (.int .i64 t492)) (fun _ h_ => h_.1)))) (by decide) hg); replace HO_463003 := am (Kd.R_over' (by exact (Kd.R_mono (Kd.R_far (p := ⟨gb462, 4, none⟩) (Kd.R_far (p := ⟨gb462, 3, none⟩) (Kd.R_far (p := ⟨gb462, 2, none⟩) (Kd.R_far (p := ⟨gb462, 1, none⟩) (Kd.R_far (p := ⟨gb462, 0, none⟩) (Kd.R_types HO_463003.out BK462.out (by decide)) (fun _ hk => hk.2) (.int .i64 t482)) (fun _ hk => hk.2) (.slice Ao36 t483.length co36)) (fun _ hk => hk.2) (.slice Ao37 t486.length co37)) (fun _ hk => hk.2) (.slice Ao38 t489.length co38)) (fun _ hk => hk.2) (.int .i64 t492)) (fun _ h_ => h_.1))) (Kd.R_typed (by exact (Kd.R_mono (Kd.R_far (p := ⟨gb462, 4, none⟩) (Kd.R_far (p := ⟨gb462, 3, none⟩) (Kd.R_far (p := ⟨gb462, 2, none⟩) (Kd.R_far (p := ⟨gb462, 1, none⟩) (Kd.R_far (p := ⟨gb462, 0, none⟩) (Kd.R_types HO_13.out BK462.out (by decide)) (fun _ hk => hk.2) (.int .i64 t482)) (fun _ hk => hk.2) (.slice Ao36 t483.length co36)) (fun _ hk => hk.2) (.slice Ao37 t486.length co37)) (fun _ hk => hk.2) (.slice Ao38 t489.length co38)) (fun _ hk => hk.2) (.int .i64 t492)) (fun _ h_ => h_.1)))) (by decide) hg); replace HO469 := am (Kd.R_over' (by exact (Kd.R_mono (Kd.R_far (p := ⟨gb462, 4, none⟩) (Kd.R_far (p := ⟨gb462, 3, none⟩) (Kd.R_far (p := ⟨gb462, 2, none⟩) (Kd.R_far (p := ⟨gb462, 1, none⟩) (Kd.R_far (p := ⟨gb462, 0, none⟩) (Kd.R_types HO469.out BK462.out (by decide)) (fun _ hk => hk.2) (.int .i64 t482)) (fun _ hk => hk.2) (.slice Ao36 t483.length co36)) (fun _ hk => hk.2) (.slice Ao37 t486.length co37)) (fun _ hk => hk.2) (.slice Ao38 t489.length co38)) (fun _ hk => hk.2) (.int .i64 t492)) (fun _ h_ => h_.1))) (Kd.R_typed (by exact (Kd.R_mono (Kd.R_far (p := ⟨gb462, 4, none⟩) (Kd.R_far (p := ⟨gb462, 3, none⟩) (Kd.R_far (p := ⟨gb462, 2, none⟩) (Kd.R_far (p := ⟨gb462, 1, none⟩) (Kd.R_far (p := ⟨gb462, 0, none⟩) (Kd.R_types HO_13.out BK462.out (by decide)) (fun _ hk => hk.2) (.int .i64 t482)) (fun _ hk => hk.2) (.slice Ao36 t483.length co36)) (fun _ hk => hk.2) (.slice Ao37 t486.length co37)) (fun _ hk => hk.2) (.slice Ao38 t489.length co38)) (fun _ hk => hk.2) (.int .i64 t492)) (fun _ h_ => h_.1)))) (by decide) hg); replace HO472 := am (Kd.R_after (ok := (fun k_ => some k_ ≠ (.slice Ao40 t479.length co40 : Value).ownBlock)) (by exact Kd.R_mono (Kd.R_far (p := ⟨gb462, 4, none⟩) (Kd.R_far (p := ⟨gb462, 3, none⟩) (Kd.R_far (p := ⟨gb462, 2, none⟩) (Kd.R_far (p := ⟨gb462, 1, none⟩) (Kd.R_far (p := ⟨gb462, 0, none⟩) (Kd.R_types HO472.out BK462.out (by decide)) (fun _ hk => hk.2) (.int .i64 t482)) (fun _ hk => hk.2) (.slice Ao36 t483.length co36)) (fun _ hk => hk.2) (.slice Ao37 t486.length co37)) (fun _ hk => hk.2) (.slice Ao38 t489.length co38)) (fun _ hk => hk.2) (.int .i64 t492)) (fun _ hk => ⟨hk.1.2, hk.1.1.2⟩)) hg hat); replace HO476 := am (Kd.R_over' (by exact (Kd.R_mono (Kd.R_far (p := ⟨gb462, 4, none⟩) (Kd.R_far (p := ⟨gb462, 3, none⟩) (Kd.R_far (p := ⟨gb462, 2, none⟩) (Kd.R_far (p := ⟨gb462, 1, none⟩) (Kd.R_far (p := ⟨gb462, 0, none⟩) (Kd.R_types HO476.out BK462.out (by decide)) (fun _ hk => hk.2) (.int .i64 t482)) (fun _ hk => hk.2) (.slice Ao36 t483.length co36)) (fun _ hk => hk.2) (.slice Ao37 t486.length co37)) (fun _ hk => hk.2) (.slice Ao38 t489.length co38)) (fun _ hk => hk.2) (.int .i64 t492)) (fun _ h_ => h_.1))) (Kd.R_typed (by exact (Kd.R_mono (Kd.R_far (p := ⟨gb462, 4, none⟩) (Kd.R_far (p := ⟨gb462, 3, none⟩) (Kd.R_far (p := ⟨gb462, 2, none⟩) (Kd.R_far (p := ⟨gb462, 1, none⟩) (Kd.R_far (p := ⟨gb462, 0, none⟩) (Kd.R_types HO_13.out BK462.out (by decide)) (fun _ hk => hk.2) (.int .i64 t482)) (fun _ hk => hk.2) (.slice Ao36 t483.length co36)) (fun _ hk => hk.2) (.slice Ao37 t486.length co37)) (fun _ hk => hk.2) (.slice Ao38 t489.length co38)) (fun _ hk => hk.2) (.int .i64 t492)) (fun _ h_ => h_.1)))) (by decide) hg); replace HO478 := am (Kd.R_over' (by exact (Kd.R_mono (Kd.R_far (p := ⟨gb462, 4, none⟩) (Kd.R_far (p := ⟨gb462, 3, none⟩) (Kd.R_far (p := ⟨gb462, 2, none⟩) (Kd.R_far (p := ⟨gb462, 1, none⟩) (Kd.R_far (p := ⟨gb462, 0, none⟩) (Kd.R_types HO478.out BK462.out (by decide)) (fun _ hk => hk.2) (.int .i64 t482)) (fun _ hk => hk.2) (.slice Ao36 t483.length co36)) (fun _ hk => hk.2) (.slice Ao37 t486.length co37)) (fun _ hk => hk.2) (.slice Ao38 t489.length co38)) (fun _ hk => hk.2) (.int .i64 t492)) (fun _ h_ => h_.1))) (Kd.R_typed (by exact (Kd.R_mono (Kd.R_far (p := ⟨gb462, 4, none⟩) (Kd.R_far (p := ⟨gb462, 3, none⟩) (Kd.R_far (p := ⟨gb462, 2, none⟩) (Kd.R_far (p := ⟨gb462, 1, none⟩) (Kd.R_far (p := ⟨gb462, 0, none⟩) (Kd.R_types HO_13.out BK462.out (by decide)) (fun _ hk => hk.2) (.int .i64 t482)) (fun _ hk => hk.2) (.slice Ao36 t483.length co36)) (fun _ hk => hk.2) (.slice Ao37 t486.length co37)) (fun _ hk => hk.2) (.slice Ao38 t489.length co38)) (fun _ hk => hk.2) (.int .i64 t492)) (fun _ h_ => h_.1)))) (by decide) hg); replace HO481 := am (Kd.R_after (ok := (fun k_ => some k_ ≠ (v471 : Value).ownBlock)) (by exact Kd.R_mono (Kd.R_far (p := ⟨gb462, 4, none⟩) (Kd.R_far (p := ⟨gb462, 3, none⟩) (Kd.R_far (p := ⟨gb462, 2, none⟩) (Kd.R_far (p := ⟨gb462, 1, none⟩) (Kd.R_far (p := ⟨gb462, 0, none⟩) (Kd.R_types HO481.out BK462.out (by decide)) (fun _ hk => hk.2) (.int .i64 t482)) (fun _ hk => hk.2) (.slice Ao36 t483.length co36)) (fun _ hk => hk.2) (.slice Ao37 t486.length co37)) (fun _ hk => hk.2) (.slice Ao38 t489.length co38)) (fun _ hk => hk.2) (.int .i64 t492)) (fun _ hk => ⟨hk.1.2, hk.1.1.2⟩)) hg hat); replace HO485 := am (Kd.R_over' (by exact (Kd.R_mono (Kd.R_far (p := ⟨gb462, 4, none⟩) (Kd.R_far (p := ⟨gb462, 3, none⟩) (Kd.R_far (p := ⟨gb462, 2, none⟩) (Kd.R_far (p := ⟨gb462, 1, none⟩) (Kd.R_far (p := ⟨gb462, 0, none⟩) (Kd.R_types HO485.out BK462.out (by decide)) (fun _ hk => hk.2) (.int .i64 t482)) (fun _ hk => hk.2) (.slice Ao36 t483.length co36)) (fun _ hk => hk.2) (.slice Ao37 t486.length co37)) (fun _ hk => hk.2) (.slice Ao38 t489.length co38)) (fun _ hk => hk.2) (.int .i64 t492)) (fun _ h_ => h_.1))) (Kd.R_typed (by exact (Kd.R_mono (Kd.R_far (p := ⟨gb462, 4, none⟩) (Kd.R_far (p := ⟨gb462, 3, none⟩) (Kd.R_far (p := ⟨gb462, 2, none⟩) (Kd.R_far (p := ⟨gb462, 1, none⟩) (Kd.R_far (p := ⟨gb462, 0, none⟩) (Kd.R_types HO_13.out BK462.out (by decide)) (fun _ hk => hk.2) (.int .i64 t482)) (fun _ hk => hk.2) (.slice Ao36 t483.length co36)) (fun _ hk => hk.2) (.slice Ao37 t486.length co37)) (fun _ hk => hk.2) (.slice Ao38 t489.length co38)) (fun _ hk => hk.2) (.int .i64 t492)) (fun _ h_ => h_.1)))) (by decide) hg); replace HO488 := am (Kd.R_over' (by exact (Kd.R_mono (Kd.R_far (p := ⟨gb462, 4, none⟩) (Kd.R_far (p := ⟨gb462, 3, none⟩) (Kd.R_far (p := ⟨gb462, 2, none⟩) (Kd.R_far (p := ⟨gb462, 1, none⟩) (Kd.R_far (p := ⟨gb462, 0, none⟩) (Kd.R_types HO488.out BK462.out (by decide)) (fun _ hk => hk.2) (.int .i64 t482)) (fun _ hk => hk.2) (.slice Ao36 t483.length co36)) (fun _ hk => hk.2) (.slice Ao37 t486.length co37)) (fun _ hk => hk.2) (.slice Ao38 t489.length co38)) (fun _ hk => hk.2) (.int .i64 t492)) (fun _ h_ => h_.1))) (Kd.R_typed (by exact (Kd.R_mono (Kd.R_far (p := ⟨gb462, 4, none⟩) (Kd.R_far (p := ⟨gb462, 3, none⟩) (Kd.R_far (p := ⟨gb462, 2, none⟩) (Kd.R_far (p := ⟨gb462, 1, none⟩) (Kd.R_far (p := ⟨gb462, 0, none⟩) (Kd.R_types HO_13.out BK462.out (by decide)) (fun _ hk => hk.2) (.int .i64 t482)) (fun _ hk => hk.2) (.slice Ao36 t483.length co36)) (fun _ hk => hk.2) (.slice Ao37 t486.length co37)) (fun _ hk => hk.2) (.slice Ao38 t489.length co38)) (fun _ hk => hk.2) (.int .i64 t492)) (fun _ h_ => h_.1)))) (by decide) hg); replace HO491 := am (Kd.R_over' (by exact (Kd.R_mono (Kd.R_far (p := ⟨gb462, 4, none⟩) (Kd.R_far (p := ⟨gb462, 3, none⟩) (Kd.R_far (p := ⟨gb462, 2, none⟩) (Kd.R_far (p := ⟨gb462, 1, none⟩) (Kd.R_far (p := ⟨gb462, 0, none⟩) (Kd.R_types HO491.out BK462.out (by decide)) (fun _ hk => hk.2) (.int .i64 t482)) (fun _ hk => hk.2) (.slice Ao36 t483.length co36)) (fun _ hk => hk.2) (.slice Ao37 t486.length co37)) (fun _ hk => hk.2) (.slice Ao38 t489.length co38)) (fun _ hk => hk.2) (.int .i64 t492)) (fun _ h_ => h_.1))) (Kd.R_typed (by exact (Kd.R_mono (Kd.R_far (p := ⟨gb462, 4, none⟩) (Kd.R_far (p := ⟨gb462, 3, none⟩) (Kd.R_far (p := ⟨gb462, 2, none⟩) (Kd.R_far (p := ⟨gb462, 1, none⟩) (Kd.R_far (p := ⟨gb462, 0, none⟩) (Kd.R_types HO_13.out BK462.out (by decide)) (fun _ hk => hk.2) (.int .i64 t482)) (fun _ hk => hk.2) (.slice Ao36 t483.length co36)) (fun _ hk => hk.2) (.slice Ao37 t486.length co37)) (fun _ hk => hk.2) (.slice Ao38 t489.length co38)) (fun _ hk => hk.2) (.int .i64 t492)) (fun _ h_ => h_.1)))) (by decide) hg); replace BK462 := am (blk_grown (g := gb462) (o := .cells #[.int .i64 t482, .slice Ao36 t483.length co36, .slice Ao37 t486.length co37, .slice Ao38 t489.length co38, .int .i64 t492] 40 (0, 0)) (by refine blk_put (cs := #[.int .i64 t482, .slice Ao36 t483.length co36, .slice Ao37 t486.length co37, .slice Ao38 t489.length co38, .int .i64 x463004_2]) ?_ 4 _ rfl; refine blk_put (cs := #[.int .i64 t482, .slice Ao36 t483.length co36, .slice Ao37 t486.length co37, .slice Ao32 x463003_2.length co32, .int .i64 x463004_2]) ?_ 3 _ rfl; refine blk_put (cs := #[.int .i64 t482, .slice Ao36 t483.length co36, .slice Ao31 x463002_2.length co31, .slice Ao32 x463003_2.length co32, .int .i64 x463004_2]) ?_ 2 _ rfl; refine blk_put (cs := #[.int .i64 t482, .slice Ao30 x463001_2.length co30, .slice Ao31 x463002_2.length co31, .slice Ao32 x463003_2.length co32, .int .i64 x463004_2]) ?_ 1 _ rfl; refine blk_put (cs := #[.int .i64 x463000_2, .slice Ao30 x463001_2.length co30, .slice Ao31 x463002_2.length co31, .slice Ao32 x463003_2.length co32, .int .i64 x463004_2]) ?_ 0 _ rfl; exact BK462.out) hg (Kd.R_ne HO_13.out BK462.out (by decide))); replace HB := am (hb); have HO495 := am (ho); clear HO_13 ho hb hg hat))
        go_roundg k2
        case measure => have := HJ5.out; have := HK2.out; omega
        case rel => exact ⟨(y493), (wrap64 (x14_2 + 1)), (t474), (t482), (t483), (t486), (t489), (t492), (.slice Ao36 t483.length co36), (.slice Ao37 t486.length co37), (.slice Ao38 t489.length co38), rfl, H', ⟨by have := HJ5.out; have := HK2.out; omega⟩, ⟨by exact Kd.R_mono HO495.out (fun _ hk => trivial)⟩, ⟨by exact Kd.R_mono HO478.out (fun _ hk => hk.1.2)⟩, ⟨by exact Kd.R_mono HO485.out (fun _ hk => ⟨hk.2, hk.1.1.1.1.1.1⟩)⟩, ⟨by exact Kd.R_mono HO488.out (fun _ hk => hk.1.1.1.1.1.1)⟩, ⟨by exact Kd.R_mono HO491.out (fun _ hk => trivial)⟩, ⟨BK462.out⟩, ⟨HB.out⟩⟩
       ·rw [if_neg c22] at H
        exact absurd H (by simp)
      ·rw [if_neg c19] at H
       have c19b0 : decide (0 < (x15_2.length : Int)) = false := decide_eq_false c19
       have c19b1 : decide (0 < x15_2.length) = false := decide_eq_false (by omega)
       clear c19
       replace H := Option.bind_eq_some_iff.mp H
       obtain ⟨t496, A410, H⟩ := H
       have A41 := am A410
       clear A410
       by_cases c42 : x13_2.length + t496.length < 2513169434916
       ·rw [if_pos c42] at H
        have LMc42 := am c42
        clear c42
        obtain ⟨y499, hy499⟩ : ∃ y_ : List (S128), y_ = (x13_2 ++ t496) := ⟨_, rfl⟩
        replace H : (some (y499, x14_2, true)) = some (r1, r2, r3) := by (rw [hy499]; with_reducible exact H)
        have Ny499 := am hy499
        clear hy499
        simp only [Option.some.injEq, Prod.mk.injEq] at H
        obtain ⟨rfl, rfl, rfl⟩ := H
        obtain ⟨Ao43, co43, eo43⟩ := Kd.R_slice HO_15.out
        subst eo43
        obtain ⟨hcz44_0, hcz44_1, hcz44_2, hcz44_3, hcz44_4, hfz44_0, hfz44_1, hfz44_2, hfz44_3, hfz44_4⟩ := cells5_ BK462.out
        obtain ⟨Ao45, co45, eo45⟩ := Kd.R_slice HO_463001.out
        subst eo45
        obtain ⟨Ao46, co46, eo46⟩ := Kd.R_slice HO_463002.out
        subst eo46
        obtain ⟨Ao47, co47, eo47⟩ := Kd.R_slice HO_463003.out
        subst eo47
        go_wp2_with (first | ((with_reducible refine gate_callee (f := 118) rfl ?_); refine goesL_ (some 59) rfl rfl Try.func118 (by kernel_rfl) rfl #[.agg #[.int .i64 x463000_2, .slice Ao45 x463001_2.length co45, .slice Ao46 x463002_2.length co46, .slice Ao47 x463003_2.length co47, .int .i64 x463004_2]] rfl (by (try simp only [List.map_toArray, List.map_cons, List.map_nil]); rfl) ?_; (with_reducible refine (impl_UnmatchedRows.calls k2 x463000_2 _ _ x463001_2 _ _ x463002_2 _ _ x463003_2 x463004_2 t496 _ ?side1 ?side2 ?side3 ?side4 ?side5 ?side6 A41.out).mono ?_); (case side1 => repeat (exact (Kd.R_reads' HO_463001.out).2.2)); (case side2 => exact (Kd.R_reads' HO_463001.out).2.1); (case side3 => repeat (exact (Kd.R_reads' HO_463002.out).2.2)); (case side4 => exact (Kd.R_reads' HO_463002.out).2.1); (case side5 => repeat (exact (Kd.R_reads' HO_463003.out).2.2)); (case side6 => exact (Kd.R_reads' HO_463003.out).2.1); rintro e w48 ⟨v497, rfl, ho0, hb⟩; refine ⟨_, rfl, ?_⟩; replace HO_15 := am (Kd.R_below HO_15.out hb); replace HO_463001 := am (Kd.R_below HO_463001.out hb); replace HO_463002 := am (Kd.R_below HO_463002.out hb); replace HO_463003 := am (Kd.R_below HO_463003.out hb); have HO498 := am (Kd.R_lower (Kd.R_new' ho0 (Kd.R_lt HO_13.out)) (below_size HB.out)); replace HO_13 := am (Kd.R_elder' HO_13.out (Kd.R_base ho0) hb); replace BK462 := am (blk_below BK462.out hb); replace HB := am (below_step HB.out hb); (try clear hb); (try clear ho0); obtain ⟨Ao50, co50, eo50⟩ := Kd.R_slice HO498.out; subst eo50) | ((with_reducible refine gate_builtin (b := .append) (xs := #[.tmp 57, .tmp 59]) rfl ?_); at_builtin; refine Kd.R_append_rows k128 (w0 := w) w.heap.size rfl (.tmp 57) (.tmp 59) 33 128 (.agg #[(.int .i64 0), (.int .i64 0), (.int .i64 0), (.int .i64 0), (.int .i64 0), (.int .i64 0), (.bool false)]) 56 rfl Try.underlying33 info128 rfl (by decide) (by omega) u13 x13_2 t496 _ _ _ (fun k_ => some k_ ≠ (.slice Ao50 t496.length co50 : Value).ownBlock) (fun _ => False) rfl rfl ?aO ?aR (fun _ _ h => h) (fun _ h => h.elim) ?aF ?aB ?aS ?aL ?_; (case aR => repeat (exact (Kd.R_reads' HO498.out).2.2)); (case aB => exact HB.out); (case aF => exact (fun k_ hk => Kd.fresh' (Kd.R_lt HO498.out) k_ hk)); (case aO => exact (by exact Kd.R_mono HO_13.out (fun _ hk => hk.2))); (case aS => exact (below_size HB.out)); (case aL => have := LMc42.out; omega); intro v500 w49 ho hb hg hat; rw [← Ny499.out] at ho; replace HO_15 := am (Kd.R_over' HO_15.out (Kd.R_typed HO_13.out) (by decide) hg); replace HO_463001 := am (Kd.R_over' HO_463001.out (Kd.R_typed HO_13.out) (by decide) hg); replace HO_463002 := am (Kd.R_over' HO_463002.out (Kd.R_typed HO_13.out) (by decide) hg); replace HO_463003 := am (Kd.R_over' HO_463003.out (Kd.R_typed HO_13.out) (by decide) hg); replace BK462 := am (blk_grown BK462.out hg (Kd.R_ne HO_13.out BK462.out (by decide))); replace HO498 := am (Kd.R_after (ok := (fun _ => True)) HO498.out hg hat); replace HB := am (hb); have HO501 := am (ho); clear HO_13 ho hb hg hat))
        go_ret3
        exact ⟨_, rfl, by exact Kd.R_mono HO501.out (fun _ hk => trivial), HB.out⟩
       ·rw [if_neg c42] at H
        exact absurd H (by simp)

def spec_AreValidRows.l0 : Nat → List (S60) → Int → Option (Bool)
 | 0, _, _ => none
 | k + 1, x0, x3 => if x3 < (x0.length : Int) then (if 0 ≤ x3 then ((spec_IsValidRow.f ((rd_T60 x0 x3).f0) ((rd_T60 x0 x3).f1) ((rd_T60 x0 x3).f2)).bind fun t503 => (if t503 = true then (spec_AreValidRows.l0 k x0 (wrap64 (x3 + 1))) else (some false))) else (none)) else (some (decide ((x0.length : Int) ≤ 24)))
def spec_AreValidRows.f (k : Nat) (l0 : List (S60)) : Option (Bool) := spec_AreValidRows.l0 k l0 0
theorem spec_AreValidRows.calls (k : Nat) (A0 : Option Addr) (c0 : Nat) (l0 : List (S60)) (r : Bool) (w : World) (hr0 : Kd.C k60 w A0 l0.length l0) (hc0 : l0.length ≤ c0) (h : spec_AreValidRows.f k l0 = some r) :
  Calls Try.prog 46 #[.slice A0 l0.length c0] w fun e w' => e = .returned (.bool r) ∧ Below w.heap.size w w' := by
 have hu60 := Try.underlying60
 have HR0 := am hr0
 have HC0 := am hc0
 clear hr0 hc0
 have HB := am (Below.refl w.heap.size w)
 have H : (spec_AreValidRows.l0 k l0 0) = some r := h
 clear h
 have H' := am H
 clear H
 go_enter Try.func46, Try.ntmps46
 go_wp2
 go_loopg [3] k (fun kq v3 w' => ∃ (x3_1 : Int), v3 = .int .i64 x3_1 ∧ Aside0 (spec_AreValidRows.l0 kq l0 x3_1 = some r) ∧ Aside0 (kq ≤ k) ∧ Aside0 (Below w.heap.size w w'))
 case atStart => exact ⟨(0), rfl, H', ⟨Nat.le_refl _⟩, ⟨HB.out⟩⟩
 case round =>
  clear H'
  obtain ⟨x3_1, rfl, HA, HK1, HB⟩ := hrel
  cases gk with
  | zero => exact absurd HA.out (by simp [spec_AreValidRows.l0])
  | succ k1 =>
   have H := HA.out
   clear HA
   simp only [spec_AreValidRows.l0] at H
   by_cases c2 : x3_1 < (l0.length : Int)
   ·rw [if_pos c2] at H
    have c2b0 : decide (x3_1 < (l0.length : Int)) = true := decide_eq_true c2
    clear c2
    by_cases c3 : 0 ≤ x3_1
    ·rw [if_pos c3] at H
     have c3b0 : decide (0 ≤ x3_1) = true := decide_eq_true c3
     clear c3
     replace H := Option.bind_eq_some_iff.mp H
     obtain ⟨t503, A40, H⟩ := H
     have A4 := am A40
     clear A40
     by_cases c5 : t503 = true
     ·subst c5
      rw [if_pos rfl] at H
      have H' := am H
      clear H
      have p502 : 0 ≤ (x3_1 : Int) := of_decide_eq_true (by (with_reducible assumption))
      have q502 : x3_1 < (l0.length : Int) := of_decide_eq_true (by (with_reducible assumption))
      obtain ⟨ad502, e502, hx502_0, hx502_1, hx502_2⟩ := at_T60 HR0.out x3_1 p502 q502
      cases e502
      replace hx502_0 := bc_ HB.out hx502_0
      replace hx502_1 := bc_ HB.out hx502_1
      replace hx502_2 := bc_ HB.out hx502_2
      replace p502 := eq_true p502
      replace q502 := eq_true q502
      go_wp2_with (((with_reducible refine gate_callee (f := 147) rfl ?_); refine goesL_ (some 14) rfl rfl Try.func147 (by kernel_rfl) rfl #[.agg #[.int .i64 ((rd_T60 l0 x3_1).f0), .int .i64 ((rd_T60 l0 x3_1).f1), .int .i64 ((rd_T60 l0 x3_1).f2)]] rfl (by (try simp only [List.map_toArray, List.map_cons, List.map_nil]); rfl) ?_; (with_reducible refine (spec_IsValidRow.calls ((rd_T60 l0 x3_1).f0) ((rd_T60 l0 x3_1).f1) ((rd_T60 l0 x3_1).f2) true _ A4.out).mono ?_); rintro e w6 ⟨rfl, hb⟩; refine ⟨_, rfl, ?_⟩; replace HB := am (below_step HB.out hb); (try clear hb)))
      go_roundg k1
      case measure => have := HK1.out; omega
      case rel => exact ⟨(wrap64 (x3_1 + 1)), rfl, H', ⟨by have := HK1.out; omega⟩, ⟨HB.out⟩⟩
     ·replace c5 := Bool.eq_false_iff.mpr c5
      subst c5
      rw [if_neg (show ¬ (false = true) by decide)] at H
      obtain rfl := Option.some.inj H
      have p502 : 0 ≤ (x3_1 : Int) := of_decide_eq_true (by (with_reducible assumption))
      have q502 : x3_1 < (l0.length : Int) := of_decide_eq_true (by (with_reducible assumption))
      obtain ⟨ad502, e502, hx502_0, hx502_1, hx502_2⟩ := at_T60 HR0.out x3_1 p502 q502
      cases e502
      replace hx502_0 := bc_ HB.out hx502_0
      replace hx502_1 := bc_ HB.out hx502_1
      replace hx502_2 := bc_ HB.out hx502_2
      replace p502 := eq_true p502
      replace q502 := eq_true q502
      go_wp2_with (((with_reducible refine gate_callee (f := 147) rfl ?_); refine goesL_ (some 14) rfl rfl Try.func147 (by kernel_rfl) rfl #[.agg #[.int .i64 ((rd_T60 l0 x3_1).f0), .int .i64 ((rd_T60 l0 x3_1).f1), .int .i64 ((rd_T60 l0 x3_1).f2)]] rfl (by (try simp only [List.map_toArray, List.map_cons, List.map_nil]); rfl) ?_; (with_reducible refine (spec_IsValidRow.calls ((rd_T60 l0 x3_1).f0) ((rd_T60 l0 x3_1).f1) ((rd_T60 l0 x3_1).f2) false _ A4.out).mono ?_); rintro e w7 ⟨rfl, hb⟩; refine ⟨_, rfl, ?_⟩; replace HB := am (below_step HB.out hb); (try clear hb)))
      go_ret
      exact ⟨rfl, HB.out⟩
    ·rw [if_neg c3] at H
     exact absurd H (by simp)
   ·rw [if_neg c2] at H
    have c2b0 : decide (x3_1 < (l0.length : Int)) = false := decide_eq_false c2
    clear c2
    obtain rfl := Option.some.inj H
    go_wp2
    go_ret
    exact ⟨rfl, HB.out⟩

end Go.Proofs.Ytobndcjmjhehjaa.P
