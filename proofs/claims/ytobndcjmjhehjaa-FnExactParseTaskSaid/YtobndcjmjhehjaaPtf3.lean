/- For every string the law FnExactParseTask of the given program returns true and leaves its argument as it was; no condition. -/
import Derived.Test.YtobndcjmjhehjaaPtf2
namespace Go.Proofs.Ytobndcjmjhehjaa.P
open Go.RowKit Go.Proofs.YtobndcjmjhehjaaW.PrintWords Go.Proofs.YtobndcjmjhehjaaW.PrintLast Go.Proofs.YtobndcjmjhehjaaW.PrintMore
attribute [local go_sem] max2_int min2_int max_two min_two max_three min_three max_four min_four   -- for this text's walks alone
set_option linter.unusedVariables false
set_option linter.unusedSimpArgs false

/-! ### laws_markTask: function 43 -/
def laws_markTask.f (k : Nat) (a0_0 : Int) (l0_1 : List (S60)) (l0_2 : List (S60)) (l0_3 : List Bool) (a0_4 : Int) (a1 : Int) : Option (Int × (List (S60)) × (List (S60)) × List Bool) := (laws_markRowS.f k l0_1 a1).bind fun bt1329 => ((laws_markRowS.f k l0_2 bt1329.1).bind fun bt1331 => ((laws_markBoolS.f k l0_3 bt1331.1).bind fun bt1333 => (some (bt1333.1, bt1329.2, bt1331.2, bt1333.2))))
theorem laws_markTask.mono : ∀ a0 a1 a2 a3 a4 a5 k, LeO (laws_markTask.f k a0 a1 a2 a3 a4 a5) (laws_markTask.f (k + 1) a0 a1 a2 a3 a4 a5) := by
 intro a0 a1 a2 a3 a4 a5 k
 unfold laws_markTask.f
 repeat' first
   | (with_reducible exact laws_markBoolS.mono _ _ _)
   | (with_reducible exact laws_markRowS.mono _ _ _)
   | (with_reducible exact LeO.refl _)
   | (with_reducible refine LeO.bind ?_ (fun _ => ?_))
   | refine LeO.bind ?_ (fun _ => ?_)
set_option maxHeartbeats 8000000 in
set_option maxRecDepth 100000 in
theorem laws_markTask.calls (k : Nat) (a0_0 : Int) (P0_1_ : Nat → Prop) (u9000_ : Value) (l0_1 : List (S60)) (P0_2_ : Nat → Prop) (u9001_ : Value) (l0_2 : List (S60)) (P0_3_ : Nat → Prop) (u9002_ : Value) (l0_3 : List Bool) (a0_4 : Int) (a1 : Int) (r1 : Int) (r2 : List (S60)) (r3 : List (S60)) (r4 : List Bool) (w0 w : World) (hB : Below w0.heap.size w0 w) (ho0_1 : Kd.R k60 60 w w0.heap.size P0_1_ u9000_ l0_1) (hp0_1_0_2 : ∀ k_, P0_1_ k_ → ¬ P0_2_ k_) (ho0_2 : Kd.R k60 60 w w0.heap.size P0_2_ u9001_ l0_2) (hp0_2_0_1 : ∀ k_, P0_2_ k_ → ¬ P0_1_ k_) (ho0_3 : Kd.R Kd.bool 4 w w0.heap.size P0_3_ u9002_ l0_3) (h : laws_markTask.f k a0_0 l0_1 l0_2 l0_3 a0_4 a1 = some (r1, r2, r3, r4)) :
  Calls Try.prog 43 #[.agg #[.int .i64 a0_0, u9000_, u9001_, u9002_, .int .i64 a0_4], .int .i64 a1] w fun e w' => e = .returned (.int .i64 r1) ∧ Kd.R k60 60 w' w0.heap.size (fun k_ => ((P0_1_ k_ ∨ P0_2_ k_ ∨ P0_3_ k_) ∨ w.heap.size ≤ k_)) u9000_ r2 ∧ Kd.R k60 60 w' w0.heap.size (fun k_ => ((P0_1_ k_ ∨ P0_2_ k_ ∨ P0_3_ k_) ∨ w.heap.size ≤ k_)) u9001_ r3 ∧ Kd.R Kd.bool 4 w' w0.heap.size (fun k_ => ((P0_1_ k_ ∨ P0_2_ k_ ∨ P0_3_ k_) ∨ w.heap.size ≤ k_)) u9002_ r4 ∧ Below w0.heap.size w0 w' ∧ Kept w w' (fun k_ => P0_1_ k_ ∨ P0_2_ k_ ∨ P0_3_ k_) := by
 have hu40 := Try.underlying40
 have HO0_1 := Aside0.mk (show Kd.R k60 60 w w0.heap.size (fun k_ => ((P0_1_ k_ ∨ P0_2_ k_ ∨ P0_3_ k_) ∨ w.heap.size ≤ k_) ∧ some k_ ≠ (u9001_ : Value).ownBlock) u9000_ l0_1 from Kd.R_mono ho0_1 (fun k_ hk => ⟨(.inl (.inl hk)), fun e_ => hp0_1_0_2 k_ hk (ho0_2.1 k_ e_.symm)⟩))
 have HO0_2 := Aside0.mk (show Kd.R k60 60 w w0.heap.size (fun k_ => ((P0_1_ k_ ∨ P0_2_ k_ ∨ P0_3_ k_) ∨ w.heap.size ≤ k_) ∧ some k_ ≠ (u9000_ : Value).ownBlock) u9001_ l0_2 from Kd.R_mono ho0_2 (fun k_ hk => ⟨(.inl (.inr (.inl hk))), fun e_ => hp0_2_0_1 k_ hk (ho0_1.1 k_ e_.symm)⟩))
 have HO0_3 := Aside0.mk (show Kd.R Kd.bool 4 w w0.heap.size (fun k_ => ((P0_1_ k_ ∨ P0_2_ k_ ∨ P0_3_ k_) ∨ w.heap.size ≤ k_)) u9002_ l0_3 from Kd.R_mono ho0_3 (fun k_ hk => (.inl (.inr (.inr hk)))))
 have HK := Aside0.mk (Kept.refl w (fun k_ => P0_1_ k_ ∨ P0_2_ k_ ∨ P0_3_ k_))
 have HW0 := Aside0.mk hB.size
 have HB := Aside0.mk hB
 clear hB
 have H : ((laws_markRowS.f k l0_1 a1).bind fun bt1329 => ((laws_markRowS.f k l0_2 bt1329.1).bind fun bt1331 => ((laws_markBoolS.f k l0_3 bt1331.1).bind fun bt1333 => (some (bt1333.1, bt1329.2, bt1331.2, bt1333.2))))) = some (r1, r2, r3, r4) := h
 clear h
 replace H := Option.bind_eq_some_iff.mp H
 obtain ⟨⟨t1329, t1330⟩, A30, H⟩ := H
 have A3 := Aside0.mk A30
 clear A30
 replace H := Option.bind_eq_some_iff.mp H
 obtain ⟨⟨t1331, t1332⟩, A40, H⟩ := H
 have A4 := Aside0.mk A40
 clear A40
 replace H := Option.bind_eq_some_iff.mp H
 obtain ⟨⟨t1333, t1334⟩, A50, H⟩ := H
 have A5 := Aside0.mk A50
 clear A50
 simp only [Option.some.injEq, Prod.mk.injEq] at H
 obtain ⟨rfl, rfl, rfl, rfl⟩ := H
 obtain ⟨Ao6, co6, eo6⟩ := Kd.R_slice HO0_1.out
 subst eo6
 obtain ⟨Ao7, co7, eo7⟩ := Kd.R_slice HO0_2.out
 subst eo7
 obtain ⟨Ao8, co8, eo8⟩ := Kd.R_slice HO0_3.out
 subst eo8
 go_enter Try.func43, Try.ntmps43
 go_wp2_with (first | ((with_reducible refine gate_dst (N := 2) rfl ?_); refine box_event ?hg (N := 2) ?hd (cs := #[.int .i64 a0_0, .slice Ao6 l0_1.length co6, .slice Ao7 l0_2.length co7, .slice Ao8 l0_3.length co8, .int .i64 a0_4]) (t := 40) ?hr ?_; (case hd => rfl); (case hg => rfl); (case hr => (go_simp; done)); intro gb1328 hg w9 hbox hb; have n0_ := Aside0.mk (Kd.R_below HO0_1.out hb); have n1_ := Aside0.mk (Kd.R_below HO0_2.out hb); have n2_ := Aside0.mk (Kd.R_below HO0_3.out hb); have n3_ := Aside0.mk (Kept.below (S := (fun k_ => P0_1_ k_ ∨ P0_2_ k_ ∨ P0_3_ k_)) HK.out hb); have n4_ := Aside0.mk (below_step HB.out hb); have n5_ := Aside0.mk (hbox); have n6_ := Aside0.mk ((by rw [hg]; exact (HK.out.1) : w.heap.size ≤ gb1328)); have n7_ := Aside0.mk ((by rw [hg]; exact (below_size HB.out) : w0.heap.size ≤ gb1328)); clear HO0_1; clear HO0_2; clear HO0_3; clear HK; clear HB; have HO0_1 := n0_; have HO0_2 := n1_; have HO0_3 := n2_; have HK := n3_; have HB := n4_; have BK1328 := n5_; have GW1328 := n6_; have GE1328 := n7_; clear n0_ n1_ n2_ n3_ n4_ n5_ n6_ n7_; clear hb hbox hg; have hcz10_0 : w9.cell? ⟨gb1328, 0, none⟩ = some (.int .i64 a0_0) := (blk_cell BK1328.out 0).trans rfl; have hcz10_1 : w9.cell? ⟨gb1328, 1, none⟩ = some (.slice Ao6 l0_1.length co6) := (blk_cell BK1328.out 1).trans rfl; have hcz10_2 : w9.cell? ⟨gb1328, 2, none⟩ = some (.slice Ao7 l0_2.length co7) := (blk_cell BK1328.out 2).trans rfl; have hcz10_3 : w9.cell? ⟨gb1328, 3, none⟩ = some (.slice Ao8 l0_3.length co8) := (blk_cell BK1328.out 3).trans rfl; have hcz10_4 : w9.cell? ⟨gb1328, 4, none⟩ = some (.int .i64 a0_4) := (blk_cell BK1328.out 4).trans rfl; have hfz10_0 := blk_frozen BK1328.out 0; have hfz10_1 := blk_frozen BK1328.out 1; have hfz10_2 := blk_frozen BK1328.out 2; have hfz10_3 := blk_frozen BK1328.out 3; have hfz10_4 := blk_frozen BK1328.out 4) | ((with_reducible refine gate_callee (f := 92) rfl ?_); refine goesL_ (some 8) rfl rfl Try.func92 (by kernel_rfl) rfl #[.slice Ao6 l0_1.length co6, .int .i64 a1] rfl (by (try simp only [List.map_toArray, List.map_cons, List.map_nil]); rfl) ?_; (with_reducible refine (laws_markRowS.calls k (fun k_ => some k_ = (.slice Ao6 l0_1.length co6 : Value).ownBlock) (.slice Ao6 l0_1.length co6) l0_1 a1 t1329 t1330 w0 _ ?side1 ?side2 A3.out).mono ?_); (case side1 => repeat (with_reducible exact HB.out)); (case side2 => exact Kd.R_tight rfl HO0_1.out); rintro e w11 ⟨rfl, hy0, hb, hkp⟩; refine ⟨_, rfl, ?_⟩; have n0_ := Aside0.mk (Kd.R_reok rfl hy0 (fun k_ e_ => HO0_1.out.1 k_ e_)); have n1_ := Aside0.mk (Kd.R_mono (ok' := fun k_ => ((P0_1_ k_ ∨ P0_2_ k_ ∨ P0_3_ k_) ∨ w.heap.size ≤ k_) ∧ some k_ ≠ (.slice Ao6 l0_1.length co6 : Value).ownBlock) (Kd.R_keptB HO0_2.out hkp (fun k_ hk_ hs_ => (hk_.2) hs_)) (fun k_ hk_ => ⟨hk_.1.1, hk_.1.2⟩)); have n2_ := Aside0.mk (Kd.R_mono (ok' := fun k_ => ((P0_1_ k_ ∨ P0_2_ k_ ∨ P0_3_ k_) ∨ w.heap.size ≤ k_)) (Kd.R_keptB ((Kd.R_apart' HO0_3.out (Kd.R_typed HO0_1.out) (by decide))) hkp (fun k_ hk_ hs_ => (hk_.2) hs_)) (fun k_ hk_ => hk_.1.1)); have n3_ := Aside0.mk (blk_kept BK1328.out hkp (fun hs_ => (fun e_ => (Kd.R_ne HO0_1.out BK1328.out (by decide)) e_) hs_)); have n4_ := Aside0.mk (Kept.then_ (S := (fun k_ => P0_1_ k_ ∨ P0_2_ k_ ∨ P0_3_ k_)) HK.out hkp (fun k_ hs_ => (fun e_ => (HO0_1.out.1 k_ e_.symm).1) hs_)); have n5_ := Aside0.mk (hb); clear HO0_1; clear HO0_2; clear HO0_3; clear BK1328; clear HK; clear HB; have HO0_1 := n0_; have HO0_2 := n1_; have HO0_3 := n2_; have BK1328 := n3_; have HK := n4_; have HB := n5_; clear n0_ n1_ n2_ n3_ n4_ n5_; (try clear hb); (try clear hkp); (try clear hy0); have hcz12_0 : w11.cell? ⟨gb1328, 0, none⟩ = some (.int .i64 a0_0) := (blk_cell BK1328.out 0).trans rfl; have hcz12_1 : w11.cell? ⟨gb1328, 1, none⟩ = some (.slice Ao6 l0_1.length co6) := (blk_cell BK1328.out 1).trans rfl; have hcz12_2 : w11.cell? ⟨gb1328, 2, none⟩ = some (.slice Ao7 l0_2.length co7) := (blk_cell BK1328.out 2).trans rfl; have hcz12_3 : w11.cell? ⟨gb1328, 3, none⟩ = some (.slice Ao8 l0_3.length co8) := (blk_cell BK1328.out 3).trans rfl; have hcz12_4 : w11.cell? ⟨gb1328, 4, none⟩ = some (.int .i64 a0_4) := (blk_cell BK1328.out 4).trans rfl; have hfz12_0 := blk_frozen BK1328.out 0; have hfz12_1 := blk_frozen BK1328.out 1; have hfz12_2 := blk_frozen BK1328.out 2; have hfz12_3 := blk_frozen BK1328.out 3; have hfz12_4 := blk_frozen BK1328.out 4) | ((with_reducible refine gate_callee (f := 92) rfl ?_); refine goesL_ (some 12) rfl rfl Try.func92 (by kernel_rfl) rfl #[.slice Ao7 l0_2.length co7, .int .i64 t1329] rfl (by (try simp only [List.map_toArray, List.map_cons, List.map_nil]); rfl) ?_; (with_reducible refine (laws_markRowS.calls k (fun k_ => some k_ = (.slice Ao7 l0_2.length co7 : Value).ownBlock) (.slice Ao7 l0_2.length co7) l0_2 t1329 t1331 t1332 w0 _ ?side1 ?side2 A4.out).mono ?_); (case side1 => repeat (with_reducible exact HB.out)); (case side2 => exact Kd.R_tight rfl HO0_2.out); rintro e w13 ⟨rfl, hy0, hb, hkp⟩; refine ⟨_, rfl, ?_⟩; have n0_ := Aside0.mk (Kd.R_mono (ok' := fun k_ => ((P0_1_ k_ ∨ P0_2_ k_ ∨ P0_3_ k_) ∨ w.heap.size ≤ k_) ∧ some k_ ≠ (.slice Ao7 l0_2.length co7 : Value).ownBlock) (Kd.R_keptB HO0_1.out hkp (fun k_ hk_ hs_ => (hk_.2) hs_)) (fun k_ hk_ => ⟨hk_.1.1, hk_.1.2⟩)); have n1_ := Aside0.mk (Kd.R_reok rfl hy0 (fun k_ e_ => HO0_2.out.1 k_ e_)); have n2_ := Aside0.mk (Kd.R_mono (ok' := fun k_ => ((P0_1_ k_ ∨ P0_2_ k_ ∨ P0_3_ k_) ∨ w.heap.size ≤ k_)) (Kd.R_keptB ((Kd.R_apart' HO0_3.out (Kd.R_typed HO0_2.out) (by decide))) hkp (fun k_ hk_ hs_ => (hk_.2) hs_)) (fun k_ hk_ => hk_.1.1)); have n3_ := Aside0.mk (blk_kept BK1328.out hkp (fun hs_ => (fun e_ => (Kd.R_ne HO0_2.out BK1328.out (by decide)) e_) hs_)); have n4_ := Aside0.mk (Kept.then_ (S := (fun k_ => P0_1_ k_ ∨ P0_2_ k_ ∨ P0_3_ k_)) HK.out hkp (fun k_ hs_ => (fun e_ => (HO0_2.out.1 k_ e_.symm).1) hs_)); have n5_ := Aside0.mk (hb); clear HO0_1; clear HO0_2; clear HO0_3; clear BK1328; clear HK; clear HB; have HO0_1 := n0_; have HO0_2 := n1_; have HO0_3 := n2_; have BK1328 := n3_; have HK := n4_; have HB := n5_; clear n0_ n1_ n2_ n3_ n4_ n5_; (try clear hb); (try clear hkp); (try clear hy0); have hcz14_0 : w13.cell? ⟨gb1328, 0, none⟩ = some (.int .i64 a0_0) := (blk_cell BK1328.out 0).trans rfl; have hcz14_1 : w13.cell? ⟨gb1328, 1, none⟩ = some (.slice Ao6 l0_1.length co6) := (blk_cell BK1328.out 1).trans rfl; have hcz14_2 : w13.cell? ⟨gb1328, 2, none⟩ = some (.slice Ao7 l0_2.length co7) := (blk_cell BK1328.out 2).trans rfl; have hcz14_3 : w13.cell? ⟨gb1328, 3, none⟩ = some (.slice Ao8 l0_3.length co8) := (blk_cell BK1328.out 3).trans rfl; have hcz14_4 : w13.cell? ⟨gb1328, 4, none⟩ = some (.int .i64 a0_4) := (blk_cell BK1328.out 4).trans rfl; have hfz14_0 := blk_frozen BK1328.out 0; have hfz14_1 := blk_frozen BK1328.out 1; have hfz14_2 := blk_frozen BK1328.out 2; have hfz14_3 := blk_frozen BK1328.out 3; have hfz14_4 := blk_frozen BK1328.out 4) | ((with_reducible refine gate_callee (f := 143) rfl ?_); refine goesL_ (some 16) rfl rfl Try.func143 (by kernel_rfl) rfl #[.slice Ao8 l0_3.length co8, .int .i64 t1331] rfl (by (try simp only [List.map_toArray, List.map_cons, List.map_nil]); rfl) ?_; (with_reducible refine (laws_markBoolS.calls k (fun k_ => some k_ = (.slice Ao8 l0_3.length co8 : Value).ownBlock) (.slice Ao8 l0_3.length co8) l0_3 t1331 t1333 t1334 w0 _ ?side1 ?side2 A5.out).mono ?_); (case side1 => repeat (with_reducible exact HB.out)); (case side2 => exact Kd.R_tight rfl HO0_3.out); rintro e w15 ⟨rfl, hy0, hb, hkp⟩; refine ⟨_, rfl, ?_⟩; have n0_ := Aside0.mk (Kd.R_mono (ok' := fun k_ => ((P0_1_ k_ ∨ P0_2_ k_ ∨ P0_3_ k_) ∨ w.heap.size ≤ k_) ∧ some k_ ≠ (.slice Ao7 l0_2.length co7 : Value).ownBlock) (Kd.R_keptB ((Kd.R_apart' HO0_1.out (Kd.R_typed HO0_3.out) (by decide))) hkp (fun k_ hk_ hs_ => (hk_.2) hs_)) (fun k_ hk_ => ⟨hk_.1.1.1, hk_.1.1.2⟩)); have n1_ := Aside0.mk (Kd.R_mono (ok' := fun k_ => ((P0_1_ k_ ∨ P0_2_ k_ ∨ P0_3_ k_) ∨ w.heap.size ≤ k_) ∧ some k_ ≠ (.slice Ao6 l0_1.length co6 : Value).ownBlock) (Kd.R_keptB ((Kd.R_apart' HO0_2.out (Kd.R_typed HO0_3.out) (by decide))) hkp (fun k_ hk_ hs_ => (hk_.2) hs_)) (fun k_ hk_ => ⟨hk_.1.1.1, hk_.1.1.2⟩)); have n2_ := Aside0.mk (Kd.R_reok rfl hy0 (fun k_ e_ => HO0_3.out.1 k_ e_)); have n3_ := Aside0.mk (blk_kept BK1328.out hkp (fun hs_ => (fun e_ => (Kd.R_ne HO0_3.out BK1328.out (by decide)) e_) hs_)); have n4_ := Aside0.mk (Kept.then_ (S := (fun k_ => P0_1_ k_ ∨ P0_2_ k_ ∨ P0_3_ k_)) HK.out hkp (fun k_ hs_ => (fun e_ => (HO0_3.out.1 k_ e_.symm)) hs_)); have n5_ := Aside0.mk (hb); clear HO0_1; clear HO0_2; clear HO0_3; clear BK1328; clear HK; clear HB; have HO0_1 := n0_; have HO0_2 := n1_; have HO0_3 := n2_; have BK1328 := n3_; have HK := n4_; have HB := n5_; clear n0_ n1_ n2_ n3_ n4_ n5_; (try clear hb); (try clear hkp); (try clear hy0)))
 go_ret
 exact ⟨rfl, by exact Kd.R_mono HO0_1.out (fun _ hk => hk.1), by exact Kd.R_mono HO0_2.out (fun _ hk => hk.1), HO0_3.out, HB.out, HK.out⟩

end Go.Proofs.Ytobndcjmjhehjaa.P
namespace Go.Proofs.Ytobndcjmjhehjaa.P
open Go.RowKit Go.Proofs.YtobndcjmjhehjaaW.PrintWords Go.Proofs.YtobndcjmjhehjaaW.PrintLast Go.Proofs.YtobndcjmjhehjaaW.PrintMore
attribute [local go_sem] max2_int min2_int max_two min_two max_three min_three max_four min_four   -- for this text's walks alone
set_option linter.unusedVariables false
set_option linter.unusedSimpArgs false

/-! ### laws_heldRowS: function 144 -/
def laws_heldRowS.l0 : Nat → List (S60) → Int → Int → Option (Int)
 | 0, _, _, _ => none
 | k + 1, x0, x1, x5 => if x5 < (x0.length : Int) then (if 0 ≤ x5 then (if ((rd_T60 x0 x5).f0) = x1 then (if ((rd_T60 x0 x5).f1) = (wrap64 (x1 + 1)) then (if ((rd_T60 x0 x5).f2) = (wrap64 ((wrap64 (x1 + 1)) + 1)) then (laws_heldRowS.l0 k x0 (wrap64 ((wrap64 ((wrap64 (x1 + 1)) + 1)) + 1)) (wrap64 (x5 + 1))) else (some (-1))) else (some (-1))) else (some (-1))) else (none)) else (some x1)
def laws_heldRowS.f (k : Nat) (l0 : List (S60)) (a1 : Int) : Option (Int) := laws_heldRowS.l0 k l0 a1 0
theorem laws_heldRowS.mono_l : ∀ k, (∀ y0 y1 y2, LeO (laws_heldRowS.l0 k y0 y1 y2) (laws_heldRowS.l0 (k + 1) y0 y1 y2))
 | 0 => fun _ _ _ r h => by simp [laws_heldRowS.l0] at h
 | k + 1 => by
  have ih0 := laws_heldRowS.mono_l k
  ·intro y0 y1 y2
   unfold laws_heldRowS.l0
   repeat' first
   | (with_reducible exact ih0 _ _ _)
   | (with_reducible exact LeO.refl _)
   | (with_reducible refine LeO.ite ?_ ?_)
theorem laws_heldRowS.mono : ∀ a0 a1 k, LeO (laws_heldRowS.f k a0 a1) (laws_heldRowS.f (k + 1) a0 a1) := by
 intro a0 a1 k
 have ih0 := laws_heldRowS.mono_l k
 unfold laws_heldRowS.f
 repeat' (with_reducible exact ih0 _ _ _)

set_option maxHeartbeats 8000000 in
set_option maxRecDepth 100000 in
theorem laws_heldRowS.calls (k : Nat) (A0 : Option Addr) (c0 : Nat) (l0 : List (S60)) (a1 : Int) (r : Int) (w : World) (hr0 : Kd.C k60 w A0 l0.length l0) (hc0 : l0.length ≤ c0) (h : laws_heldRowS.f k l0 a1 = some r) :
  Calls Try.prog 144 #[.slice A0 l0.length c0, .int .i64 a1] w fun e w' => e = .returned (.int .i64 r) ∧ Drawn0 w w' := by
 have HR0 := Aside0.mk hr0
 have HC0 := Aside0.mk hc0
 clear hr0 hc0
 have H : (laws_heldRowS.l0 k l0 a1 0) = some r := h
 clear h
 have H' := Aside0.mk H
 clear H
 go_enter Try.func144, Try.ntmps144
 go_wp2
 go_loopg [1, 5] k (fun kq v1 v5 w' => ∃ (x1_1 : Int) (x5_1 : Int), v1 = .int .i64 x1_1 ∧ v5 = .int .i64 x5_1 ∧ Aside0 (laws_heldRowS.l0 kq l0 x1_1 x5_1 = some r) ∧ Aside0 (kq ≤ k) ∧ Drawn0 w w')
 case atStart => exact ⟨(a1), (0), rfl, rfl, H', ⟨Nat.le_refl _⟩, by repeat (exact Drawn0.refl _)⟩
 case round =>
  clear H'
  obtain ⟨x1_1, x5_1, rfl, rfl, HA, HK1, ⟨m1, rfl⟩⟩ := hrel
  cases gk with
  | zero => exact absurd HA.out (by simp [laws_heldRowS.l0])
  | succ k1 =>
   have H := HA.out
   clear HA
   simp only [laws_heldRowS.l0] at H
   by_cases c3 : x5_1 < (l0.length : Int)
   ·rw [if_pos c3] at H
    have c3b0 : decide (x5_1 < (l0.length : Int)) = true := decide_eq_true c3
    clear c3
    by_cases c4 : 0 ≤ x5_1
    ·rw [if_pos c4] at H
     have c4b0 : decide (0 ≤ x5_1) = true := decide_eq_true c4
     clear c4
     by_cases c5 : ((rd_T60 l0 x5_1).f0) = x1_1
     ·rw [if_pos c5] at H
      have c5b0 : (((rd_T60 l0 x5_1).f0) == x1_1) = true := beq_iff_eq.mpr c5
      have c5b1 : (((rd_T60 l0 x5_1).f0) != x1_1) = false := bne_eq_false_iff_eq.mpr c5
      clear c5
      by_cases c6 : ((rd_T60 l0 x5_1).f1) = (wrap64 (x1_1 + 1))
      ·rw [if_pos c6] at H
       have c6b0 : (((rd_T60 l0 x5_1).f1) == (wrap64 (x1_1 + 1))) = true := beq_iff_eq.mpr c6
       have c6b1 : (((rd_T60 l0 x5_1).f1) != (wrap64 (x1_1 + 1))) = false := bne_eq_false_iff_eq.mpr c6
       clear c6
       by_cases c7 : ((rd_T60 l0 x5_1).f2) = (wrap64 ((wrap64 (x1_1 + 1)) + 1))
       ·rw [if_pos c7] at H
        have c7b0 : (((rd_T60 l0 x5_1).f2) == (wrap64 ((wrap64 (x1_1 + 1)) + 1))) = true := beq_iff_eq.mpr c7
        have c7b1 : (((rd_T60 l0 x5_1).f2) != (wrap64 ((wrap64 (x1_1 + 1)) + 1))) = false := bne_eq_false_iff_eq.mpr c7
        clear c7
        have H' := Aside0.mk H
        clear H
        have p1335 : 0 ≤ (x5_1 : Int) := of_decide_eq_true (by (with_reducible assumption))
        have q1335 : x5_1 < (l0.length : Int) := of_decide_eq_true (by (with_reducible assumption))
        obtain ⟨ad1335, e1335, hx1335_0, hx1335_1, hx1335_2⟩ := at_T60 HR0.out x5_1 p1335 q1335
        cases e1335
        replace p1335 := eq_true p1335
        replace q1335 := eq_true q1335
        have p1336 : 0 ≤ (x5_1 : Int) := of_decide_eq_true (by (with_reducible assumption))
        have q1336 : x5_1 < (l0.length : Int) := of_decide_eq_true (by (with_reducible assumption))
        obtain ⟨ad1336, e1336, hx1336_0, hx1336_1, hx1336_2⟩ := at_T60 HR0.out x5_1 p1336 q1336
        obtain rfl : ad1335 = ad1336 := (by injection e1336)
        replace p1336 := eq_true p1336
        replace q1336 := eq_true q1336
        have p1337 : 0 ≤ (x5_1 : Int) := of_decide_eq_true (by (with_reducible assumption))
        have q1337 : x5_1 < (l0.length : Int) := of_decide_eq_true (by (with_reducible assumption))
        obtain ⟨ad1337, e1337, hx1337_0, hx1337_1, hx1337_2⟩ := at_T60 HR0.out x5_1 p1337 q1337
        obtain rfl : ad1335 = ad1337 := (by injection e1337)
        replace p1337 := eq_true p1337
        replace q1337 := eq_true q1337
        go_wp2
        go_roundg k1
        case measure => have := HK1.out; omega
        case rel => exact ⟨(wrap64 ((wrap64 ((wrap64 (x1_1 + 1)) + 1)) + 1)), (wrap64 (x5_1 + 1)), rfl, rfl, H', ⟨by have := HK1.out; omega⟩, by repeat (first | exact Drawn0.refl _ | apply Drawn0.step)⟩
       ·rw [if_neg c7] at H
        have c7b0 : (((rd_T60 l0 x5_1).f2) == (wrap64 ((wrap64 (x1_1 + 1)) + 1))) = false := beq_eq_false_iff_ne.mpr c7
        have c7b1 : (((rd_T60 l0 x5_1).f2) != (wrap64 ((wrap64 (x1_1 + 1)) + 1))) = true := bne_iff_ne.mpr c7
        obtain rfl := Option.some.inj H
        have p1335 : 0 ≤ (x5_1 : Int) := of_decide_eq_true (by (with_reducible assumption))
        have q1335 : x5_1 < (l0.length : Int) := of_decide_eq_true (by (with_reducible assumption))
        obtain ⟨ad1335, e1335, hx1335_0, hx1335_1, hx1335_2⟩ := at_T60 HR0.out x5_1 p1335 q1335
        cases e1335
        replace p1335 := eq_true p1335
        replace q1335 := eq_true q1335
        have p1336 : 0 ≤ (x5_1 : Int) := of_decide_eq_true (by (with_reducible assumption))
        have q1336 : x5_1 < (l0.length : Int) := of_decide_eq_true (by (with_reducible assumption))
        obtain ⟨ad1336, e1336, hx1336_0, hx1336_1, hx1336_2⟩ := at_T60 HR0.out x5_1 p1336 q1336
        obtain rfl : ad1335 = ad1336 := (by injection e1336)
        replace p1336 := eq_true p1336
        replace q1336 := eq_true q1336
        have p1337 : 0 ≤ (x5_1 : Int) := of_decide_eq_true (by (with_reducible assumption))
        have q1337 : x5_1 < (l0.length : Int) := of_decide_eq_true (by (with_reducible assumption))
        obtain ⟨ad1337, e1337, hx1337_0, hx1337_1, hx1337_2⟩ := at_T60 HR0.out x5_1 p1337 q1337
        obtain rfl : ad1335 = ad1337 := (by injection e1337)
        replace p1337 := eq_true p1337
        replace q1337 := eq_true q1337
        go_wp2
        go_ret
        exact ⟨rfl, by repeat (first | exact Drawn0.refl _ | apply Drawn0.step)⟩
      ·rw [if_neg c6] at H
       have c6b0 : (((rd_T60 l0 x5_1).f1) == (wrap64 (x1_1 + 1))) = false := beq_eq_false_iff_ne.mpr c6
       have c6b1 : (((rd_T60 l0 x5_1).f1) != (wrap64 (x1_1 + 1))) = true := bne_iff_ne.mpr c6
       obtain rfl := Option.some.inj H
       have p1335 : 0 ≤ (x5_1 : Int) := of_decide_eq_true (by (with_reducible assumption))
       have q1335 : x5_1 < (l0.length : Int) := of_decide_eq_true (by (with_reducible assumption))
       obtain ⟨ad1335, e1335, hx1335_0, hx1335_1, hx1335_2⟩ := at_T60 HR0.out x5_1 p1335 q1335
       cases e1335
       replace p1335 := eq_true p1335
       replace q1335 := eq_true q1335
       have p1336 : 0 ≤ (x5_1 : Int) := of_decide_eq_true (by (with_reducible assumption))
       have q1336 : x5_1 < (l0.length : Int) := of_decide_eq_true (by (with_reducible assumption))
       obtain ⟨ad1336, e1336, hx1336_0, hx1336_1, hx1336_2⟩ := at_T60 HR0.out x5_1 p1336 q1336
       obtain rfl : ad1335 = ad1336 := (by injection e1336)
       replace p1336 := eq_true p1336
       replace q1336 := eq_true q1336
       go_wp2
       go_ret
       exact ⟨rfl, by repeat (first | exact Drawn0.refl _ | apply Drawn0.step)⟩
     ·rw [if_neg c5] at H
      have c5b0 : (((rd_T60 l0 x5_1).f0) == x1_1) = false := beq_eq_false_iff_ne.mpr c5
      have c5b1 : (((rd_T60 l0 x5_1).f0) != x1_1) = true := bne_iff_ne.mpr c5
      obtain rfl := Option.some.inj H
      have p1335 : 0 ≤ (x5_1 : Int) := of_decide_eq_true (by (with_reducible assumption))
      have q1335 : x5_1 < (l0.length : Int) := of_decide_eq_true (by (with_reducible assumption))
      obtain ⟨ad1335, e1335, hx1335_0, hx1335_1, hx1335_2⟩ := at_T60 HR0.out x5_1 p1335 q1335
      cases e1335
      replace p1335 := eq_true p1335
      replace q1335 := eq_true q1335
      go_wp2
      go_ret
      exact ⟨rfl, by repeat (first | exact Drawn0.refl _ | apply Drawn0.step)⟩
    ·rw [if_neg c4] at H
     exact absurd H (by simp)
   ·rw [if_neg c3] at H
    have c3b0 : decide (x5_1 < (l0.length : Int)) = false := decide_eq_false c3
    clear c3
    obtain rfl := Option.some.inj H
    go_wp2
    go_ret
    exact ⟨rfl, by repeat (first | exact Drawn0.refl _ | apply Drawn0.step)⟩

end Go.Proofs.Ytobndcjmjhehjaa.P
namespace Go.Proofs.Ytobndcjmjhehjaa.P
open Go.RowKit Go.Proofs.YtobndcjmjhehjaaW.PrintWords Go.Proofs.YtobndcjmjhehjaaW.PrintLast Go.Proofs.YtobndcjmjhehjaaW.PrintMore
attribute [local go_sem] max2_int min2_int max_two min_two max_three min_three max_four min_four   -- for this text's walks alone
set_option linter.unusedVariables false
set_option linter.unusedSimpArgs false

/-! ### laws_heldBoolS: function 145 -/
def laws_heldBoolS.l0 : Nat → List Bool → Int → Int → Option (Int)
 | 0, _, _, _ => none
 | k + 1, x0, x1, x5 => if x5 < (x0.length : Int) then (if 0 ≤ x5 then (if ((rdOf false x0 x5) != ((Int.tmod x1 3) == 0)) = true then (some (-1)) else (laws_heldBoolS.l0 k x0 (wrap64 (x1 + 1)) (wrap64 (x5 + 1)))) else (none)) else (some x1)
def laws_heldBoolS.f (k : Nat) (l0 : List Bool) (a1 : Int) : Option (Int) := laws_heldBoolS.l0 k l0 a1 0
theorem laws_heldBoolS.mono_l : ∀ k, (∀ y0 y1 y2, LeO (laws_heldBoolS.l0 k y0 y1 y2) (laws_heldBoolS.l0 (k + 1) y0 y1 y2))
 | 0 => fun _ _ _ r h => by simp [laws_heldBoolS.l0] at h
 | k + 1 => by
  have ih0 := laws_heldBoolS.mono_l k
  ·intro y0 y1 y2
   unfold laws_heldBoolS.l0
   repeat' first
   | (with_reducible exact ih0 _ _ _)
   | (with_reducible exact LeO.refl _)
   | (with_reducible refine LeO.ite ?_ ?_)
theorem laws_heldBoolS.mono : ∀ a0 a1 k, LeO (laws_heldBoolS.f k a0 a1) (laws_heldBoolS.f (k + 1) a0 a1) := by
 intro a0 a1 k
 have ih0 := laws_heldBoolS.mono_l k
 unfold laws_heldBoolS.f
 repeat' (with_reducible exact ih0 _ _ _)

set_option maxHeartbeats 8000000 in
set_option maxRecDepth 100000 in
theorem laws_heldBoolS.calls (k : Nat) (A0 : Option Addr) (c0 : Nat) (l0 : List Bool) (a1 : Int) (r : Int) (w : World) (hr0 : Kd.C Kd.bool w A0 l0.length l0) (hc0 : l0.length ≤ c0) (h : laws_heldBoolS.f k l0 a1 = some r) :
  Calls Try.prog 145 #[.slice A0 l0.length c0, .int .i64 a1] w fun e w' => e = .returned (.int .i64 r) ∧ Drawn0 w w' := by
 have HR0 := Aside0.mk hr0
 have HC0 := Aside0.mk hc0
 clear hr0 hc0
 have H : (laws_heldBoolS.l0 k l0 a1 0) = some r := h
 clear h
 have H' := Aside0.mk H
 clear H
 go_enter Try.func145, Try.ntmps145
 go_wp2
 go_loopg [1, 5] k (fun kq v1 v5 w' => ∃ (x1_1 : Int) (x5_1 : Int), v1 = .int .i64 x1_1 ∧ v5 = .int .i64 x5_1 ∧ Aside0 (laws_heldBoolS.l0 kq l0 x1_1 x5_1 = some r) ∧ Aside0 (kq ≤ k) ∧ Drawn0 w w')
 case atStart => exact ⟨(a1), (0), rfl, rfl, H', ⟨Nat.le_refl _⟩, by repeat (exact Drawn0.refl _)⟩
 case round =>
  clear H'
  obtain ⟨x1_1, x5_1, rfl, rfl, HA, HK1, ⟨m1, rfl⟩⟩ := hrel
  cases gk with
  | zero => exact absurd HA.out (by simp [laws_heldBoolS.l0])
  | succ k1 =>
   have H := HA.out
   clear HA
   simp only [laws_heldBoolS.l0] at H
   by_cases c3 : x5_1 < (l0.length : Int)
   ·rw [if_pos c3] at H
    have c3b0 : decide (x5_1 < (l0.length : Int)) = true := decide_eq_true c3
    clear c3
    by_cases c4 : 0 ≤ x5_1
    ·rw [if_pos c4] at H
     have c4b0 : decide (0 ≤ x5_1) = true := decide_eq_true c4
     clear c4
     by_cases c5 : ((rdOf false l0 x5_1) != ((Int.tmod x1_1 3) == 0)) = true
     ·rw [if_pos c5] at H
      have c5b0 : ((rdOf false l0 x5_1) != ((Int.tmod x1_1 3) == 0)) = true := c5
      (try (have c5b1 : decide ((rdOf false l0 x5_1) = ((Int.tmod x1_1 3) == 0)) = false := by simpa using c5))
      (try (have c5b2 : ((rdOf false l0 x5_1) == ((Int.tmod x1_1 3) == 0)) = false := by simpa using c5))
      (try (have c5b3 : ¬ ((rdOf false l0 x5_1) = ((Int.tmod x1_1 3) == 0)) := by simpa using c5))
      clear c5
      obtain rfl := Option.some.inj H
      have p1338 : 0 ≤ (x5_1 : Int) := of_decide_eq_true (by (with_reducible assumption))
      have q1338 : x5_1 < (l0.length : Int) := of_decide_eq_true (by (with_reducible assumption))
      obtain ⟨ad1338, e1338, hx1338_0⟩ := Kd.at_bool HR0.out x5_1 p1338 q1338
      cases e1338
      replace p1338 := eq_true p1338
      replace q1338 := eq_true q1338
      go_wp2
      go_ret
      exact ⟨rfl, by repeat (first | exact Drawn0.refl _ | apply Drawn0.step)⟩
     ·rw [if_neg c5] at H
      have c5b0 : ((rdOf false l0 x5_1) != ((Int.tmod x1_1 3) == 0)) = false := by simpa using c5
      (try (have c5b1 : decide ((rdOf false l0 x5_1) = ((Int.tmod x1_1 3) == 0)) = true := by simpa using c5))
      (try (have c5b2 : ((rdOf false l0 x5_1) == ((Int.tmod x1_1 3) == 0)) = true := by simpa using c5))
      clear c5
      have H' := Aside0.mk H
      clear H
      have p1338 : 0 ≤ (x5_1 : Int) := of_decide_eq_true (by (with_reducible assumption))
      have q1338 : x5_1 < (l0.length : Int) := of_decide_eq_true (by (with_reducible assumption))
      obtain ⟨ad1338, e1338, hx1338_0⟩ := Kd.at_bool HR0.out x5_1 p1338 q1338
      cases e1338
      replace p1338 := eq_true p1338
      replace q1338 := eq_true q1338
      go_wp2
      go_roundg k1
      case measure => have := HK1.out; omega
      case rel => exact ⟨(wrap64 (x1_1 + 1)), (wrap64 (x5_1 + 1)), rfl, rfl, H', ⟨by have := HK1.out; omega⟩, by repeat (first | exact Drawn0.refl _ | apply Drawn0.step)⟩
    ·rw [if_neg c4] at H
     exact absurd H (by simp)
   ·rw [if_neg c3] at H
    have c3b0 : decide (x5_1 < (l0.length : Int)) = false := decide_eq_false c3
    clear c3
    obtain rfl := Option.some.inj H
    go_wp2
    go_ret
    exact ⟨rfl, by repeat (first | exact Drawn0.refl _ | apply Drawn0.step)⟩

end Go.Proofs.Ytobndcjmjhehjaa.P
namespace Go.Proofs.Ytobndcjmjhehjaa.P
open Go.RowKit Go.Proofs.YtobndcjmjhehjaaW.PrintWords Go.Proofs.YtobndcjmjhehjaaW.PrintLast Go.Proofs.YtobndcjmjhehjaaW.PrintMore
attribute [local go_sem] max2_int min2_int max_two min_two max_three min_three max_four min_four   -- for this text's walks alone
set_option linter.unusedVariables false
set_option linter.unusedSimpArgs false

/-! ### laws_heldTask: function 44 -/
def laws_heldTask.f (k : Nat) (a0_0 : Int) (l0_1 : List (S60)) (l0_2 : List (S60)) (l0_3 : List Bool) (a0_4 : Int) (a1 : Int) : Option (Int) := (laws_heldRowS.f k l0_1 a1).bind fun t1340 => (if t1340 < 0 then (some (-1)) else ((laws_heldRowS.f k l0_2 t1340).bind fun t1341 => (if t1341 < 0 then (some (-1)) else ((laws_heldBoolS.f k l0_3 t1341).bind fun t1342 => (if t1342 < 0 then (some (-1)) else (some t1342))))))
theorem laws_heldTask.mono : ∀ a0 a1 a2 a3 a4 a5 k, LeO (laws_heldTask.f k a0 a1 a2 a3 a4 a5) (laws_heldTask.f (k + 1) a0 a1 a2 a3 a4 a5) := by
 intro a0 a1 a2 a3 a4 a5 k
 unfold laws_heldTask.f
 repeat' first
   | (with_reducible exact laws_heldBoolS.mono _ _ _)
   | (with_reducible exact laws_heldRowS.mono _ _ _)
   | (with_reducible exact LeO.refl _)
   | (with_reducible refine LeO.ite ?_ ?_)
   | (with_reducible refine LeO.bind ?_ (fun _ => ?_))
set_option maxHeartbeats 8000000 in
set_option maxRecDepth 100000 in
theorem laws_heldTask.calls (k : Nat) (a0_0 : Int) (A0_1 : Option Addr) (c0_1 : Nat) (l0_1 : List (S60)) (A0_2 : Option Addr) (c0_2 : Nat) (l0_2 : List (S60)) (A0_3 : Option Addr) (c0_3 : Nat) (l0_3 : List Bool) (a0_4 : Int) (a1 : Int) (r : Int) (w : World) (hr0_1 : Kd.C k60 w A0_1 l0_1.length l0_1) (hc0_1 : l0_1.length ≤ c0_1) (hr0_2 : Kd.C k60 w A0_2 l0_2.length l0_2) (hc0_2 : l0_2.length ≤ c0_2) (hr0_3 : Kd.C Kd.bool w A0_3 l0_3.length l0_3) (hc0_3 : l0_3.length ≤ c0_3) (h : laws_heldTask.f k a0_0 l0_1 l0_2 l0_3 a0_4 a1 = some r) :
  Calls Try.prog 44 #[.agg #[.int .i64 a0_0, .slice A0_1 l0_1.length c0_1, .slice A0_2 l0_2.length c0_2, .slice A0_3 l0_3.length c0_3, .int .i64 a0_4], .int .i64 a1] w fun e w' => e = .returned (.int .i64 r) ∧ Below w.heap.size w w' := by
 have hu40 := Try.underlying40
 have HR0_1 := Aside0.mk hr0_1
 have HC0_1 := Aside0.mk hc0_1
 clear hr0_1 hc0_1
 have HR0_2 := Aside0.mk hr0_2
 have HC0_2 := Aside0.mk hc0_2
 clear hr0_2 hc0_2
 have HR0_3 := Aside0.mk hr0_3
 have HC0_3 := Aside0.mk hc0_3
 clear hr0_3 hc0_3
 have HB := Aside0.mk (Below.refl w.heap.size w)
 have H : ((laws_heldRowS.f k l0_1 a1).bind fun t1340 => (if t1340 < 0 then (some (-1)) else ((laws_heldRowS.f k l0_2 t1340).bind fun t1341 => (if t1341 < 0 then (some (-1)) else ((laws_heldBoolS.f k l0_3 t1341).bind fun t1342 => (if t1342 < 0 then (some (-1)) else (some t1342))))))) = some r := h
 clear h
 replace H := Option.bind_eq_some_iff.mp H
 obtain ⟨t1340, A30, H⟩ := H
 have A3 := Aside0.mk A30
 clear A30
 by_cases c4 : t1340 < 0
 ·rw [if_pos c4] at H
  have c4b0 : decide (t1340 < 0) = true := decide_eq_true c4
  clear c4
  obtain rfl := Option.some.inj H
  go_enter Try.func44, Try.ntmps44
  go_wp2_with (first | ((with_reducible refine gate_dst (N := 2) rfl ?_); refine box_event ?hg (N := 2) ?hd (cs := #[.int .i64 a0_0, .slice A0_1 l0_1.length c0_1, .slice A0_2 l0_2.length c0_2, .slice A0_3 l0_3.length c0_3, .int .i64 a0_4]) (t := 40) ?hr ?_; (case hd => rfl); (case hg => rfl); (case hr => (go_simp; done)); intro gb1339 hg w5 hbox hb; have n0_ := Aside0.mk (below_step HB.out hb); have n1_ := Aside0.mk (hbox); have n2_ := Aside0.mk ((by rw [hg]; exact (below_size HB.out) : w.heap.size ≤ gb1339)); have n3_ := Aside0.mk ((by rw [hg]; exact (below_size HB.out) : w.heap.size ≤ gb1339)); clear HB; have HB := n0_; have BK1339 := n1_; have GW1339 := n2_; have GE1339 := n3_; clear n0_ n1_ n2_ n3_; clear hb hbox hg; have hcz6_0 : w5.cell? ⟨gb1339, 0, none⟩ = some (.int .i64 a0_0) := (blk_cell BK1339.out 0).trans rfl; have hcz6_1 : w5.cell? ⟨gb1339, 1, none⟩ = some (.slice A0_1 l0_1.length c0_1) := (blk_cell BK1339.out 1).trans rfl; have hcz6_2 : w5.cell? ⟨gb1339, 2, none⟩ = some (.slice A0_2 l0_2.length c0_2) := (blk_cell BK1339.out 2).trans rfl; have hcz6_3 : w5.cell? ⟨gb1339, 3, none⟩ = some (.slice A0_3 l0_3.length c0_3) := (blk_cell BK1339.out 3).trans rfl; have hcz6_4 : w5.cell? ⟨gb1339, 4, none⟩ = some (.int .i64 a0_4) := (blk_cell BK1339.out 4).trans rfl; have hfz6_0 := blk_frozen BK1339.out 0; have hfz6_1 := blk_frozen BK1339.out 1; have hfz6_2 := blk_frozen BK1339.out 2; have hfz6_3 := blk_frozen BK1339.out 3; have hfz6_4 := blk_frozen BK1339.out 4) | ((with_reducible refine gate_callee (f := 144) rfl ?_); refine goesL_ (some 8) rfl rfl Try.func144 (by kernel_rfl) rfl #[.slice A0_1 l0_1.length c0_1, .int .i64 a1] rfl (by (try simp only [List.map_toArray, List.map_cons, List.map_nil]); rfl) ?_; (with_reducible refine (laws_heldRowS.calls k _ _ l0_1 a1 t1340 _ ?side1 ?side2 A3.out).mono ?_); (case side1 => repeat (exact (Kd.C_below HR0_1.out HB.out))); (case side2 => exact HC0_1.out); rintro e w' ⟨rfl, ⟨nd, rfl⟩⟩; refine ⟨_, rfl, ?_⟩))
  go_ret
  exact ⟨rfl, by repeat ((with_reducible first | exact HB.out | apply pw_below_drewN))⟩
 ·rw [if_neg c4] at H
  have c4b0 : decide (t1340 < 0) = false := decide_eq_false c4
  clear c4
  replace H := Option.bind_eq_some_iff.mp H
  obtain ⟨t1341, A70, H⟩ := H
  have A7 := Aside0.mk A70
  clear A70
  by_cases c8 : t1341 < 0
  ·rw [if_pos c8] at H
   have c8b0 : decide (t1341 < 0) = true := decide_eq_true c8
   clear c8
   obtain rfl := Option.some.inj H
   go_enter Try.func44, Try.ntmps44
   go_wp2_with (first | ((with_reducible refine gate_dst (N := 2) rfl ?_); refine box_event ?hg (N := 2) ?hd (cs := #[.int .i64 a0_0, .slice A0_1 l0_1.length c0_1, .slice A0_2 l0_2.length c0_2, .slice A0_3 l0_3.length c0_3, .int .i64 a0_4]) (t := 40) ?hr ?_; (case hd => rfl); (case hg => rfl); (case hr => (go_simp; done)); intro gb1339 hg w9 hbox hb; have n0_ := Aside0.mk (below_step HB.out hb); have n1_ := Aside0.mk (hbox); have n2_ := Aside0.mk ((by rw [hg]; exact (below_size HB.out) : w.heap.size ≤ gb1339)); have n3_ := Aside0.mk ((by rw [hg]; exact (below_size HB.out) : w.heap.size ≤ gb1339)); clear HB; have HB := n0_; have BK1339 := n1_; have GW1339 := n2_; have GE1339 := n3_; clear n0_ n1_ n2_ n3_; clear hb hbox hg; have hcz10_0 : w9.cell? ⟨gb1339, 0, none⟩ = some (.int .i64 a0_0) := (blk_cell BK1339.out 0).trans rfl; have hcz10_1 : w9.cell? ⟨gb1339, 1, none⟩ = some (.slice A0_1 l0_1.length c0_1) := (blk_cell BK1339.out 1).trans rfl; have hcz10_2 : w9.cell? ⟨gb1339, 2, none⟩ = some (.slice A0_2 l0_2.length c0_2) := (blk_cell BK1339.out 2).trans rfl; have hcz10_3 : w9.cell? ⟨gb1339, 3, none⟩ = some (.slice A0_3 l0_3.length c0_3) := (blk_cell BK1339.out 3).trans rfl; have hcz10_4 : w9.cell? ⟨gb1339, 4, none⟩ = some (.int .i64 a0_4) := (blk_cell BK1339.out 4).trans rfl; have hfz10_0 := blk_frozen BK1339.out 0; have hfz10_1 := blk_frozen BK1339.out 1; have hfz10_2 := blk_frozen BK1339.out 2; have hfz10_3 := blk_frozen BK1339.out 3; have hfz10_4 := blk_frozen BK1339.out 4) | ((with_reducible refine gate_callee (f := 144) rfl ?_); refine goesL_ (some 8) rfl rfl Try.func144 (by kernel_rfl) rfl #[.slice A0_1 l0_1.length c0_1, .int .i64 a1] rfl (by (try simp only [List.map_toArray, List.map_cons, List.map_nil]); rfl) ?_; (with_reducible refine (laws_heldRowS.calls k _ _ l0_1 a1 t1340 _ ?side1 ?side2 A3.out).mono ?_); (case side1 => repeat (exact (Kd.C_below HR0_1.out HB.out))); (case side2 => exact HC0_1.out); rintro e w' ⟨rfl, ⟨nd, rfl⟩⟩; refine ⟨_, rfl, ?_⟩) | ((with_reducible refine gate_callee (f := 144) rfl ?_); refine goesL_ (some 14) rfl rfl Try.func144 (by kernel_rfl) rfl #[.slice A0_2 l0_2.length c0_2, .int .i64 t1340] rfl (by (try simp only [List.map_toArray, List.map_cons, List.map_nil]); rfl) ?_; (with_reducible refine (laws_heldRowS.calls k _ _ l0_2 t1340 t1341 _ ?side1 ?side2 A7.out).mono ?_); (case side1 => repeat (exact (Kd.C_below HR0_2.out (by repeat (with_reducible first | exact HB.out | apply pw_below_drewN))))); (case side2 => exact HC0_2.out); rintro e w' ⟨rfl, ⟨nd, rfl⟩⟩; refine ⟨_, rfl, ?_⟩))
   go_ret
   exact ⟨rfl, by repeat ((with_reducible first | exact HB.out | apply pw_below_drewN))⟩
  ·rw [if_neg c8] at H
   have c8b0 : decide (t1341 < 0) = false := decide_eq_false c8
   clear c8
   replace H := Option.bind_eq_some_iff.mp H
   obtain ⟨t1342, A110, H⟩ := H
   have A11 := Aside0.mk A110
   clear A110
   by_cases c12 : t1342 < 0
   ·rw [if_pos c12] at H
    have c12b0 : decide (t1342 < 0) = true := decide_eq_true c12
    clear c12
    obtain rfl := Option.some.inj H
    go_enter Try.func44, Try.ntmps44
    go_wp2_with (first | ((with_reducible refine gate_dst (N := 2) rfl ?_); refine box_event ?hg (N := 2) ?hd (cs := #[.int .i64 a0_0, .slice A0_1 l0_1.length c0_1, .slice A0_2 l0_2.length c0_2, .slice A0_3 l0_3.length c0_3, .int .i64 a0_4]) (t := 40) ?hr ?_; (case hd => rfl); (case hg => rfl); (case hr => (go_simp; done)); intro gb1339 hg w13 hbox hb; have n0_ := Aside0.mk (below_step HB.out hb); have n1_ := Aside0.mk (hbox); have n2_ := Aside0.mk ((by rw [hg]; exact (below_size HB.out) : w.heap.size ≤ gb1339)); have n3_ := Aside0.mk ((by rw [hg]; exact (below_size HB.out) : w.heap.size ≤ gb1339)); clear HB; have HB := n0_; have BK1339 := n1_; have GW1339 := n2_; have GE1339 := n3_; clear n0_ n1_ n2_ n3_; clear hb hbox hg; have hcz14_0 : w13.cell? ⟨gb1339, 0, none⟩ = some (.int .i64 a0_0) := (blk_cell BK1339.out 0).trans rfl; have hcz14_1 : w13.cell? ⟨gb1339, 1, none⟩ = some (.slice A0_1 l0_1.length c0_1) := (blk_cell BK1339.out 1).trans rfl; have hcz14_2 : w13.cell? ⟨gb1339, 2, none⟩ = some (.slice A0_2 l0_2.length c0_2) := (blk_cell BK1339.out 2).trans rfl; have hcz14_3 : w13.cell? ⟨gb1339, 3, none⟩ = some (.slice A0_3 l0_3.length c0_3) := (blk_cell BK1339.out 3).trans rfl; have hcz14_4 : w13.cell? ⟨gb1339, 4, none⟩ = some (.int .i64 a0_4) := (blk_cell BK1339.out 4).trans rfl; have hfz14_0 := blk_frozen BK1339.out 0; have hfz14_1 := blk_frozen BK1339.out 1; have hfz14_2 := blk_frozen BK1339.out 2; have hfz14_3 := blk_frozen BK1339.out 3; have hfz14_4 := blk_frozen BK1339.out 4) | ((with_reducible refine gate_callee (f := 144) rfl ?_); refine goesL_ (some 8) rfl rfl Try.func144 (by kernel_rfl) rfl #[.slice A0_1 l0_1.length c0_1, .int .i64 a1] rfl (by (try simp only [List.map_toArray, List.map_cons, List.map_nil]); rfl) ?_; (with_reducible refine (laws_heldRowS.calls k _ _ l0_1 a1 t1340 _ ?side1 ?side2 A3.out).mono ?_); (case side1 => repeat (exact (Kd.C_below HR0_1.out HB.out))); (case side2 => exact HC0_1.out); rintro e w' ⟨rfl, ⟨nd, rfl⟩⟩; refine ⟨_, rfl, ?_⟩) | ((with_reducible refine gate_callee (f := 144) rfl ?_); refine goesL_ (some 14) rfl rfl Try.func144 (by kernel_rfl) rfl #[.slice A0_2 l0_2.length c0_2, .int .i64 t1340] rfl (by (try simp only [List.map_toArray, List.map_cons, List.map_nil]); rfl) ?_; (with_reducible refine (laws_heldRowS.calls k _ _ l0_2 t1340 t1341 _ ?side1 ?side2 A7.out).mono ?_); (case side1 => repeat (exact (Kd.C_below HR0_2.out (by repeat (with_reducible first | exact HB.out | apply pw_below_drewN))))); (case side2 => exact HC0_2.out); rintro e w' ⟨rfl, ⟨nd, rfl⟩⟩; refine ⟨_, rfl, ?_⟩) | ((with_reducible refine gate_callee (f := 145) rfl ?_); refine goesL_ (some 20) rfl rfl Try.func145 (by kernel_rfl) rfl #[.slice A0_3 l0_3.length c0_3, .int .i64 t1341] rfl (by (try simp only [List.map_toArray, List.map_cons, List.map_nil]); rfl) ?_; (with_reducible refine (laws_heldBoolS.calls k _ _ l0_3 t1341 t1342 _ ?side1 ?side2 A11.out).mono ?_); (case side1 => repeat (exact (Kd.C_below HR0_3.out (by repeat (with_reducible first | exact HB.out | apply pw_below_drewN))))); (case side2 => exact HC0_3.out); rintro e w' ⟨rfl, ⟨nd, rfl⟩⟩; refine ⟨_, rfl, ?_⟩))
    go_ret
    exact ⟨rfl, by repeat ((with_reducible first | exact HB.out | apply pw_below_drewN))⟩
   ·rw [if_neg c12] at H
    have c12b0 : decide (t1342 < 0) = false := decide_eq_false c12
    clear c12
    obtain rfl := Option.some.inj H
    go_enter Try.func44, Try.ntmps44
    go_wp2_with (first | ((with_reducible refine gate_dst (N := 2) rfl ?_); refine box_event ?hg (N := 2) ?hd (cs := #[.int .i64 a0_0, .slice A0_1 l0_1.length c0_1, .slice A0_2 l0_2.length c0_2, .slice A0_3 l0_3.length c0_3, .int .i64 a0_4]) (t := 40) ?hr ?_; (case hd => rfl); (case hg => rfl); (case hr => (go_simp; done)); intro gb1339 hg w15 hbox hb; have n0_ := Aside0.mk (below_step HB.out hb); have n1_ := Aside0.mk (hbox); have n2_ := Aside0.mk ((by rw [hg]; exact (below_size HB.out) : w.heap.size ≤ gb1339)); have n3_ := Aside0.mk ((by rw [hg]; exact (below_size HB.out) : w.heap.size ≤ gb1339)); clear HB; have HB := n0_; have BK1339 := n1_; have GW1339 := n2_; have GE1339 := n3_; clear n0_ n1_ n2_ n3_; clear hb hbox hg; have hcz16_0 : w15.cell? ⟨gb1339, 0, none⟩ = some (.int .i64 a0_0) := (blk_cell BK1339.out 0).trans rfl; have hcz16_1 : w15.cell? ⟨gb1339, 1, none⟩ = some (.slice A0_1 l0_1.length c0_1) := (blk_cell BK1339.out 1).trans rfl; have hcz16_2 : w15.cell? ⟨gb1339, 2, none⟩ = some (.slice A0_2 l0_2.length c0_2) := (blk_cell BK1339.out 2).trans rfl; have hcz16_3 : w15.cell? ⟨gb1339, 3, none⟩ = some (.slice A0_3 l0_3.length c0_3) := (blk_cell BK1339.out 3).trans rfl; have hcz16_4 : w15.cell? ⟨gb1339, 4, none⟩ = some (.int .i64 a0_4) := (blk_cell BK1339.out 4).trans rfl; have hfz16_0 := blk_frozen BK1339.out 0; have hfz16_1 := blk_frozen BK1339.out 1; have hfz16_2 := blk_frozen BK1339.out 2; have hfz16_3 := blk_frozen BK1339.out 3; have hfz16_4 := blk_frozen BK1339.out 4) | ((with_reducible refine gate_callee (f := 144) rfl ?_); refine goesL_ (some 8) rfl rfl Try.func144 (by kernel_rfl) rfl #[.slice A0_1 l0_1.length c0_1, .int .i64 a1] rfl (by (try simp only [List.map_toArray, List.map_cons, List.map_nil]); rfl) ?_; (with_reducible refine (laws_heldRowS.calls k _ _ l0_1 a1 t1340 _ ?side1 ?side2 A3.out).mono ?_); (case side1 => repeat (exact (Kd.C_below HR0_1.out HB.out))); (case side2 => exact HC0_1.out); rintro e w' ⟨rfl, ⟨nd, rfl⟩⟩; refine ⟨_, rfl, ?_⟩) | ((with_reducible refine gate_callee (f := 144) rfl ?_); refine goesL_ (some 14) rfl rfl Try.func144 (by kernel_rfl) rfl #[.slice A0_2 l0_2.length c0_2, .int .i64 t1340] rfl (by (try simp only [List.map_toArray, List.map_cons, List.map_nil]); rfl) ?_; (with_reducible refine (laws_heldRowS.calls k _ _ l0_2 t1340 t1341 _ ?side1 ?side2 A7.out).mono ?_); (case side1 => repeat (exact (Kd.C_below HR0_2.out (by repeat (with_reducible first | exact HB.out | apply pw_below_drewN))))); (case side2 => exact HC0_2.out); rintro e w' ⟨rfl, ⟨nd, rfl⟩⟩; refine ⟨_, rfl, ?_⟩) | ((with_reducible refine gate_callee (f := 145) rfl ?_); refine goesL_ (some 20) rfl rfl Try.func145 (by kernel_rfl) rfl #[.slice A0_3 l0_3.length c0_3, .int .i64 t1341] rfl (by (try simp only [List.map_toArray, List.map_cons, List.map_nil]); rfl) ?_; (with_reducible refine (laws_heldBoolS.calls k _ _ l0_3 t1341 t1342 _ ?side1 ?side2 A11.out).mono ?_); (case side1 => repeat (exact (Kd.C_below HR0_3.out (by repeat (with_reducible first | exact HB.out | apply pw_below_drewN))))); (case side2 => exact HC0_3.out); rintro e w' ⟨rfl, ⟨nd, rfl⟩⟩; refine ⟨_, rfl, ?_⟩))
    go_ret
    exact ⟨rfl, by repeat ((with_reducible first | exact HB.out | apply pw_below_drewN))⟩

end Go.Proofs.Ytobndcjmjhehjaa.P
namespace Go.Proofs.Ytobndcjmjhehjaa.P
open Go.RowKit Go.Proofs.YtobndcjmjhehjaaW.PrintWords Go.Proofs.YtobndcjmjhehjaaW.PrintLast Go.Proofs.YtobndcjmjhehjaaW.PrintMore
attribute [local go_sem] max2_int min2_int max_two min_two max_three min_three max_four min_four   -- for this text's walks alone
set_option linter.unusedVariables false
set_option linter.unusedSimpArgs false

/-! ### laws_FnExactParseTask: function 5 -/
mutual
def laws_FnExactParseTask.j0 : Nat → ByteArray → Bool → Bool → Int → List (S60) → List (S60) → List Bool → Int → Int → List (S60) → List (S60) → List Bool → Int → Option (Bool)
 | 0, _, _, _, _, _, _, _, _, _, _, _, _, _ => none
 | k + 1, x0, x4, x32, x1356000, x1356001, x1356002, x1356003, x1356004, x1369000, x1369001, x1369002, x1369003, x1369004 => if x32 = true then (some false) else ((laws_markTask.f k x1369000 x1369001 x1369002 x1369003 x1369004 1).bind fun bt1370 => ((laws_heldTask.f k x1369000 bt1370.2.1 bt1370.2.2.1 bt1370.2.2.2 x1369004 1).bind fun t1374 => (if t1374 < 0 then (some false) else (if t1374 = bt1370.1 then ((impl_ParseTask.f k x0).bind fun bt1375 => ((laws_eqTask.f k bt1375.1 bt1375.2.1 bt1375.2.2.1 bt1375.2.2.2.1 bt1375.2.2.2.2.1 x1356000 x1356001 x1356002 x1356003 x1356004).bind fun t1388 => (if t1388 = true then (laws_FnExactParseTask.j1 k bt1370.1 (bt1375.2.2.2.2.2 != x4) x1369000 bt1370.2.1 bt1370.2.2.1 bt1370.2.2.2 x1369004) else (laws_FnExactParseTask.j1 k bt1370.1 true x1369000 bt1370.2.1 bt1370.2.2.1 bt1370.2.2.2 x1369004)))) else (some false)))))
def laws_FnExactParseTask.j1 : Nat → Int → Bool → Int → List (S60) → List (S60) → List Bool → Int → Option (Bool)
 | 0, _, _, _, _, _, _, _ => none
 | k + 1, x7, x57, x1369000, x1369001, x1369002, x1369003, x1369004 => if x57 = true then (some false) else ((laws_heldTask.f k x1369000 x1369001 x1369002 x1369003 x1369004 1).bind fun t1389 => (if t1389 < 0 then (some false) else (if t1389 = x7 then (some true) else (some false))))
end
def laws_FnExactParseTask.f (k : Nat) (a0 : ByteArray) : Option (Bool) := if (a0.size : Int) > 1048576 then (some true) else ((spec_ParseTask.f k a0).bind fun bt1343 => ((impl_ParseTask.f k a0).bind fun bt1356 => ((laws_eqTask.f k bt1356.1 bt1356.2.1 bt1356.2.2.1 bt1356.2.2.2.1 bt1356.2.2.2.2.1 bt1343.1 bt1343.2.1 bt1343.2.2.1 bt1343.2.2.2.1 bt1343.2.2.2.2.1).bind fun t1369 => (if t1369 = true then (laws_FnExactParseTask.j0 k a0 bt1343.2.2.2.2.2 (bt1356.2.2.2.2.2 != bt1343.2.2.2.2.2) bt1343.1 bt1343.2.1 bt1343.2.2.1 bt1343.2.2.2.1 bt1343.2.2.2.2.1 bt1356.1 bt1356.2.1 bt1356.2.2.1 bt1356.2.2.2.1 bt1356.2.2.2.2.1) else (laws_FnExactParseTask.j0 k a0 bt1343.2.2.2.2.2 true bt1343.1 bt1343.2.1 bt1343.2.2.1 bt1343.2.2.2.1 bt1343.2.2.2.2.1 bt1356.1 bt1356.2.1 bt1356.2.2.1 bt1356.2.2.2.1 bt1356.2.2.2.2.1)))))
theorem laws_FnExactParseTask.mono_l : ∀ k, (∀ y0 y1 y2 y3 y4 y5 y6 y7 y8 y9 y10 y11 y12, LeO (laws_FnExactParseTask.j0 k y0 y1 y2 y3 y4 y5 y6 y7 y8 y9 y10 y11 y12) (laws_FnExactParseTask.j0 (k + 1) y0 y1 y2 y3 y4 y5 y6 y7 y8 y9 y10 y11 y12)) ∧ (∀ y0 y1 y2 y3 y4 y5 y6, LeO (laws_FnExactParseTask.j1 k y0 y1 y2 y3 y4 y5 y6) (laws_FnExactParseTask.j1 (k + 1) y0 y1 y2 y3 y4 y5 y6))
 | 0 => ⟨fun _ _ _ _ _ _ _ _ _ _ _ _ _ r h => by simp [laws_FnExactParseTask.j0] at h, fun _ _ _ _ _ _ _ r h => by simp [laws_FnExactParseTask.j1] at h⟩
 | k + 1 => by
  obtain ⟨ih0, ih1⟩ := laws_FnExactParseTask.mono_l k
  refine ⟨?_, ?_⟩
  ·intro y0 y1 y2 y3 y4 y5 y6 y7 y8 y9 y10 y11 y12
   unfold laws_FnExactParseTask.j0
   repeat' first
   | (with_reducible exact ih1 _ _ _ _ _ _ _)
   | (with_reducible exact impl_ParseTask.mono _ _)
   | (with_reducible exact laws_eqTask.mono _ _ _ _ _ _ _ _ _ _ _)
   | (with_reducible exact laws_heldTask.mono _ _ _ _ _ _ _)
   | (with_reducible exact laws_markTask.mono _ _ _ _ _ _ _)
   | (with_reducible exact LeO.refl _)
   | (with_reducible refine LeO.ite ?_ ?_)
   | (with_reducible refine LeO.bind ?_ (fun _ => ?_))
   | refine LeO.bind ?_ (fun _ => ?_)
  ·intro y0 y1 y2 y3 y4 y5 y6
   unfold laws_FnExactParseTask.j1
   repeat' first

   | (with_reducible exact laws_heldTask.mono _ _ _ _ _ _ _)
   | (with_reducible exact LeO.refl _)
   | (with_reducible refine LeO.ite ?_ ?_)
   | (with_reducible refine LeO.bind ?_ (fun _ => ?_))
   | refine LeO.bind ?_ (fun _ => ?_)
theorem laws_FnExactParseTask.mono : ∀ a0 k, LeO (laws_FnExactParseTask.f k a0) (laws_FnExactParseTask.f (k + 1) a0) := by
 intro a0 k
 obtain ⟨ih0, ih1⟩ := laws_FnExactParseTask.mono_l k
 unfold laws_FnExactParseTask.f
 repeat' first
   | (with_reducible exact ih0 _ _ _ _ _ _ _ _ _ _ _ _ _)
   | (with_reducible exact impl_ParseTask.mono _ _)
   | (with_reducible exact laws_eqTask.mono _ _ _ _ _ _ _ _ _ _ _)
   | (with_reducible exact spec_ParseTask.mono _ _)
   | (with_reducible exact LeO.refl _)
   | (with_reducible refine LeO.ite ?_ ?_)
   | (with_reducible refine LeO.bind ?_ (fun _ => ?_))
   | refine LeO.bind ?_ (fun _ => ?_)
set_option maxHeartbeats 8000000 in
set_option maxRecDepth 100000 in
theorem laws_FnExactParseTask.calls (k : Nat) (a0 : ByteArray) (r : Bool) (w : World) (h : laws_FnExactParseTask.f k a0 = some r) :
  Calls Try.prog 5 #[.string a0] w fun e w' => e = .returned (.bool r) ∧ Below w.heap.size w w' := by
 have hu40 := Try.underlying40
 have HB := Aside0.mk (Below.refl w.heap.size w)
 have H : (if (a0.size : Int) > 1048576 then (some true) else ((spec_ParseTask.f k a0).bind fun bt1343 => ((impl_ParseTask.f k a0).bind fun bt1356 => ((laws_eqTask.f k bt1356.1 bt1356.2.1 bt1356.2.2.1 bt1356.2.2.2.1 bt1356.2.2.2.2.1 bt1343.1 bt1343.2.1 bt1343.2.2.1 bt1343.2.2.2.1 bt1343.2.2.2.2.1).bind fun t1369 => (if t1369 = true then (laws_FnExactParseTask.j0 k a0 bt1343.2.2.2.2.2 (bt1356.2.2.2.2.2 != bt1343.2.2.2.2.2) bt1343.1 bt1343.2.1 bt1343.2.2.1 bt1343.2.2.2.1 bt1343.2.2.2.2.1 bt1356.1 bt1356.2.1 bt1356.2.2.1 bt1356.2.2.2.1 bt1356.2.2.2.2.1) else (laws_FnExactParseTask.j0 k a0 bt1343.2.2.2.2.2 true bt1343.1 bt1343.2.1 bt1343.2.2.1 bt1343.2.2.2.1 bt1343.2.2.2.2.1 bt1356.1 bt1356.2.1 bt1356.2.2.1 bt1356.2.2.2.1 bt1356.2.2.2.2.1)))))) = some r := h
 clear h
 by_cases c2 : (a0.size : Int) > 1048576
 ·rw [if_pos c2] at H
  have c2b0 : decide (1048576 < (a0.size : Int)) = true := decide_eq_true c2
  have c2b1 : decide (1048576 < a0.size) = true := decide_eq_true (by omega)
  clear c2
  obtain rfl := Option.some.inj H
  go_enter Try.func5, Try.ntmps5
  go_wp2
  go_ret
  exact ⟨rfl, HB.out⟩
 ·rw [if_neg c2] at H
  have c2b0 : decide (1048576 < (a0.size : Int)) = false := decide_eq_false c2
  have c2b1 : decide (1048576 < a0.size) = false := decide_eq_false (by omega)
  clear c2
  replace H := Option.bind_eq_some_iff.mp H
  obtain ⟨⟨t1343, t1344, t1347, t1350, t1353, t1354⟩, A30, H⟩ := H
  have A3 := Aside0.mk A30
  clear A30
  replace H := Option.bind_eq_some_iff.mp H
  obtain ⟨⟨t1356, t1357, t1360, t1363, t1366, t1367⟩, A40, H⟩ := H
  have A4 := Aside0.mk A40
  clear A40
  have HC5 := Aside0.mk H
  clear H
  go_enter Try.func5, Try.ntmps5
  go_upto_region 5 with (first | ((with_reducible refine gate_callee (f := 40) rfl ?_); refine goesL_ (some 16) rfl rfl Try.func40 (by kernel_rfl) rfl #[.string a0] rfl (by (try simp only [List.map_toArray, List.map_cons, List.map_nil]); rfl) ?_; (with_reducible refine (spec_ParseTask.calls k a0 t1343 t1344 t1347 t1350 t1353 t1354 _ A3.out).mono ?_); rintro e w6 ⟨v1345, v1348, v1351, rfl, ho0, ho1, ho2, hb⟩; refine ⟨_, rfl, ?_⟩; have n0_ := Aside0.mk (Kd.R_lower ho0 (below_size HB.out)); have n1_ := Aside0.mk (Kd.R_lower ho1 (below_size HB.out)); have n2_ := Aside0.mk (Kd.R_lower ho2 (below_size HB.out)); have n3_ := Aside0.mk (below_step HB.out hb); clear HB; have HO1346 := n0_; have HO1349 := n1_; have HO1352 := n2_; have HB := n3_; clear n0_ n1_ n2_ n3_; (try clear hb); (try clear hb2); (try clear hk); (try clear hi); (try clear ho0); (try clear ho1); (try clear ho2)) | ((with_reducible refine gate_dst (N := 3) rfl ?_); refine box_event ?hg (N := 3) ?hd (cs := #[.int .i64 0, .slice none 0 0, .slice none 0 0, .slice none 0 0, .int .i64 0]) (t := 40) ?hr ?_; (case hd => rfl); (case hg => rfl); (case hr => (go_simp; done)); intro gb1355 hg w7 hbox hb; have n0_ := Aside0.mk (Kd.R_below HO1346.out hb); have n1_ := Aside0.mk (Kd.R_below HO1349.out hb); have n2_ := Aside0.mk (Kd.R_below HO1352.out hb); have n3_ := Aside0.mk (below_step HB.out hb); have n4_ := Aside0.mk (hbox); have n5_ := Aside0.mk ((by rw [hg]; exact (below_size HB.out) : w.heap.size ≤ gb1355)); have n6_ := Aside0.mk ((by rw [hg]; exact (below_size HB.out) : w.heap.size ≤ gb1355)); clear HO1346; clear HO1349; clear HO1352; clear HB; have HO1346 := n0_; have HO1349 := n1_; have HO1352 := n2_; have HB := n3_; have BK1355 := n4_; have GW1355 := n5_; have GE1355 := n6_; clear n0_ n1_ n2_ n3_ n4_ n5_ n6_; clear hb hbox hg; have hcz8_0 : w7.cell? ⟨gb1355, 0, none⟩ = some (.int .i64 0) := (blk_cell BK1355.out 0).trans rfl; have hcz8_1 : w7.cell? ⟨gb1355, 1, none⟩ = some (.slice none 0 0) := (blk_cell BK1355.out 1).trans rfl; have hcz8_2 : w7.cell? ⟨gb1355, 2, none⟩ = some (.slice none 0 0) := (blk_cell BK1355.out 2).trans rfl; have hcz8_3 : w7.cell? ⟨gb1355, 3, none⟩ = some (.slice none 0 0) := (blk_cell BK1355.out 3).trans rfl; have hcz8_4 : w7.cell? ⟨gb1355, 4, none⟩ = some (.int .i64 0) := (blk_cell BK1355.out 4).trans rfl; have hfz8_0 := blk_frozen BK1355.out 0; have hfz8_1 := blk_frozen BK1355.out 1; have hfz8_2 := blk_frozen BK1355.out 2; have hfz8_3 := blk_frozen BK1355.out 3; have hfz8_4 := blk_frozen BK1355.out 4; obtain ⟨Ao9, co9, eo9⟩ := Kd.R_slice HO1346.out; subst eo9; obtain ⟨Ao10, co10, eo10⟩ := Kd.R_slice HO1349.out; subst eo10; obtain ⟨Ao11, co11, eo11⟩ := Kd.R_slice HO1352.out; subst eo11) | ((with_reducible refine gate_callee (f := 41) rfl ?_); refine goesL_ (some 21) rfl rfl Try.func41 (by kernel_rfl) rfl #[.string a0] rfl (by (try simp only [List.map_toArray, List.map_cons, List.map_nil]); rfl) ?_; (with_reducible refine (impl_ParseTask.calls k a0 t1356 t1357 t1360 t1363 t1366 t1367 _ A4.out).mono ?_); rintro e w12 ⟨v1358, v1361, v1364, rfl, ho0, ho1, ho2, hb⟩; refine ⟨_, rfl, ?_⟩; have n0_ := Aside0.mk (Kd.R_mono (Kd.R_told (Kd.R_told (Kd.R_old (by exact (Kd.R_mono (Kd.R_far (p := ⟨gb1355, 4, none⟩) (Kd.R_far (p := ⟨gb1355, 3, none⟩) (Kd.R_far (p := ⟨gb1355, 2, none⟩) (Kd.R_far (p := ⟨gb1355, 1, none⟩) (Kd.R_far (p := ⟨gb1355, 0, none⟩) (Kd.R_types HO1346.out BK1355.out (by decide)) (fun _ hk => hk.2) (.int .i64 t1343)) (fun _ hk => hk.2) (.slice Ao9 t1344.length co9)) (fun _ hk => hk.2) (.slice Ao10 t1347.length co10)) (fun _ hk => hk.2) (.slice Ao11 t1350.length co11)) (fun _ hk => hk.2) (.int .i64 t1353)) (fun _ h_ => h_.1))) hb) (Kd.R_base ho0)) (Kd.R_base ho1)) (fun _ h_ => h_.1)); have n1_ := Aside0.mk (Kd.R_mono (Kd.R_told (Kd.R_told (Kd.R_old (by exact (Kd.R_mono (Kd.R_far (p := ⟨gb1355, 4, none⟩) (Kd.R_far (p := ⟨gb1355, 3, none⟩) (Kd.R_far (p := ⟨gb1355, 2, none⟩) (Kd.R_far (p := ⟨gb1355, 1, none⟩) (Kd.R_far (p := ⟨gb1355, 0, none⟩) (Kd.R_types HO1349.out BK1355.out (by decide)) (fun _ hk => hk.2) (.int .i64 t1343)) (fun _ hk => hk.2) (.slice Ao9 t1344.length co9)) (fun _ hk => hk.2) (.slice Ao10 t1347.length co10)) (fun _ hk => hk.2) (.slice Ao11 t1350.length co11)) (fun _ hk => hk.2) (.int .i64 t1353)) (fun _ h_ => h_.1))) hb) (Kd.R_base ho0)) (Kd.R_base ho1)) (fun _ h_ => h_.1)); have n2_ := Aside0.mk (Kd.R_elder' (by exact (Kd.R_mono (Kd.R_far (p := ⟨gb1355, 4, none⟩) (Kd.R_far (p := ⟨gb1355, 3, none⟩) (Kd.R_far (p := ⟨gb1355, 2, none⟩) (Kd.R_far (p := ⟨gb1355, 1, none⟩) (Kd.R_far (p := ⟨gb1355, 0, none⟩) (Kd.R_types HO1352.out BK1355.out (by decide)) (fun _ hk => hk.2) (.int .i64 t1343)) (fun _ hk => hk.2) (.slice Ao9 t1344.length co9)) (fun _ hk => hk.2) (.slice Ao10 t1347.length co10)) (fun _ hk => hk.2) (.slice Ao11 t1350.length co11)) (fun _ hk => hk.2) (.int .i64 t1353)) (fun _ h_ => h_.1))) (Kd.R_base ho2) hb); have n3_ := Aside0.mk (Kd.R_lower (Kd.R_new' (Kd.R_new' ho0 (Kd.R_lt (by exact (Kd.R_mono (Kd.R_far (p := ⟨gb1355, 4, none⟩) (Kd.R_far (p := ⟨gb1355, 3, none⟩) (Kd.R_far (p := ⟨gb1355, 2, none⟩) (Kd.R_far (p := ⟨gb1355, 1, none⟩) (Kd.R_far (p := ⟨gb1355, 0, none⟩) (Kd.R_types HO1346.out BK1355.out (by decide)) (fun _ hk => hk.2) (.int .i64 t1343)) (fun _ hk => hk.2) (.slice Ao9 t1344.length co9)) (fun _ hk => hk.2) (.slice Ao10 t1347.length co10)) (fun _ hk => hk.2) (.slice Ao11 t1350.length co11)) (fun _ hk => hk.2) (.int .i64 t1353)) (fun _ h_ => h_.1))))) (Kd.R_lt (by exact (Kd.R_mono (Kd.R_far (p := ⟨gb1355, 4, none⟩) (Kd.R_far (p := ⟨gb1355, 3, none⟩) (Kd.R_far (p := ⟨gb1355, 2, none⟩) (Kd.R_far (p := ⟨gb1355, 1, none⟩) (Kd.R_far (p := ⟨gb1355, 0, none⟩) (Kd.R_types HO1349.out BK1355.out (by decide)) (fun _ hk => hk.2) (.int .i64 t1343)) (fun _ hk => hk.2) (.slice Ao9 t1344.length co9)) (fun _ hk => hk.2) (.slice Ao10 t1347.length co10)) (fun _ hk => hk.2) (.slice Ao11 t1350.length co11)) (fun _ hk => hk.2) (.int .i64 t1353)) (fun _ h_ => h_.1))))) (below_size (by repeat (with_reducible first | exact HB.out | refine below_set ?_ GE1355.out)))); have n4_ := Aside0.mk (Kd.R_lower (Kd.R_new' (Kd.R_new' ho1 (Kd.R_lt (by exact (Kd.R_mono (Kd.R_far (p := ⟨gb1355, 4, none⟩) (Kd.R_far (p := ⟨gb1355, 3, none⟩) (Kd.R_far (p := ⟨gb1355, 2, none⟩) (Kd.R_far (p := ⟨gb1355, 1, none⟩) (Kd.R_far (p := ⟨gb1355, 0, none⟩) (Kd.R_types HO1346.out BK1355.out (by decide)) (fun _ hk => hk.2) (.int .i64 t1343)) (fun _ hk => hk.2) (.slice Ao9 t1344.length co9)) (fun _ hk => hk.2) (.slice Ao10 t1347.length co10)) (fun _ hk => hk.2) (.slice Ao11 t1350.length co11)) (fun _ hk => hk.2) (.int .i64 t1353)) (fun _ h_ => h_.1))))) (Kd.R_lt (by exact (Kd.R_mono (Kd.R_far (p := ⟨gb1355, 4, none⟩) (Kd.R_far (p := ⟨gb1355, 3, none⟩) (Kd.R_far (p := ⟨gb1355, 2, none⟩) (Kd.R_far (p := ⟨gb1355, 1, none⟩) (Kd.R_far (p := ⟨gb1355, 0, none⟩) (Kd.R_types HO1349.out BK1355.out (by decide)) (fun _ hk => hk.2) (.int .i64 t1343)) (fun _ hk => hk.2) (.slice Ao9 t1344.length co9)) (fun _ hk => hk.2) (.slice Ao10 t1347.length co10)) (fun _ hk => hk.2) (.slice Ao11 t1350.length co11)) (fun _ hk => hk.2) (.int .i64 t1353)) (fun _ h_ => h_.1))))) (below_size (by repeat (with_reducible first | exact HB.out | refine below_set ?_ GE1355.out)))); have n5_ := Aside0.mk (Kd.R_lower (Kd.R_new' ho2 (Kd.R_lt (by exact (Kd.R_mono (Kd.R_far (p := ⟨gb1355, 4, none⟩) (Kd.R_far (p := ⟨gb1355, 3, none⟩) (Kd.R_far (p := ⟨gb1355, 2, none⟩) (Kd.R_far (p := ⟨gb1355, 1, none⟩) (Kd.R_far (p := ⟨gb1355, 0, none⟩) (Kd.R_types HO1352.out BK1355.out (by decide)) (fun _ hk => hk.2) (.int .i64 t1343)) (fun _ hk => hk.2) (.slice Ao9 t1344.length co9)) (fun _ hk => hk.2) (.slice Ao10 t1347.length co10)) (fun _ hk => hk.2) (.slice Ao11 t1350.length co11)) (fun _ hk => hk.2) (.int .i64 t1353)) (fun _ h_ => h_.1))))) (below_size (by repeat (with_reducible first | exact HB.out | refine below_set ?_ GE1355.out)))); have n6_ := Aside0.mk (blk_below (g := gb1355) (o := .cells #[.int .i64 t1343, .slice Ao9 t1344.length co9, .slice Ao10 t1347.length co10, .slice Ao11 t1350.length co11, .int .i64 t1353] 40 (0, 0)) (by refine blk_put (cs := #[.int .i64 t1343, .slice Ao9 t1344.length co9, .slice Ao10 t1347.length co10, .slice Ao11 t1350.length co11, .int .i64 0]) ?_ 4 _ rfl; refine blk_put (cs := #[.int .i64 t1343, .slice Ao9 t1344.length co9, .slice Ao10 t1347.length co10, .slice none 0 0, .int .i64 0]) ?_ 3 _ rfl; refine blk_put (cs := #[.int .i64 t1343, .slice Ao9 t1344.length co9, .slice none 0 0, .slice none 0 0, .int .i64 0]) ?_ 2 _ rfl; refine blk_put (cs := #[.int .i64 t1343, .slice none 0 0, .slice none 0 0, .slice none 0 0, .int .i64 0]) ?_ 1 _ rfl; refine blk_put (cs := #[.int .i64 0, .slice none 0 0, .slice none 0 0, .slice none 0 0, .int .i64 0]) ?_ 0 _ rfl; exact BK1355.out) hb); have n7_ := Aside0.mk (below_step (by repeat (with_reducible first | exact HB.out | refine below_set ?_ GE1355.out)) hb); clear HO1346; clear HO1349; clear HO1352; clear BK1355; clear HB; have HO1346 := n0_; have HO1349 := n1_; have HO1352 := n2_; have HO1359 := n3_; have HO1362 := n4_; have HO1365 := n5_; have BK1355 := n6_; have HB := n7_; clear n0_ n1_ n2_ n3_ n4_ n5_ n6_ n7_; (try clear hb); (try clear hb2); (try clear hk); (try clear hi); (try clear ho0); (try clear ho1); (try clear ho2)) | ((with_reducible refine gate_dst (N := 5) rfl ?_); refine box_event ?hg (N := 5) ?hd (cs := #[.int .i64 0, .slice none 0 0, .slice none 0 0, .slice none 0 0, .int .i64 0]) (t := 40) ?hr ?_; (case hd => rfl); (case hg => rfl); (case hr => (go_simp; done)); intro gb1368 hg w13 hbox hb; have n0_ := Aside0.mk (Kd.R_below HO1346.out hb); have n1_ := Aside0.mk (Kd.R_below HO1349.out hb); have n2_ := Aside0.mk (Kd.R_below HO1352.out hb); have n3_ := Aside0.mk (Kd.R_below HO1359.out hb); have n4_ := Aside0.mk (Kd.R_below HO1362.out hb); have n5_ := Aside0.mk (Kd.R_below HO1365.out hb); have n6_ := Aside0.mk (blk_below (g := gb1355) (o := .cells #[.int .i64 t1343, .slice Ao9 t1344.length co9, .slice Ao10 t1347.length co10, .slice Ao11 t1350.length co11, .int .i64 t1353] 40 (0, 0)) BK1355.out hb); have n7_ := Aside0.mk (below_step HB.out hb); have n8_ := Aside0.mk (hbox); have n9_ := Aside0.mk ((by rw [hg]; exact (below_size HB.out) : w.heap.size ≤ gb1368)); have n10_ := Aside0.mk ((by rw [hg]; exact (below_size HB.out) : w.heap.size ≤ gb1368)); have n11_ := Aside0.mk ((by rw [hg]; exact Nat.ne_of_lt (blk_lt (g := gb1355) (o := .cells #[.int .i64 t1343, .slice Ao9 t1344.length co9, .slice Ao10 t1347.length co10, .slice Ao11 t1350.length co11, .int .i64 t1353] 40 (0, 0)) BK1355.out) : gb1355 ≠ gb1368)); have n12_ := Aside0.mk ((by rw [hg]; exact Nat.ne_of_gt (blk_lt (g := gb1355) (o := .cells #[.int .i64 t1343, .slice Ao9 t1344.length co9, .slice Ao10 t1347.length co10, .slice Ao11 t1350.length co11, .int .i64 t1353] 40 (0, 0)) BK1355.out) : gb1368 ≠ gb1355)); clear HO1346; clear HO1349; clear HO1352; clear HO1359; clear HO1362; clear HO1365; clear BK1355; clear HB; have HO1346 := n0_; have HO1349 := n1_; have HO1352 := n2_; have HO1359 := n3_; have HO1362 := n4_; have HO1365 := n5_; have BK1355 := n6_; have HB := n7_; have BK1368 := n8_; have GW1368 := n9_; have GE1368 := n10_; have NB1355_1368 := n11_; have NB1368_1355 := n12_; clear n0_ n1_ n2_ n3_ n4_ n5_ n6_ n7_ n8_ n9_ n10_ n11_ n12_; clear hb hbox hg; have hnb14 := NB1368_1355.out; have hnc14 := NB1355_1368.out; have hcz15_0 : w13.cell? ⟨gb1368, 0, none⟩ = some (.int .i64 0) := (blk_cell BK1368.out 0).trans rfl; have hcz15_1 : w13.cell? ⟨gb1368, 1, none⟩ = some (.slice none 0 0) := (blk_cell BK1368.out 1).trans rfl; have hcz15_2 : w13.cell? ⟨gb1368, 2, none⟩ = some (.slice none 0 0) := (blk_cell BK1368.out 2).trans rfl; have hcz15_3 : w13.cell? ⟨gb1368, 3, none⟩ = some (.slice none 0 0) := (blk_cell BK1368.out 3).trans rfl; have hcz15_4 : w13.cell? ⟨gb1368, 4, none⟩ = some (.int .i64 0) := (blk_cell BK1368.out 4).trans rfl; have hfz15_0 := blk_frozen BK1368.out 0; have hfz15_1 := blk_frozen BK1368.out 1; have hfz15_2 := blk_frozen BK1368.out 2; have hfz15_3 := blk_frozen BK1368.out 3; have hfz15_4 := blk_frozen BK1368.out 4; obtain ⟨Ao16, co16, eo16⟩ := Kd.R_slice HO1359.out; subst eo16; obtain ⟨Ao17, co17, eo17⟩ := Kd.R_slice HO1362.out; subst eo17; obtain ⟨Ao18, co18, eo18⟩ := Kd.R_slice HO1365.out; subst eo18))
  (try simp only [Act.put, List.setIfInBounds_toArray, List.set_cons_zero, List.set_cons_succ])
  go_cut [32] (fun v32 wc => ∃ (kq : Nat) (x32_4 : Bool), v32 = .bool x32_4 ∧ Aside0 (laws_FnExactParseTask.j0 kq a0 t1354 x32_4 t1343 t1344 t1347 t1350 t1353 t1356 t1357 t1360 t1363 t1366 = some r) ∧ Aside0 (kq ≤ k) ∧ Aside0 (Kd.R k60 60 wc w.heap.size (fun k_ => some k_ ≠ ((.slice Ao10 t1347.length co10) : Value).ownBlock ∧ some k_ ≠ ((.slice Ao16 t1357.length co16) : Value).ownBlock ∧ some k_ ≠ ((.slice Ao17 t1360.length co17) : Value).ownBlock) (.slice Ao9 t1344.length co9) t1344) ∧ Aside0 (Kd.R k60 60 wc w.heap.size (fun k_ => some k_ ≠ ((.slice Ao9 t1344.length co9) : Value).ownBlock ∧ some k_ ≠ ((.slice Ao16 t1357.length co16) : Value).ownBlock ∧ some k_ ≠ ((.slice Ao17 t1360.length co17) : Value).ownBlock) (.slice Ao10 t1347.length co10) t1347) ∧ Aside0 (Kd.R Kd.bool 4 wc w.heap.size (fun k_ => some k_ ≠ ((.slice Ao18 t1363.length co18) : Value).ownBlock) (.slice Ao11 t1350.length co11) t1350) ∧ Aside0 (Kd.R k60 60 wc w.heap.size (fun k_ => some k_ ≠ ((.slice Ao9 t1344.length co9) : Value).ownBlock ∧ some k_ ≠ ((.slice Ao10 t1347.length co10) : Value).ownBlock ∧ some k_ ≠ ((.slice Ao17 t1360.length co17) : Value).ownBlock) (.slice Ao16 t1357.length co16) t1357) ∧ Aside0 (Kd.R k60 60 wc w.heap.size (fun k_ => some k_ ≠ ((.slice Ao9 t1344.length co9) : Value).ownBlock ∧ some k_ ≠ ((.slice Ao10 t1347.length co10) : Value).ownBlock ∧ some k_ ≠ ((.slice Ao16 t1357.length co16) : Value).ownBlock) (.slice Ao17 t1360.length co17) t1360) ∧ Aside0 (Kd.R Kd.bool 4 wc w.heap.size (fun k_ => some k_ ≠ ((.slice Ao11 t1350.length co11) : Value).ownBlock) (.slice Ao18 t1363.length co18) t1363) ∧ Aside0 (wc.heap[gb1355]? = some (.cells #[.int .i64 t1343, (.slice Ao9 t1344.length co9), (.slice Ao10 t1347.length co10), (.slice Ao11 t1350.length co11), .int .i64 t1353] 40 (0, 0))) ∧ Aside0 (wc.heap[gb1368]? = some (.cells #[.int .i64 t1356, (.slice Ao16 t1357.length co16), (.slice Ao17 t1360.length co17), (.slice Ao18 t1363.length co18), .int .i64 t1366] 40 (0, 0))) ∧ Aside0 (Below w.heap.size w wc))
  case first =>
   have H := HC5.out
   clear HC5
   replace H := Option.bind_eq_some_iff.mp H
   obtain ⟨t1369, A190, H⟩ := H
   have A19 := Aside0.mk A190
   clear A190
   by_cases c20 : t1369 = true
   ·subst c20
    rw [if_pos rfl] at H
    have H' := Aside0.mk H
    clear H
    have hnb21 := NB1368_1355.out
    have hnc21 := NB1355_1368.out
    have hcz22_0 : w13.cell? ⟨gb1368, 0, none⟩ = some (.int .i64 0) := (blk_cell BK1368.out 0).trans rfl
    have hcz22_1 : w13.cell? ⟨gb1368, 1, none⟩ = some (.slice none 0 0) := (blk_cell BK1368.out 1).trans rfl
    have hcz22_2 : w13.cell? ⟨gb1368, 2, none⟩ = some (.slice none 0 0) := (blk_cell BK1368.out 2).trans rfl
    have hcz22_3 : w13.cell? ⟨gb1368, 3, none⟩ = some (.slice none 0 0) := (blk_cell BK1368.out 3).trans rfl
    have hcz22_4 : w13.cell? ⟨gb1368, 4, none⟩ = some (.int .i64 0) := (blk_cell BK1368.out 4).trans rfl
    have hfz22_0 := blk_frozen BK1368.out 0
    have hfz22_1 := blk_frozen BK1368.out 1
    have hfz22_2 := blk_frozen BK1368.out 2
    have hfz22_3 := blk_frozen BK1368.out 3
    have hfz22_4 := blk_frozen BK1368.out 4
    have hcz23_0 : w13.cell? ⟨gb1355, 0, none⟩ = some (.int .i64 t1343) := (blk_cell BK1355.out 0).trans rfl
    have hcz23_1 : w13.cell? ⟨gb1355, 1, none⟩ = some (.slice Ao9 t1344.length co9) := (blk_cell BK1355.out 1).trans rfl
    have hcz23_2 : w13.cell? ⟨gb1355, 2, none⟩ = some (.slice Ao10 t1347.length co10) := (blk_cell BK1355.out 2).trans rfl
    have hcz23_3 : w13.cell? ⟨gb1355, 3, none⟩ = some (.slice Ao11 t1350.length co11) := (blk_cell BK1355.out 3).trans rfl
    have hcz23_4 : w13.cell? ⟨gb1355, 4, none⟩ = some (.int .i64 t1353) := (blk_cell BK1355.out 4).trans rfl
    have hfz23_0 := blk_frozen BK1355.out 0
    have hfz23_1 := blk_frozen BK1355.out 1
    have hfz23_2 := blk_frozen BK1355.out 2
    have hfz23_3 := blk_frozen BK1355.out 3
    have hfz23_4 := blk_frozen BK1355.out 4
    go_wp2_with (((with_reducible refine gate_callee (f := 42) rfl ?_); refine goesL_ (some 26) rfl rfl Try.func42 (by kernel_rfl) rfl #[.agg #[.int .i64 t1356, .slice Ao16 t1357.length co16, .slice Ao17 t1360.length co17, .slice Ao18 t1363.length co18, .int .i64 t1366], .agg #[.int .i64 t1343, .slice Ao9 t1344.length co9, .slice Ao10 t1347.length co10, .slice Ao11 t1350.length co11, .int .i64 t1353]] rfl (by (try simp only [List.map_toArray, List.map_cons, List.map_nil]); rfl) ?_; (with_reducible refine (laws_eqTask.calls k t1356 _ _ t1357 _ _ t1360 _ _ t1363 t1366 t1343 _ _ t1344 _ _ t1347 _ _ t1350 t1353 true _ ?side1 ?side2 ?side3 ?side4 ?side5 ?side6 ?side7 ?side8 ?side9 ?side10 ?side11 ?side12 A19.out).mono ?_); (case side1 => refine (Kd.R_reads' (e := 60) (base := w.heap.size) (ok := fun k_ => ((some k_ ≠ (.slice Ao17 t1360.length co17 : Value).ownBlock ∧ some k_ ≠ (.slice Ao9 t1344.length co9 : Value).ownBlock) ∧ some k_ ≠ (.slice Ao10 t1347.length co10 : Value).ownBlock)) (n := t1357.length) (c := co16) ?_).2.2; exact (by exact (Kd.R_mono (Kd.R_far (p := ⟨gb1368, 4, none⟩) (Kd.R_far (p := ⟨gb1368, 3, none⟩) (Kd.R_far (p := ⟨gb1368, 2, none⟩) (Kd.R_far (p := ⟨gb1368, 1, none⟩) (Kd.R_far (p := ⟨gb1368, 0, none⟩) (Kd.R_types HO1359.out BK1368.out (by decide)) (fun _ hk => hk.2) (.int .i64 t1356)) (fun _ hk => hk.2) (.slice Ao16 t1357.length co16)) (fun _ hk => hk.2) (.slice Ao17 t1360.length co17)) (fun _ hk => hk.2) (.slice Ao18 t1363.length co18)) (fun _ hk => hk.2) (.int .i64 t1366)) (fun _ h_ => h_.1)))); (case side2 => exact (Kd.R_reads' HO1359.out).2.1); (case side3 => refine (Kd.R_reads' (e := 60) (base := w.heap.size) (ok := fun k_ => ((some k_ ≠ (.slice Ao16 t1357.length co16 : Value).ownBlock ∧ some k_ ≠ (.slice Ao9 t1344.length co9 : Value).ownBlock) ∧ some k_ ≠ (.slice Ao10 t1347.length co10 : Value).ownBlock)) (n := t1360.length) (c := co17) ?_).2.2; exact (by exact (Kd.R_mono (Kd.R_far (p := ⟨gb1368, 4, none⟩) (Kd.R_far (p := ⟨gb1368, 3, none⟩) (Kd.R_far (p := ⟨gb1368, 2, none⟩) (Kd.R_far (p := ⟨gb1368, 1, none⟩) (Kd.R_far (p := ⟨gb1368, 0, none⟩) (Kd.R_types HO1362.out BK1368.out (by decide)) (fun _ hk => hk.2) (.int .i64 t1356)) (fun _ hk => hk.2) (.slice Ao16 t1357.length co16)) (fun _ hk => hk.2) (.slice Ao17 t1360.length co17)) (fun _ hk => hk.2) (.slice Ao18 t1363.length co18)) (fun _ hk => hk.2) (.int .i64 t1366)) (fun _ h_ => h_.1)))); (case side4 => exact (Kd.R_reads' HO1362.out).2.1); (case side5 => refine (Kd.R_reads' (e := 4) (base := w.heap.size) (ok := fun k_ => (True ∧ some k_ ≠ (.slice Ao11 t1350.length co11 : Value).ownBlock)) (n := t1363.length) (c := co18) ?_).2.2; exact (by exact (Kd.R_mono (Kd.R_far (p := ⟨gb1368, 4, none⟩) (Kd.R_far (p := ⟨gb1368, 3, none⟩) (Kd.R_far (p := ⟨gb1368, 2, none⟩) (Kd.R_far (p := ⟨gb1368, 1, none⟩) (Kd.R_far (p := ⟨gb1368, 0, none⟩) (Kd.R_types HO1365.out BK1368.out (by decide)) (fun _ hk => hk.2) (.int .i64 t1356)) (fun _ hk => hk.2) (.slice Ao16 t1357.length co16)) (fun _ hk => hk.2) (.slice Ao17 t1360.length co17)) (fun _ hk => hk.2) (.slice Ao18 t1363.length co18)) (fun _ hk => hk.2) (.int .i64 t1366)) (fun _ h_ => h_.1)))); (case side6 => exact (Kd.R_reads' HO1365.out).2.1); (case side7 => refine (Kd.R_reads' (e := 60) (base := w.heap.size) (ok := fun k_ => ((some k_ ≠ (.slice Ao10 t1347.length co10 : Value).ownBlock ∧ some k_ ≠ (.slice Ao16 t1357.length co16 : Value).ownBlock) ∧ some k_ ≠ (.slice Ao17 t1360.length co17 : Value).ownBlock)) (n := t1344.length) (c := co9) ?_).2.2; exact (by exact (Kd.R_mono (Kd.R_far (p := ⟨gb1368, 4, none⟩) (Kd.R_far (p := ⟨gb1368, 3, none⟩) (Kd.R_far (p := ⟨gb1368, 2, none⟩) (Kd.R_far (p := ⟨gb1368, 1, none⟩) (Kd.R_far (p := ⟨gb1368, 0, none⟩) (Kd.R_types HO1346.out BK1368.out (by decide)) (fun _ hk => hk.2) (.int .i64 t1356)) (fun _ hk => hk.2) (.slice Ao16 t1357.length co16)) (fun _ hk => hk.2) (.slice Ao17 t1360.length co17)) (fun _ hk => hk.2) (.slice Ao18 t1363.length co18)) (fun _ hk => hk.2) (.int .i64 t1366)) (fun _ h_ => h_.1)))); (case side8 => exact (Kd.R_reads' HO1346.out).2.1); (case side9 => refine (Kd.R_reads' (e := 60) (base := w.heap.size) (ok := fun k_ => ((some k_ ≠ (.slice Ao9 t1344.length co9 : Value).ownBlock ∧ some k_ ≠ (.slice Ao16 t1357.length co16 : Value).ownBlock) ∧ some k_ ≠ (.slice Ao17 t1360.length co17 : Value).ownBlock)) (n := t1347.length) (c := co10) ?_).2.2; exact (by exact (Kd.R_mono (Kd.R_far (p := ⟨gb1368, 4, none⟩) (Kd.R_far (p := ⟨gb1368, 3, none⟩) (Kd.R_far (p := ⟨gb1368, 2, none⟩) (Kd.R_far (p := ⟨gb1368, 1, none⟩) (Kd.R_far (p := ⟨gb1368, 0, none⟩) (Kd.R_types HO1349.out BK1368.out (by decide)) (fun _ hk => hk.2) (.int .i64 t1356)) (fun _ hk => hk.2) (.slice Ao16 t1357.length co16)) (fun _ hk => hk.2) (.slice Ao17 t1360.length co17)) (fun _ hk => hk.2) (.slice Ao18 t1363.length co18)) (fun _ hk => hk.2) (.int .i64 t1366)) (fun _ h_ => h_.1)))); (case side10 => exact (Kd.R_reads' HO1349.out).2.1); (case side11 => refine (Kd.R_reads' (e := 4) (base := w.heap.size) (ok := fun k_ => (True ∧ some k_ ≠ (.slice Ao18 t1363.length co18 : Value).ownBlock)) (n := t1350.length) (c := co11) ?_).2.2; exact (by exact (Kd.R_mono (Kd.R_far (p := ⟨gb1368, 4, none⟩) (Kd.R_far (p := ⟨gb1368, 3, none⟩) (Kd.R_far (p := ⟨gb1368, 2, none⟩) (Kd.R_far (p := ⟨gb1368, 1, none⟩) (Kd.R_far (p := ⟨gb1368, 0, none⟩) (Kd.R_types HO1352.out BK1368.out (by decide)) (fun _ hk => hk.2) (.int .i64 t1356)) (fun _ hk => hk.2) (.slice Ao16 t1357.length co16)) (fun _ hk => hk.2) (.slice Ao17 t1360.length co17)) (fun _ hk => hk.2) (.slice Ao18 t1363.length co18)) (fun _ hk => hk.2) (.int .i64 t1366)) (fun _ h_ => h_.1)))); (case side12 => exact (Kd.R_reads' HO1352.out).2.1); rintro e w24 ⟨rfl, hb⟩; refine ⟨_, rfl, ?_⟩; have n0_ := Aside0.mk (Kd.R_below (by exact (Kd.R_mono (Kd.R_far (p := ⟨gb1368, 4, none⟩) (Kd.R_far (p := ⟨gb1368, 3, none⟩) (Kd.R_far (p := ⟨gb1368, 2, none⟩) (Kd.R_far (p := ⟨gb1368, 1, none⟩) (Kd.R_far (p := ⟨gb1368, 0, none⟩) (Kd.R_types HO1346.out BK1368.out (by decide)) (fun _ hk => hk.2) (.int .i64 t1356)) (fun _ hk => hk.2) (.slice Ao16 t1357.length co16)) (fun _ hk => hk.2) (.slice Ao17 t1360.length co17)) (fun _ hk => hk.2) (.slice Ao18 t1363.length co18)) (fun _ hk => hk.2) (.int .i64 t1366)) (fun _ h_ => h_.1))) hb); have n1_ := Aside0.mk (Kd.R_below (by exact (Kd.R_mono (Kd.R_far (p := ⟨gb1368, 4, none⟩) (Kd.R_far (p := ⟨gb1368, 3, none⟩) (Kd.R_far (p := ⟨gb1368, 2, none⟩) (Kd.R_far (p := ⟨gb1368, 1, none⟩) (Kd.R_far (p := ⟨gb1368, 0, none⟩) (Kd.R_types HO1349.out BK1368.out (by decide)) (fun _ hk => hk.2) (.int .i64 t1356)) (fun _ hk => hk.2) (.slice Ao16 t1357.length co16)) (fun _ hk => hk.2) (.slice Ao17 t1360.length co17)) (fun _ hk => hk.2) (.slice Ao18 t1363.length co18)) (fun _ hk => hk.2) (.int .i64 t1366)) (fun _ h_ => h_.1))) hb); have n2_ := Aside0.mk (Kd.R_below (by exact (Kd.R_mono (Kd.R_far (p := ⟨gb1368, 4, none⟩) (Kd.R_far (p := ⟨gb1368, 3, none⟩) (Kd.R_far (p := ⟨gb1368, 2, none⟩) (Kd.R_far (p := ⟨gb1368, 1, none⟩) (Kd.R_far (p := ⟨gb1368, 0, none⟩) (Kd.R_types HO1352.out BK1368.out (by decide)) (fun _ hk => hk.2) (.int .i64 t1356)) (fun _ hk => hk.2) (.slice Ao16 t1357.length co16)) (fun _ hk => hk.2) (.slice Ao17 t1360.length co17)) (fun _ hk => hk.2) (.slice Ao18 t1363.length co18)) (fun _ hk => hk.2) (.int .i64 t1366)) (fun _ h_ => h_.1))) hb); have n3_ := Aside0.mk (Kd.R_below (by exact (Kd.R_mono (Kd.R_far (p := ⟨gb1368, 4, none⟩) (Kd.R_far (p := ⟨gb1368, 3, none⟩) (Kd.R_far (p := ⟨gb1368, 2, none⟩) (Kd.R_far (p := ⟨gb1368, 1, none⟩) (Kd.R_far (p := ⟨gb1368, 0, none⟩) (Kd.R_types HO1359.out BK1368.out (by decide)) (fun _ hk => hk.2) (.int .i64 t1356)) (fun _ hk => hk.2) (.slice Ao16 t1357.length co16)) (fun _ hk => hk.2) (.slice Ao17 t1360.length co17)) (fun _ hk => hk.2) (.slice Ao18 t1363.length co18)) (fun _ hk => hk.2) (.int .i64 t1366)) (fun _ h_ => h_.1))) hb); have n4_ := Aside0.mk (Kd.R_below (by exact (Kd.R_mono (Kd.R_far (p := ⟨gb1368, 4, none⟩) (Kd.R_far (p := ⟨gb1368, 3, none⟩) (Kd.R_far (p := ⟨gb1368, 2, none⟩) (Kd.R_far (p := ⟨gb1368, 1, none⟩) (Kd.R_far (p := ⟨gb1368, 0, none⟩) (Kd.R_types HO1362.out BK1368.out (by decide)) (fun _ hk => hk.2) (.int .i64 t1356)) (fun _ hk => hk.2) (.slice Ao16 t1357.length co16)) (fun _ hk => hk.2) (.slice Ao17 t1360.length co17)) (fun _ hk => hk.2) (.slice Ao18 t1363.length co18)) (fun _ hk => hk.2) (.int .i64 t1366)) (fun _ h_ => h_.1))) hb); have n5_ := Aside0.mk (Kd.R_below (by exact (Kd.R_mono (Kd.R_far (p := ⟨gb1368, 4, none⟩) (Kd.R_far (p := ⟨gb1368, 3, none⟩) (Kd.R_far (p := ⟨gb1368, 2, none⟩) (Kd.R_far (p := ⟨gb1368, 1, none⟩) (Kd.R_far (p := ⟨gb1368, 0, none⟩) (Kd.R_types HO1365.out BK1368.out (by decide)) (fun _ hk => hk.2) (.int .i64 t1356)) (fun _ hk => hk.2) (.slice Ao16 t1357.length co16)) (fun _ hk => hk.2) (.slice Ao17 t1360.length co17)) (fun _ hk => hk.2) (.slice Ao18 t1363.length co18)) (fun _ hk => hk.2) (.int .i64 t1366)) (fun _ h_ => h_.1))) hb); have n6_ := Aside0.mk (blk_below (g := gb1355) (o := .cells #[.int .i64 t1343, .slice Ao9 t1344.length co9, .slice Ao10 t1347.length co10, .slice Ao11 t1350.length co11, .int .i64 t1353] 40 (0, 0)) (by refine blk_far ?_ NB1355_1368.out _; refine blk_far ?_ NB1355_1368.out _; refine blk_far ?_ NB1355_1368.out _; refine blk_far ?_ NB1355_1368.out _; refine blk_far ?_ NB1355_1368.out _; exact BK1355.out) hb); have n7_ := Aside0.mk (blk_below (g := gb1368) (o := .cells #[.int .i64 t1356, .slice Ao16 t1357.length co16, .slice Ao17 t1360.length co17, .slice Ao18 t1363.length co18, .int .i64 t1366] 40 (0, 0)) (by refine blk_put (cs := #[.int .i64 t1356, .slice Ao16 t1357.length co16, .slice Ao17 t1360.length co17, .slice Ao18 t1363.length co18, .int .i64 0]) ?_ 4 _ rfl; refine blk_put (cs := #[.int .i64 t1356, .slice Ao16 t1357.length co16, .slice Ao17 t1360.length co17, .slice none 0 0, .int .i64 0]) ?_ 3 _ rfl; refine blk_put (cs := #[.int .i64 t1356, .slice Ao16 t1357.length co16, .slice none 0 0, .slice none 0 0, .int .i64 0]) ?_ 2 _ rfl; refine blk_put (cs := #[.int .i64 t1356, .slice none 0 0, .slice none 0 0, .slice none 0 0, .int .i64 0]) ?_ 1 _ rfl; refine blk_put (cs := #[.int .i64 0, .slice none 0 0, .slice none 0 0, .slice none 0 0, .int .i64 0]) ?_ 0 _ rfl; exact BK1368.out) hb); have n8_ := Aside0.mk (below_step (by repeat (with_reducible first | exact HB.out | refine below_set ?_ GE1368.out)) hb); clear HO1346; clear HO1349; clear HO1352; clear HO1359; clear HO1362; clear HO1365; clear BK1355; clear BK1368; clear HB; have HO1346 := n0_; have HO1349 := n1_; have HO1352 := n2_; have HO1359 := n3_; have HO1362 := n4_; have HO1365 := n5_; have BK1355 := n6_; have BK1368 := n7_; have HB := n8_; clear n0_ n1_ n2_ n3_ n4_ n5_ n6_ n7_ n8_; (try clear hb); (try clear hb2); (try clear hk); (try clear hi)))
    go_meet
    case rel => exact ⟨_, ((t1367 != t1354)), rfl, H', ⟨by omega⟩, ⟨by exact Kd.R_mono HO1346.out (fun _ hk => ⟨hk.1.1, ⟨hk.1.2, hk.2⟩⟩)⟩, ⟨by exact Kd.R_mono HO1349.out (fun _ hk => ⟨hk.1.1, ⟨hk.1.2, hk.2⟩⟩)⟩, ⟨by exact Kd.R_mono HO1352.out (fun _ hk => hk.2)⟩, ⟨by exact Kd.R_mono HO1359.out (fun _ hk => ⟨hk.1.2, ⟨hk.2, hk.1.1⟩⟩)⟩, ⟨by exact Kd.R_mono HO1362.out (fun _ hk => ⟨hk.1.2, ⟨hk.2, hk.1.1⟩⟩)⟩, ⟨by exact Kd.R_mono HO1365.out (fun _ hk => hk.2)⟩, ⟨BK1355.out⟩, ⟨BK1368.out⟩, ⟨HB.out⟩⟩
   ·replace c20 := Bool.eq_false_iff.mpr c20
    subst c20
    rw [if_neg (show ¬ (false = true) by decide)] at H
    have H' := Aside0.mk H
    clear H
    have hnb25 := NB1368_1355.out
    have hnc25 := NB1355_1368.out
    have hcz26_0 : w13.cell? ⟨gb1368, 0, none⟩ = some (.int .i64 0) := (blk_cell BK1368.out 0).trans rfl
    have hcz26_1 : w13.cell? ⟨gb1368, 1, none⟩ = some (.slice none 0 0) := (blk_cell BK1368.out 1).trans rfl
    have hcz26_2 : w13.cell? ⟨gb1368, 2, none⟩ = some (.slice none 0 0) := (blk_cell BK1368.out 2).trans rfl
    have hcz26_3 : w13.cell? ⟨gb1368, 3, none⟩ = some (.slice none 0 0) := (blk_cell BK1368.out 3).trans rfl
    have hcz26_4 : w13.cell? ⟨gb1368, 4, none⟩ = some (.int .i64 0) := (blk_cell BK1368.out 4).trans rfl
    have hfz26_0 := blk_frozen BK1368.out 0
    have hfz26_1 := blk_frozen BK1368.out 1
    have hfz26_2 := blk_frozen BK1368.out 2
    have hfz26_3 := blk_frozen BK1368.out 3
    have hfz26_4 := blk_frozen BK1368.out 4
    have hcz27_0 : w13.cell? ⟨gb1355, 0, none⟩ = some (.int .i64 t1343) := (blk_cell BK1355.out 0).trans rfl
    have hcz27_1 : w13.cell? ⟨gb1355, 1, none⟩ = some (.slice Ao9 t1344.length co9) := (blk_cell BK1355.out 1).trans rfl
    have hcz27_2 : w13.cell? ⟨gb1355, 2, none⟩ = some (.slice Ao10 t1347.length co10) := (blk_cell BK1355.out 2).trans rfl
    have hcz27_3 : w13.cell? ⟨gb1355, 3, none⟩ = some (.slice Ao11 t1350.length co11) := (blk_cell BK1355.out 3).trans rfl
    have hcz27_4 : w13.cell? ⟨gb1355, 4, none⟩ = some (.int .i64 t1353) := (blk_cell BK1355.out 4).trans rfl
    have hfz27_0 := blk_frozen BK1355.out 0
    have hfz27_1 := blk_frozen BK1355.out 1
    have hfz27_2 := blk_frozen BK1355.out 2
    have hfz27_3 := blk_frozen BK1355.out 3
    have hfz27_4 := blk_frozen BK1355.out 4
    go_wp2_with (((with_reducible refine gate_callee (f := 42) rfl ?_); refine goesL_ (some 26) rfl rfl Try.func42 (by kernel_rfl) rfl #[.agg #[.int .i64 t1356, .slice Ao16 t1357.length co16, .slice Ao17 t1360.length co17, .slice Ao18 t1363.length co18, .int .i64 t1366], .agg #[.int .i64 t1343, .slice Ao9 t1344.length co9, .slice Ao10 t1347.length co10, .slice Ao11 t1350.length co11, .int .i64 t1353]] rfl (by (try simp only [List.map_toArray, List.map_cons, List.map_nil]); rfl) ?_; (with_reducible refine (laws_eqTask.calls k t1356 _ _ t1357 _ _ t1360 _ _ t1363 t1366 t1343 _ _ t1344 _ _ t1347 _ _ t1350 t1353 false _ ?side1 ?side2 ?side3 ?side4 ?side5 ?side6 ?side7 ?side8 ?side9 ?side10 ?side11 ?side12 A19.out).mono ?_); (case side1 => refine (Kd.R_reads' (e := 60) (base := w.heap.size) (ok := fun k_ => ((some k_ ≠ (.slice Ao17 t1360.length co17 : Value).ownBlock ∧ some k_ ≠ (.slice Ao9 t1344.length co9 : Value).ownBlock) ∧ some k_ ≠ (.slice Ao10 t1347.length co10 : Value).ownBlock)) (n := t1357.length) (c := co16) ?_).2.2; exact (by exact (Kd.R_mono (Kd.R_far (p := ⟨gb1368, 4, none⟩) (Kd.R_far (p := ⟨gb1368, 3, none⟩) (Kd.R_far (p := ⟨gb1368, 2, none⟩) (Kd.R_far (p := ⟨gb1368, 1, none⟩) (Kd.R_far (p := ⟨gb1368, 0, none⟩) (Kd.R_types HO1359.out BK1368.out (by decide)) (fun _ hk => hk.2) (.int .i64 t1356)) (fun _ hk => hk.2) (.slice Ao16 t1357.length co16)) (fun _ hk => hk.2) (.slice Ao17 t1360.length co17)) (fun _ hk => hk.2) (.slice Ao18 t1363.length co18)) (fun _ hk => hk.2) (.int .i64 t1366)) (fun _ h_ => h_.1)))); (case side2 => exact (Kd.R_reads' HO1359.out).2.1); (case side3 => refine (Kd.R_reads' (e := 60) (base := w.heap.size) (ok := fun k_ => ((some k_ ≠ (.slice Ao16 t1357.length co16 : Value).ownBlock ∧ some k_ ≠ (.slice Ao9 t1344.length co9 : Value).ownBlock) ∧ some k_ ≠ (.slice Ao10 t1347.length co10 : Value).ownBlock)) (n := t1360.length) (c := co17) ?_).2.2; exact (by exact (Kd.R_mono (Kd.R_far (p := ⟨gb1368, 4, none⟩) (Kd.R_far (p := ⟨gb1368, 3, none⟩) (Kd.R_far (p := ⟨gb1368, 2, none⟩) (Kd.R_far (p := ⟨gb1368, 1, none⟩) (Kd.R_far (p := ⟨gb1368, 0, none⟩) (Kd.R_types HO1362.out BK1368.out (by decide)) (fun _ hk => hk.2) (.int .i64 t1356)) (fun _ hk => hk.2) (.slice Ao16 t1357.length co16)) (fun _ hk => hk.2) (.slice Ao17 t1360.length co17)) (fun _ hk => hk.2) (.slice Ao18 t1363.length co18)) (fun _ hk => hk.2) (.int .i64 t1366)) (fun _ h_ => h_.1)))); (case side4 => exact (Kd.R_reads' HO1362.out).2.1); (case side5 => refine (Kd.R_reads' (e := 4) (base := w.heap.size) (ok := fun k_ => (True ∧ some k_ ≠ (.slice Ao11 t1350.length co11 : Value).ownBlock)) (n := t1363.length) (c := co18) ?_).2.2; exact (by exact (Kd.R_mono (Kd.R_far (p := ⟨gb1368, 4, none⟩) (Kd.R_far (p := ⟨gb1368, 3, none⟩) (Kd.R_far (p := ⟨gb1368, 2, none⟩) (Kd.R_far (p := ⟨gb1368, 1, none⟩) (Kd.R_far (p := ⟨gb1368, 0, none⟩) (Kd.R_types HO1365.out BK1368.out (by decide)) (fun _ hk => hk.2) (.int .i64 t1356)) (fun _ hk => hk.2) (.slice Ao16 t1357.length co16)) (fun _ hk => hk.2) (.slice Ao17 t1360.length co17)) (fun _ hk => hk.2) (.slice Ao18 t1363.length co18)) (fun _ hk => hk.2) (.int .i64 t1366)) (fun _ h_ => h_.1)))); (case side6 => exact (Kd.R_reads' HO1365.out).2.1); (case side7 => refine (Kd.R_reads' (e := 60) (base := w.heap.size) (ok := fun k_ => ((some k_ ≠ (.slice Ao10 t1347.length co10 : Value).ownBlock ∧ some k_ ≠ (.slice Ao16 t1357.length co16 : Value).ownBlock) ∧ some k_ ≠ (.slice Ao17 t1360.length co17 : Value).ownBlock)) (n := t1344.length) (c := co9) ?_).2.2; exact (by exact (Kd.R_mono (Kd.R_far (p := ⟨gb1368, 4, none⟩) (Kd.R_far (p := ⟨gb1368, 3, none⟩) (Kd.R_far (p := ⟨gb1368, 2, none⟩) (Kd.R_far (p := ⟨gb1368, 1, none⟩) (Kd.R_far (p := ⟨gb1368, 0, none⟩) (Kd.R_types HO1346.out BK1368.out (by decide)) (fun _ hk => hk.2) (.int .i64 t1356)) (fun _ hk => hk.2) (.slice Ao16 t1357.length co16)) (fun _ hk => hk.2) (.slice Ao17 t1360.length co17)) (fun _ hk => hk.2) (.slice Ao18 t1363.length co18)) (fun _ hk => hk.2) (.int .i64 t1366)) (fun _ h_ => h_.1)))); (case side8 => exact (Kd.R_reads' HO1346.out).2.1); (case side9 => refine (Kd.R_reads' (e := 60) (base := w.heap.size) (ok := fun k_ => ((some k_ ≠ (.slice Ao9 t1344.length co9 : Value).ownBlock ∧ some k_ ≠ (.slice Ao16 t1357.length co16 : Value).ownBlock) ∧ some k_ ≠ (.slice Ao17 t1360.length co17 : Value).ownBlock)) (n := t1347.length) (c := co10) ?_).2.2; exact (by exact (Kd.R_mono (Kd.R_far (p := ⟨gb1368, 4, none⟩) (Kd.R_far (p := ⟨gb1368, 3, none⟩) (Kd.R_far (p := ⟨gb1368, 2, none⟩) (Kd.R_far (p := ⟨gb1368, 1, none⟩) (Kd.R_far (p := ⟨gb1368, 0, none⟩) (Kd.R_types HO1349.out BK1368.out (by decide)) (fun _ hk => hk.2) (.int .i64 t1356)) (fun _ hk => hk.2) (.slice Ao16 t1357.length co16)) (fun _ hk => hk.2) (.slice Ao17 t1360.length co17)) (fun _ hk => hk.2) (.slice Ao18 t1363.length co18)) (fun _ hk => hk.2) (.int .i64 t1366)) (fun _ h_ => h_.1)))); (case side10 => exact (Kd.R_reads' HO1349.out).2.1); (case side11 => refine (Kd.R_reads' (e := 4) (base := w.heap.size) (ok := fun k_ => (True ∧ some k_ ≠ (.slice Ao18 t1363.length co18 : Value).ownBlock)) (n := t1350.length) (c := co11) ?_).2.2; exact (by exact (Kd.R_mono (Kd.R_far (p := ⟨gb1368, 4, none⟩) (Kd.R_far (p := ⟨gb1368, 3, none⟩) (Kd.R_far (p := ⟨gb1368, 2, none⟩) (Kd.R_far (p := ⟨gb1368, 1, none⟩) (Kd.R_far (p := ⟨gb1368, 0, none⟩) (Kd.R_types HO1352.out BK1368.out (by decide)) (fun _ hk => hk.2) (.int .i64 t1356)) (fun _ hk => hk.2) (.slice Ao16 t1357.length co16)) (fun _ hk => hk.2) (.slice Ao17 t1360.length co17)) (fun _ hk => hk.2) (.slice Ao18 t1363.length co18)) (fun _ hk => hk.2) (.int .i64 t1366)) (fun _ h_ => h_.1)))); (case side12 => exact (Kd.R_reads' HO1352.out).2.1); rintro e w28 ⟨rfl, hb⟩; refine ⟨_, rfl, ?_⟩; have n0_ := Aside0.mk (Kd.R_below (by exact (Kd.R_mono (Kd.R_far (p := ⟨gb1368, 4, none⟩) (Kd.R_far (p := ⟨gb1368, 3, none⟩) (Kd.R_far (p := ⟨gb1368, 2, none⟩) (Kd.R_far (p := ⟨gb1368, 1, none⟩) (Kd.R_far (p := ⟨gb1368, 0, none⟩) (Kd.R_types HO1346.out BK1368.out (by decide)) (fun _ hk => hk.2) (.int .i64 t1356)) (fun _ hk => hk.2) (.slice Ao16 t1357.length co16)) (fun _ hk => hk.2) (.slice Ao17 t1360.length co17)) (fun _ hk => hk.2) (.slice Ao18 t1363.length co18)) (fun _ hk => hk.2) (.int .i64 t1366)) (fun _ h_ => h_.1))) hb); have n1_ := Aside0.mk (Kd.R_below (by exact (Kd.R_mono (Kd.R_far (p := ⟨gb1368, 4, none⟩) (Kd.R_far (p := ⟨gb1368, 3, none⟩) (Kd.R_far (p := ⟨gb1368, 2, none⟩) (Kd.R_far (p := ⟨gb1368, 1, none⟩) (Kd.R_far (p := ⟨gb1368, 0, none⟩) (Kd.R_types HO1349.out BK1368.out (by decide)) (fun _ hk => hk.2) (.int .i64 t1356)) (fun _ hk => hk.2) (.slice Ao16 t1357.length co16)) (fun _ hk => hk.2) (.slice Ao17 t1360.length co17)) (fun _ hk => hk.2) (.slice Ao18 t1363.length co18)) (fun _ hk => hk.2) (.int .i64 t1366)) (fun _ h_ => h_.1))) hb); have n2_ := Aside0.mk (Kd.R_below (by exact (Kd.R_mono (Kd.R_far (p := ⟨gb1368, 4, none⟩) (Kd.R_far (p := ⟨gb1368, 3, none⟩) (Kd.R_far (p := ⟨gb1368, 2, none⟩) (Kd.R_far (p := ⟨gb1368, 1, none⟩) (Kd.R_far (p := ⟨gb1368, 0, none⟩) (Kd.R_types HO1352.out BK1368.out (by decide)) (fun _ hk => hk.2) (.int .i64 t1356)) (fun _ hk => hk.2) (.slice Ao16 t1357.length co16)) (fun _ hk => hk.2) (.slice Ao17 t1360.length co17)) (fun _ hk => hk.2) (.slice Ao18 t1363.length co18)) (fun _ hk => hk.2) (.int .i64 t1366)) (fun _ h_ => h_.1))) hb); have n3_ := Aside0.mk (Kd.R_below (by exact (Kd.R_mono (Kd.R_far (p := ⟨gb1368, 4, none⟩) (Kd.R_far (p := ⟨gb1368, 3, none⟩) (Kd.R_far (p := ⟨gb1368, 2, none⟩) (Kd.R_far (p := ⟨gb1368, 1, none⟩) (Kd.R_far (p := ⟨gb1368, 0, none⟩) (Kd.R_types HO1359.out BK1368.out (by decide)) (fun _ hk => hk.2) (.int .i64 t1356)) (fun _ hk => hk.2) (.slice Ao16 t1357.length co16)) (fun _ hk => hk.2) (.slice Ao17 t1360.length co17)) (fun _ hk => hk.2) (.slice Ao18 t1363.length co18)) (fun _ hk => hk.2) (.int .i64 t1366)) (fun _ h_ => h_.1))) hb); have n4_ := Aside0.mk (Kd.R_below (by exact (Kd.R_mono (Kd.R_far (p := ⟨gb1368, 4, none⟩) (Kd.R_far (p := ⟨gb1368, 3, none⟩) (Kd.R_far (p := ⟨gb1368, 2, none⟩) (Kd.R_far (p := ⟨gb1368, 1, none⟩) (Kd.R_far (p := ⟨gb1368, 0, none⟩) (Kd.R_types HO1362.out BK1368.out (by decide)) (fun _ hk => hk.2) (.int .i64 t1356)) (fun _ hk => hk.2) (.slice Ao16 t1357.length co16)) (fun _ hk => hk.2) (.slice Ao17 t1360.length co17)) (fun _ hk => hk.2) (.slice Ao18 t1363.length co18)) (fun _ hk => hk.2) (.int .i64 t1366)) (fun _ h_ => h_.1))) hb); have n5_ := Aside0.mk (Kd.R_below (by exact (Kd.R_mono (Kd.R_far (p := ⟨gb1368, 4, none⟩) (Kd.R_far (p := ⟨gb1368, 3, none⟩) (Kd.R_far (p := ⟨gb1368, 2, none⟩) (Kd.R_far (p := ⟨gb1368, 1, none⟩) (Kd.R_far (p := ⟨gb1368, 0, none⟩) (Kd.R_types HO1365.out BK1368.out (by decide)) (fun _ hk => hk.2) (.int .i64 t1356)) (fun _ hk => hk.2) (.slice Ao16 t1357.length co16)) (fun _ hk => hk.2) (.slice Ao17 t1360.length co17)) (fun _ hk => hk.2) (.slice Ao18 t1363.length co18)) (fun _ hk => hk.2) (.int .i64 t1366)) (fun _ h_ => h_.1))) hb); have n6_ := Aside0.mk (blk_below (g := gb1355) (o := .cells #[.int .i64 t1343, .slice Ao9 t1344.length co9, .slice Ao10 t1347.length co10, .slice Ao11 t1350.length co11, .int .i64 t1353] 40 (0, 0)) (by refine blk_far ?_ NB1355_1368.out _; refine blk_far ?_ NB1355_1368.out _; refine blk_far ?_ NB1355_1368.out _; refine blk_far ?_ NB1355_1368.out _; refine blk_far ?_ NB1355_1368.out _; exact BK1355.out) hb); have n7_ := Aside0.mk (blk_below (g := gb1368) (o := .cells #[.int .i64 t1356, .slice Ao16 t1357.length co16, .slice Ao17 t1360.length co17, .slice Ao18 t1363.length co18, .int .i64 t1366] 40 (0, 0)) (by refine blk_put (cs := #[.int .i64 t1356, .slice Ao16 t1357.length co16, .slice Ao17 t1360.length co17, .slice Ao18 t1363.length co18, .int .i64 0]) ?_ 4 _ rfl; refine blk_put (cs := #[.int .i64 t1356, .slice Ao16 t1357.length co16, .slice Ao17 t1360.length co17, .slice none 0 0, .int .i64 0]) ?_ 3 _ rfl; refine blk_put (cs := #[.int .i64 t1356, .slice Ao16 t1357.length co16, .slice none 0 0, .slice none 0 0, .int .i64 0]) ?_ 2 _ rfl; refine blk_put (cs := #[.int .i64 t1356, .slice none 0 0, .slice none 0 0, .slice none 0 0, .int .i64 0]) ?_ 1 _ rfl; refine blk_put (cs := #[.int .i64 0, .slice none 0 0, .slice none 0 0, .slice none 0 0, .int .i64 0]) ?_ 0 _ rfl; exact BK1368.out) hb); have n8_ := Aside0.mk (below_step (by repeat (with_reducible first | exact HB.out | refine below_set ?_ GE1368.out)) hb); clear HO1346; clear HO1349; clear HO1352; clear HO1359; clear HO1362; clear HO1365; clear BK1355; clear BK1368; clear HB; have HO1346 := n0_; have HO1349 := n1_; have HO1352 := n2_; have HO1359 := n3_; have HO1362 := n4_; have HO1365 := n5_; have BK1355 := n6_; have BK1368 := n7_; have HB := n8_; clear n0_ n1_ n2_ n3_ n4_ n5_ n6_ n7_ n8_; (try clear hb); (try clear hb2); (try clear hk); (try clear hi)))
    go_meet
    case rel => exact ⟨_, (true), rfl, H', ⟨by omega⟩, ⟨by exact Kd.R_mono HO1346.out (fun _ hk => ⟨hk.1.1, ⟨hk.1.2, hk.2⟩⟩)⟩, ⟨by exact Kd.R_mono HO1349.out (fun _ hk => ⟨hk.1.1, ⟨hk.1.2, hk.2⟩⟩)⟩, ⟨by exact Kd.R_mono HO1352.out (fun _ hk => hk.2)⟩, ⟨by exact Kd.R_mono HO1359.out (fun _ hk => ⟨hk.1.2, ⟨hk.2, hk.1.1⟩⟩)⟩, ⟨by exact Kd.R_mono HO1362.out (fun _ hk => ⟨hk.1.2, ⟨hk.2, hk.1.1⟩⟩)⟩, ⟨by exact Kd.R_mono HO1365.out (fun _ hk => hk.2)⟩, ⟨BK1355.out⟩, ⟨BK1368.out⟩, ⟨HB.out⟩⟩
  case rest =>
   clear HC5
   try clear c2b0
   try clear c2b1
   try clear hcz15_0
   try clear hcz15_1
   try clear hcz15_2
   try clear hcz15_3
   try clear hcz15_4
   try clear hcz8_0
   try clear hcz8_1
   try clear hcz8_2
   try clear hcz8_3
   try clear hcz8_4
   try clear hfz15_0
   try clear hfz15_1
   try clear hfz15_2
   try clear hfz15_3
   try clear hfz15_4
   try clear hfz8_0
   try clear hfz8_1
   try clear hfz8_2
   try clear hfz8_3
   try clear hfz8_4
   obtain ⟨kq, x32_4, rfl, HA, HJ4, HO_1356001, HO_1356002, HO_1356003, HO_1369001, HO_1369002, HO_1369003, BK1355, BK1368, HB⟩ := hcut
   cases kq with
   | zero => exact absurd HA.out (by simp [laws_FnExactParseTask.j0])
   | succ kj4 =>
    have H := HA.out
    clear HA
    simp only [laws_FnExactParseTask.j0] at H
    by_cases c29 : x32_4 = true
    ·subst c29
     rw [if_pos rfl] at H
     obtain rfl := Option.some.inj H
     go_wp2
     go_ret
     exact ⟨rfl, HB.out⟩
    ·replace c29 := Bool.eq_false_iff.mpr c29
     subst c29
     rw [if_neg (show ¬ (false = true) by decide)] at H
     replace H := Option.bind_eq_some_iff.mp H
     obtain ⟨⟨t1370, t1371, t1372, t1373⟩, A300, H⟩ := H
     have A30 := Aside0.mk A300
     clear A300
     replace H := Option.bind_eq_some_iff.mp H
     obtain ⟨t1374, A310, H⟩ := H
     have A31 := Aside0.mk A310
     clear A310
     by_cases c32 : t1374 < 0
     ·rw [if_pos c32] at H
      have c32b0 : decide (t1374 < 0) = true := decide_eq_true c32
      clear c32
      obtain rfl := Option.some.inj H
      have hnb33 := NB1368_1355.out
      have hnc33 := NB1355_1368.out
      have hcz34_0 : wc.cell? ⟨gb1368, 0, none⟩ = some (.int .i64 t1356) := (blk_cell BK1368.out 0).trans rfl
      have hcz34_1 : wc.cell? ⟨gb1368, 1, none⟩ = some (.slice Ao16 t1357.length co16) := (blk_cell BK1368.out 1).trans rfl
      have hcz34_2 : wc.cell? ⟨gb1368, 2, none⟩ = some (.slice Ao17 t1360.length co17) := (blk_cell BK1368.out 2).trans rfl
      have hcz34_3 : wc.cell? ⟨gb1368, 3, none⟩ = some (.slice Ao18 t1363.length co18) := (blk_cell BK1368.out 3).trans rfl
      have hcz34_4 : wc.cell? ⟨gb1368, 4, none⟩ = some (.int .i64 t1366) := (blk_cell BK1368.out 4).trans rfl
      have hfz34_0 := blk_frozen BK1368.out 0
      have hfz34_1 := blk_frozen BK1368.out 1
      have hfz34_2 := blk_frozen BK1368.out 2
      have hfz34_3 := blk_frozen BK1368.out 3
      have hfz34_4 := blk_frozen BK1368.out 4
      go_wp2_with (first | ((with_reducible refine gate_callee (f := 43) rfl ?_); refine goesL_ (some 35) rfl rfl Try.func43 (by kernel_rfl) rfl #[.agg #[.int .i64 t1356, .slice Ao16 t1357.length co16, .slice Ao17 t1360.length co17, .slice Ao18 t1363.length co18, .int .i64 t1366], .int .i64 1] rfl (by (try simp only [List.map_toArray, List.map_cons, List.map_nil]); rfl) ?_; (with_reducible refine (laws_markTask.calls kj4 t1356 (fun k_ => some k_ = (.slice Ao16 t1357.length co16 : Value).ownBlock) (.slice Ao16 t1357.length co16) t1357 (fun k_ => some k_ = (.slice Ao17 t1360.length co17 : Value).ownBlock) (.slice Ao17 t1360.length co17) t1360 (fun k_ => some k_ = (.slice Ao18 t1363.length co18 : Value).ownBlock) (.slice Ao18 t1363.length co18) t1363 t1366 1 t1370 t1371 t1372 t1373 w _ ?side1 ?side2 ?side3 ?side4 ?side5 ?side6 A30.out).mono ?_); (case side1 => repeat (with_reducible exact HB.out)); (case side2 => exact Kd.R_tight rfl HO_1369001.out); (case side3 => exact fun k_ e_ => (HO_1369001.out.1 k_ e_.symm).2.2); (case side4 => exact Kd.R_tight rfl HO_1369002.out); (case side5 => exact fun k_ e_ => (HO_1369002.out.1 k_ e_.symm).2.2); (case side6 => exact Kd.R_tight rfl HO_1369003.out); rintro e w35 ⟨rfl, hy0, hy1, hy2, hb, hkp⟩; refine ⟨_, rfl, ?_⟩; have n0_ := Aside0.mk (Kd.R_mono (ok' := fun k_ => some k_ ≠ (.slice Ao10 t1347.length co10 : Value).ownBlock ∧ some k_ ≠ (.slice Ao16 t1357.length co16 : Value).ownBlock ∧ some k_ ≠ (.slice Ao17 t1360.length co17 : Value).ownBlock) (Kd.R_keptB ((Kd.R_apart' HO_1356001.out (Kd.R_typed HO_1369003.out) (by decide))) hkp (fun k_ hk_ hs_ => Or.elim hs_ (fun e_ => (hk_.1.2.1) e_) (fun e_ => Or.elim e_ (fun e_ => (hk_.1.2.2) e_) (fun e_ => (hk_.2) e_)))) (fun k_ hk_ => ⟨hk_.1.1.1, hk_.1.1.2.1, hk_.1.1.2.2⟩)); have n1_ := Aside0.mk (Kd.R_mono (ok' := fun k_ => some k_ ≠ (.slice Ao9 t1344.length co9 : Value).ownBlock ∧ some k_ ≠ (.slice Ao16 t1357.length co16 : Value).ownBlock ∧ some k_ ≠ (.slice Ao17 t1360.length co17 : Value).ownBlock) (Kd.R_keptB ((Kd.R_apart' HO_1356002.out (Kd.R_typed HO_1369003.out) (by decide))) hkp (fun k_ hk_ hs_ => Or.elim hs_ (fun e_ => (hk_.1.2.1) e_) (fun e_ => Or.elim e_ (fun e_ => (hk_.1.2.2) e_) (fun e_ => (hk_.2) e_)))) (fun k_ hk_ => ⟨hk_.1.1.1, hk_.1.1.2.1, hk_.1.1.2.2⟩)); have n2_ := Aside0.mk (Kd.R_mono (ok' := fun k_ => some k_ ≠ (.slice Ao18 t1363.length co18 : Value).ownBlock) (Kd.R_keptB ((Kd.R_apart' (Kd.R_apart' HO_1356003.out (Kd.R_typed HO_1369001.out) (by decide)) (Kd.R_typed HO_1369002.out) (by decide))) hkp (fun k_ hk_ hs_ => Or.elim hs_ (fun e_ => (hk_.1.2) e_) (fun e_ => Or.elim e_ (fun e_ => (hk_.2) e_) (fun e_ => (hk_.1.1) e_)))) (fun k_ hk_ => hk_.1.1.1)); have n3_ := Aside0.mk (Kd.R_reok rfl hy0 (fun k_ e_ => HO_1369001.out.1 k_ e_)); have n4_ := Aside0.mk (Kd.R_reok rfl hy1 (fun k_ e_ => HO_1369002.out.1 k_ e_)); have n5_ := Aside0.mk (Kd.R_reok rfl hy2 (fun k_ e_ => HO_1369003.out.1 k_ e_)); have n6_ := Aside0.mk (blk_kept BK1355.out hkp (fun hs_ => Or.elim hs_ (fun e_ => (fun e_ => (Kd.R_ne HO_1369001.out BK1355.out (by decide)) e_) e_) (fun e_ => Or.elim e_ (fun e_ => (fun e_ => (Kd.R_ne HO_1369002.out BK1355.out (by decide)) e_) e_) (fun e_ => (fun e_ => (Kd.R_ne HO_1369003.out BK1355.out (by decide)) e_) e_)))); have n7_ := Aside0.mk (blk_kept BK1368.out hkp (fun hs_ => Or.elim hs_ (fun e_ => (fun e_ => (Kd.R_ne HO_1369001.out BK1368.out (by decide)) e_) e_) (fun e_ => Or.elim e_ (fun e_ => (fun e_ => (Kd.R_ne HO_1369002.out BK1368.out (by decide)) e_) e_) (fun e_ => (fun e_ => (Kd.R_ne HO_1369003.out BK1368.out (by decide)) e_) e_)))); have n8_ := Aside0.mk (hb); clear HO_1356001; clear HO_1356002; clear HO_1356003; clear HO_1369001; clear HO_1369002; clear HO_1369003; clear BK1355; clear BK1368; clear HB; have HO_1356001 := n0_; have HO_1356002 := n1_; have HO_1356003 := n2_; have HO_1369001 := n3_; have HO_1369002 := n4_; have HO_1369003 := n5_; have BK1355 := n6_; have BK1368 := n7_; have HB := n8_; clear n0_ n1_ n2_ n3_ n4_ n5_ n6_ n7_ n8_; (try clear hb); (try clear hkp); (try clear hy0); (try clear hy1); (try clear hy2); have hcz36_0 : w35.cell? ⟨gb1368, 0, none⟩ = some (.int .i64 t1356) := (blk_cell BK1368.out 0).trans rfl; have hcz36_1 : w35.cell? ⟨gb1368, 1, none⟩ = some (.slice Ao16 t1357.length co16) := (blk_cell BK1368.out 1).trans rfl; have hcz36_2 : w35.cell? ⟨gb1368, 2, none⟩ = some (.slice Ao17 t1360.length co17) := (blk_cell BK1368.out 2).trans rfl; have hcz36_3 : w35.cell? ⟨gb1368, 3, none⟩ = some (.slice Ao18 t1363.length co18) := (blk_cell BK1368.out 3).trans rfl; have hcz36_4 : w35.cell? ⟨gb1368, 4, none⟩ = some (.int .i64 t1366) := (blk_cell BK1368.out 4).trans rfl; have hfz36_0 := blk_frozen BK1368.out 0; have hfz36_1 := blk_frozen BK1368.out 1; have hfz36_2 := blk_frozen BK1368.out 2; have hfz36_3 := blk_frozen BK1368.out 3; have hfz36_4 := blk_frozen BK1368.out 4) | ((with_reducible refine gate_callee (f := 44) rfl ?_); refine goesL_ (some 38) rfl rfl Try.func44 (by kernel_rfl) rfl #[.agg #[.int .i64 t1356, .slice Ao16 t1371.length co16, .slice Ao17 t1372.length co17, .slice Ao18 t1373.length co18, .int .i64 t1366], .int .i64 1] rfl (by (try simp only [List.map_toArray, List.map_cons, List.map_nil]); (rw [show t1371.length = t1357.length from (Kd.R_reads' HO_1369001.out).1.symm, show t1372.length = t1360.length from (Kd.R_reads' HO_1369002.out).1.symm, show t1373.length = t1363.length from (Kd.R_reads' HO_1369003.out).1.symm] <;> rfl)) ?_; (with_reducible refine (laws_heldTask.calls kj4 t1356 _ _ t1371 _ _ t1372 _ _ t1373 t1366 1 t1374 _ ?side1 ?side2 ?side3 ?side4 ?side5 ?side6 A31.out).mono ?_); (case side1 => repeat (exact (Kd.R_reads' HO_1369001.out).2.2)); (case side2 => rw [show t1371.length = t1357.length from (Kd.R_reads' HO_1369001.out).1.symm]; exact (Kd.R_reads' HO_1369001.out).2.1); (case side3 => repeat (exact (Kd.R_reads' HO_1369002.out).2.2)); (case side4 => rw [show t1372.length = t1360.length from (Kd.R_reads' HO_1369002.out).1.symm]; exact (Kd.R_reads' HO_1369002.out).2.1); (case side5 => repeat (exact (Kd.R_reads' HO_1369003.out).2.2)); (case side6 => rw [show t1373.length = t1363.length from (Kd.R_reads' HO_1369003.out).1.symm]; exact (Kd.R_reads' HO_1369003.out).2.1); rintro e w37 ⟨rfl, hb⟩; refine ⟨_, rfl, ?_⟩; have n0_ := Aside0.mk (Kd.R_below HO_1356001.out hb); have n1_ := Aside0.mk (Kd.R_below HO_1356002.out hb); have n2_ := Aside0.mk (Kd.R_below HO_1356003.out hb); have n3_ := Aside0.mk (Kd.R_below HO_1369001.out hb); have n4_ := Aside0.mk (Kd.R_below HO_1369002.out hb); have n5_ := Aside0.mk (Kd.R_below HO_1369003.out hb); have n6_ := Aside0.mk (blk_below (g := gb1355) (o := .cells #[.int .i64 t1343, .slice Ao9 t1344.length co9, .slice Ao10 t1347.length co10, .slice Ao11 t1350.length co11, .int .i64 t1353] 40 (0, 0)) BK1355.out hb); have n7_ := Aside0.mk (blk_below (g := gb1368) (o := .cells #[.int .i64 t1356, .slice Ao16 t1357.length co16, .slice Ao17 t1360.length co17, .slice Ao18 t1363.length co18, .int .i64 t1366] 40 (0, 0)) BK1368.out hb); have n8_ := Aside0.mk (below_step HB.out hb); clear HO_1356001; clear HO_1356002; clear HO_1356003; clear HO_1369001; clear HO_1369002; clear HO_1369003; clear BK1355; clear BK1368; clear HB; have HO_1356001 := n0_; have HO_1356002 := n1_; have HO_1356003 := n2_; have HO_1369001 := n3_; have HO_1369002 := n4_; have HO_1369003 := n5_; have BK1355 := n6_; have BK1368 := n7_; have HB := n8_; clear n0_ n1_ n2_ n3_ n4_ n5_ n6_ n7_ n8_; (try clear hb); (try clear hb2); (try clear hk); (try clear hi)))
      go_ret
      exact ⟨rfl, HB.out⟩
     ·rw [if_neg c32] at H
      have c32b0 : decide (t1374 < 0) = false := decide_eq_false c32
      clear c32
      by_cases c38 : t1374 = t1370
      ·rw [if_pos c38] at H
       have c38b0 : (t1374 == t1370) = true := beq_iff_eq.mpr c38
       have c38b1 : (t1374 != t1370) = false := bne_eq_false_iff_eq.mpr c38
       clear c38
       replace H := Option.bind_eq_some_iff.mp H
       obtain ⟨⟨t1375, t1376, t1379, t1382, t1385, t1386⟩, A390, H⟩ := H
       have A39 := Aside0.mk A390
       clear A390
       have HC40 := Aside0.mk H
       clear H
       have hnb41 := NB1368_1355.out
       have hnc41 := NB1355_1368.out
       have hcz42_0 : wc.cell? ⟨gb1368, 0, none⟩ = some (.int .i64 t1356) := (blk_cell BK1368.out 0).trans rfl
       have hcz42_1 : wc.cell? ⟨gb1368, 1, none⟩ = some (.slice Ao16 t1357.length co16) := (blk_cell BK1368.out 1).trans rfl
       have hcz42_2 : wc.cell? ⟨gb1368, 2, none⟩ = some (.slice Ao17 t1360.length co17) := (blk_cell BK1368.out 2).trans rfl
       have hcz42_3 : wc.cell? ⟨gb1368, 3, none⟩ = some (.slice Ao18 t1363.length co18) := (blk_cell BK1368.out 3).trans rfl
       have hcz42_4 : wc.cell? ⟨gb1368, 4, none⟩ = some (.int .i64 t1366) := (blk_cell BK1368.out 4).trans rfl
       have hfz42_0 := blk_frozen BK1368.out 0
       have hfz42_1 := blk_frozen BK1368.out 1
       have hfz42_2 := blk_frozen BK1368.out 2
       have hfz42_3 := blk_frozen BK1368.out 3
       have hfz42_4 := blk_frozen BK1368.out 4
       go_upto_region 16 with (first | ((with_reducible refine gate_callee (f := 43) rfl ?_); refine goesL_ (some 35) rfl rfl Try.func43 (by kernel_rfl) rfl #[.agg #[.int .i64 t1356, .slice Ao16 t1357.length co16, .slice Ao17 t1360.length co17, .slice Ao18 t1363.length co18, .int .i64 t1366], .int .i64 1] rfl (by (try simp only [List.map_toArray, List.map_cons, List.map_nil]); rfl) ?_; (with_reducible refine (laws_markTask.calls kj4 t1356 (fun k_ => some k_ = (.slice Ao16 t1357.length co16 : Value).ownBlock) (.slice Ao16 t1357.length co16) t1357 (fun k_ => some k_ = (.slice Ao17 t1360.length co17 : Value).ownBlock) (.slice Ao17 t1360.length co17) t1360 (fun k_ => some k_ = (.slice Ao18 t1363.length co18 : Value).ownBlock) (.slice Ao18 t1363.length co18) t1363 t1366 1 t1370 t1371 t1372 t1373 w _ ?side1 ?side2 ?side3 ?side4 ?side5 ?side6 A30.out).mono ?_); (case side1 => repeat (with_reducible exact HB.out)); (case side2 => exact Kd.R_tight rfl HO_1369001.out); (case side3 => exact fun k_ e_ => (HO_1369001.out.1 k_ e_.symm).2.2); (case side4 => exact Kd.R_tight rfl HO_1369002.out); (case side5 => exact fun k_ e_ => (HO_1369002.out.1 k_ e_.symm).2.2); (case side6 => exact Kd.R_tight rfl HO_1369003.out); rintro e w43 ⟨rfl, hy0, hy1, hy2, hb, hkp⟩; refine ⟨_, rfl, ?_⟩; have n0_ := Aside0.mk (Kd.R_mono (ok' := fun k_ => some k_ ≠ (.slice Ao10 t1347.length co10 : Value).ownBlock ∧ some k_ ≠ (.slice Ao16 t1357.length co16 : Value).ownBlock ∧ some k_ ≠ (.slice Ao17 t1360.length co17 : Value).ownBlock) (Kd.R_keptB ((Kd.R_apart' HO_1356001.out (Kd.R_typed HO_1369003.out) (by decide))) hkp (fun k_ hk_ hs_ => Or.elim hs_ (fun e_ => (hk_.1.2.1) e_) (fun e_ => Or.elim e_ (fun e_ => (hk_.1.2.2) e_) (fun e_ => (hk_.2) e_)))) (fun k_ hk_ => ⟨hk_.1.1.1, hk_.1.1.2.1, hk_.1.1.2.2⟩)); have n1_ := Aside0.mk (Kd.R_mono (ok' := fun k_ => some k_ ≠ (.slice Ao9 t1344.length co9 : Value).ownBlock ∧ some k_ ≠ (.slice Ao16 t1357.length co16 : Value).ownBlock ∧ some k_ ≠ (.slice Ao17 t1360.length co17 : Value).ownBlock) (Kd.R_keptB ((Kd.R_apart' HO_1356002.out (Kd.R_typed HO_1369003.out) (by decide))) hkp (fun k_ hk_ hs_ => Or.elim hs_ (fun e_ => (hk_.1.2.1) e_) (fun e_ => Or.elim e_ (fun e_ => (hk_.1.2.2) e_) (fun e_ => (hk_.2) e_)))) (fun k_ hk_ => ⟨hk_.1.1.1, hk_.1.1.2.1, hk_.1.1.2.2⟩)); have n2_ := Aside0.mk (Kd.R_mono (ok' := fun k_ => some k_ ≠ (.slice Ao18 t1363.length co18 : Value).ownBlock) (Kd.R_keptB ((Kd.R_apart' (Kd.R_apart' HO_1356003.out (Kd.R_typed HO_1369001.out) (by decide)) (Kd.R_typed HO_1369002.out) (by decide))) hkp (fun k_ hk_ hs_ => Or.elim hs_ (fun e_ => (hk_.1.2) e_) (fun e_ => Or.elim e_ (fun e_ => (hk_.2) e_) (fun e_ => (hk_.1.1) e_)))) (fun k_ hk_ => hk_.1.1.1)); have n3_ := Aside0.mk (Kd.R_reok rfl hy0 (fun k_ e_ => HO_1369001.out.1 k_ e_)); have n4_ := Aside0.mk (Kd.R_reok rfl hy1 (fun k_ e_ => HO_1369002.out.1 k_ e_)); have n5_ := Aside0.mk (Kd.R_reok rfl hy2 (fun k_ e_ => HO_1369003.out.1 k_ e_)); have n6_ := Aside0.mk (blk_kept BK1355.out hkp (fun hs_ => Or.elim hs_ (fun e_ => (fun e_ => (Kd.R_ne HO_1369001.out BK1355.out (by decide)) e_) e_) (fun e_ => Or.elim e_ (fun e_ => (fun e_ => (Kd.R_ne HO_1369002.out BK1355.out (by decide)) e_) e_) (fun e_ => (fun e_ => (Kd.R_ne HO_1369003.out BK1355.out (by decide)) e_) e_)))); have n7_ := Aside0.mk (blk_kept BK1368.out hkp (fun hs_ => Or.elim hs_ (fun e_ => (fun e_ => (Kd.R_ne HO_1369001.out BK1368.out (by decide)) e_) e_) (fun e_ => Or.elim e_ (fun e_ => (fun e_ => (Kd.R_ne HO_1369002.out BK1368.out (by decide)) e_) e_) (fun e_ => (fun e_ => (Kd.R_ne HO_1369003.out BK1368.out (by decide)) e_) e_)))); have n8_ := Aside0.mk (hb); clear HO_1356001; clear HO_1356002; clear HO_1356003; clear HO_1369001; clear HO_1369002; clear HO_1369003; clear BK1355; clear BK1368; clear HB; have HO_1356001 := n0_; have HO_1356002 := n1_; have HO_1356003 := n2_; have HO_1369001 := n3_; have HO_1369002 := n4_; have HO_1369003 := n5_; have BK1355 := n6_; have BK1368 := n7_; have HB := n8_; clear n0_ n1_ n2_ n3_ n4_ n5_ n6_ n7_ n8_; (try clear hb); (try clear hkp); (try clear hy0); (try clear hy1); (try clear hy2); have hcz44_0 : w43.cell? ⟨gb1368, 0, none⟩ = some (.int .i64 t1356) := (blk_cell BK1368.out 0).trans rfl; have hcz44_1 : w43.cell? ⟨gb1368, 1, none⟩ = some (.slice Ao16 t1357.length co16) := (blk_cell BK1368.out 1).trans rfl; have hcz44_2 : w43.cell? ⟨gb1368, 2, none⟩ = some (.slice Ao17 t1360.length co17) := (blk_cell BK1368.out 2).trans rfl; have hcz44_3 : w43.cell? ⟨gb1368, 3, none⟩ = some (.slice Ao18 t1363.length co18) := (blk_cell BK1368.out 3).trans rfl; have hcz44_4 : w43.cell? ⟨gb1368, 4, none⟩ = some (.int .i64 t1366) := (blk_cell BK1368.out 4).trans rfl; have hfz44_0 := blk_frozen BK1368.out 0; have hfz44_1 := blk_frozen BK1368.out 1; have hfz44_2 := blk_frozen BK1368.out 2; have hfz44_3 := blk_frozen BK1368.out 3; have hfz44_4 := blk_frozen BK1368.out 4) | ((with_reducible refine gate_callee (f := 44) rfl ?_); refine goesL_ (some 38) rfl rfl Try.func44 (by kernel_rfl) rfl #[.agg #[.int .i64 t1356, .slice Ao16 t1371.length co16, .slice Ao17 t1372.length co17, .slice Ao18 t1373.length co18, .int .i64 t1366], .int .i64 1] rfl (by (try simp only [List.map_toArray, List.map_cons, List.map_nil]); (rw [show t1371.length = t1357.length from (Kd.R_reads' HO_1369001.out).1.symm, show t1372.length = t1360.length from (Kd.R_reads' HO_1369002.out).1.symm, show t1373.length = t1363.length from (Kd.R_reads' HO_1369003.out).1.symm] <;> rfl)) ?_; (with_reducible refine (laws_heldTask.calls kj4 t1356 _ _ t1371 _ _ t1372 _ _ t1373 t1366 1 t1374 _ ?side1 ?side2 ?side3 ?side4 ?side5 ?side6 A31.out).mono ?_); (case side1 => repeat (exact (Kd.R_reads' HO_1369001.out).2.2)); (case side2 => rw [show t1371.length = t1357.length from (Kd.R_reads' HO_1369001.out).1.symm]; exact (Kd.R_reads' HO_1369001.out).2.1); (case side3 => repeat (exact (Kd.R_reads' HO_1369002.out).2.2)); (case side4 => rw [show t1372.length = t1360.length from (Kd.R_reads' HO_1369002.out).1.symm]; exact (Kd.R_reads' HO_1369002.out).2.1); (case side5 => repeat (exact (Kd.R_reads' HO_1369003.out).2.2)); (case side6 => rw [show t1373.length = t1363.length from (Kd.R_reads' HO_1369003.out).1.symm]; exact (Kd.R_reads' HO_1369003.out).2.1); rintro e w45 ⟨rfl, hb⟩; refine ⟨_, rfl, ?_⟩; have n0_ := Aside0.mk (Kd.R_below HO_1356001.out hb); have n1_ := Aside0.mk (Kd.R_below HO_1356002.out hb); have n2_ := Aside0.mk (Kd.R_below HO_1356003.out hb); have n3_ := Aside0.mk (Kd.R_below HO_1369001.out hb); have n4_ := Aside0.mk (Kd.R_below HO_1369002.out hb); have n5_ := Aside0.mk (Kd.R_below HO_1369003.out hb); have n6_ := Aside0.mk (blk_below (g := gb1355) (o := .cells #[.int .i64 t1343, .slice Ao9 t1344.length co9, .slice Ao10 t1347.length co10, .slice Ao11 t1350.length co11, .int .i64 t1353] 40 (0, 0)) BK1355.out hb); have n7_ := Aside0.mk (blk_below (g := gb1368) (o := .cells #[.int .i64 t1356, .slice Ao16 t1357.length co16, .slice Ao17 t1360.length co17, .slice Ao18 t1363.length co18, .int .i64 t1366] 40 (0, 0)) BK1368.out hb); have n8_ := Aside0.mk (below_step HB.out hb); clear HO_1356001; clear HO_1356002; clear HO_1356003; clear HO_1369001; clear HO_1369002; clear HO_1369003; clear BK1355; clear BK1368; clear HB; have HO_1356001 := n0_; have HO_1356002 := n1_; have HO_1356003 := n2_; have HO_1369001 := n3_; have HO_1369002 := n4_; have HO_1369003 := n5_; have BK1355 := n6_; have BK1368 := n7_; have HB := n8_; clear n0_ n1_ n2_ n3_ n4_ n5_ n6_ n7_ n8_; (try clear hb); (try clear hb2); (try clear hk); (try clear hi)) | ((with_reducible refine gate_callee (f := 41) rfl ?_); refine goesL_ (some 46) rfl rfl Try.func41 (by kernel_rfl) rfl #[.string a0] rfl (by (try simp only [List.map_toArray, List.map_cons, List.map_nil]); rfl) ?_; (with_reducible refine (impl_ParseTask.calls kj4 a0 t1375 t1376 t1379 t1382 t1385 t1386 _ A39.out).mono ?_); rintro e w46 ⟨v1377, v1380, v1383, rfl, ho0, ho1, ho2, hb⟩; refine ⟨_, rfl, ?_⟩; have n0_ := Aside0.mk (Kd.R_mono (Kd.R_told (Kd.R_told (Kd.R_old HO_1356001.out hb) (Kd.R_base ho0)) (Kd.R_base ho1)) (fun _ h_ => h_.1)); have n1_ := Aside0.mk (Kd.R_mono (Kd.R_told (Kd.R_told (Kd.R_old HO_1356002.out hb) (Kd.R_base ho0)) (Kd.R_base ho1)) (fun _ h_ => h_.1)); have n2_ := Aside0.mk (Kd.R_elder' HO_1356003.out (Kd.R_base ho2) hb); have n3_ := Aside0.mk (Kd.R_mono (Kd.R_told (Kd.R_told (Kd.R_old HO_1369001.out hb) (Kd.R_base ho0)) (Kd.R_base ho1)) (fun _ h_ => h_.1)); have n4_ := Aside0.mk (Kd.R_mono (Kd.R_told (Kd.R_told (Kd.R_old HO_1369002.out hb) (Kd.R_base ho0)) (Kd.R_base ho1)) (fun _ h_ => h_.1)); have n5_ := Aside0.mk (Kd.R_elder' HO_1369003.out (Kd.R_base ho2) hb); have n6_ := Aside0.mk (Kd.R_lower (Kd.R_new' (Kd.R_new' (Kd.R_new' (Kd.R_new' ho0 (Kd.R_lt HO_1356001.out)) (Kd.R_lt HO_1356002.out)) (Kd.R_lt HO_1369001.out)) (Kd.R_lt HO_1369002.out)) (below_size HB.out)); have n7_ := Aside0.mk (Kd.R_lower (Kd.R_new' (Kd.R_new' (Kd.R_new' (Kd.R_new' ho1 (Kd.R_lt HO_1356001.out)) (Kd.R_lt HO_1356002.out)) (Kd.R_lt HO_1369001.out)) (Kd.R_lt HO_1369002.out)) (below_size HB.out)); have n8_ := Aside0.mk (Kd.R_lower (Kd.R_new' (Kd.R_new' ho2 (Kd.R_lt HO_1356003.out)) (Kd.R_lt HO_1369003.out)) (below_size HB.out)); have n9_ := Aside0.mk (blk_below (g := gb1355) (o := .cells #[.int .i64 t1343, .slice Ao9 t1344.length co9, .slice Ao10 t1347.length co10, .slice Ao11 t1350.length co11, .int .i64 t1353] 40 (0, 0)) BK1355.out hb); have n10_ := Aside0.mk (blk_below (g := gb1368) (o := .cells #[.int .i64 t1356, .slice Ao16 t1357.length co16, .slice Ao17 t1360.length co17, .slice Ao18 t1363.length co18, .int .i64 t1366] 40 (0, 0)) BK1368.out hb); have n11_ := Aside0.mk (below_step HB.out hb); clear HO_1356001; clear HO_1356002; clear HO_1356003; clear HO_1369001; clear HO_1369002; clear HO_1369003; clear BK1355; clear BK1368; clear HB; have HO_1356001 := n0_; have HO_1356002 := n1_; have HO_1356003 := n2_; have HO_1369001 := n3_; have HO_1369002 := n4_; have HO_1369003 := n5_; have HO1378 := n6_; have HO1381 := n7_; have HO1384 := n8_; have BK1355 := n9_; have BK1368 := n10_; have HB := n11_; clear n0_ n1_ n2_ n3_ n4_ n5_ n6_ n7_ n8_ n9_ n10_ n11_; (try clear hb); (try clear hb2); (try clear hk); (try clear hi); (try clear ho0); (try clear ho1); (try clear ho2)) | ((with_reducible refine gate_dst (N := 9) rfl ?_); refine box_event ?hg (N := 9) ?hd (cs := #[.int .i64 0, .slice none 0 0, .slice none 0 0, .slice none 0 0, .int .i64 0]) (t := 40) ?hr ?_; (case hd => rfl); (case hg => rfl); (case hr => (go_simp; done)); intro gb1387 hg w47 hbox hb; have n0_ := Aside0.mk (Kd.R_below HO_1356001.out hb); have n1_ := Aside0.mk (Kd.R_below HO_1356002.out hb); have n2_ := Aside0.mk (Kd.R_below HO_1356003.out hb); have n3_ := Aside0.mk (Kd.R_below HO_1369001.out hb); have n4_ := Aside0.mk (Kd.R_below HO_1369002.out hb); have n5_ := Aside0.mk (Kd.R_below HO_1369003.out hb); have n6_ := Aside0.mk (Kd.R_below HO1378.out hb); have n7_ := Aside0.mk (Kd.R_below HO1381.out hb); have n8_ := Aside0.mk (Kd.R_below HO1384.out hb); have n9_ := Aside0.mk (blk_below (g := gb1355) (o := .cells #[.int .i64 t1343, .slice Ao9 t1344.length co9, .slice Ao10 t1347.length co10, .slice Ao11 t1350.length co11, .int .i64 t1353] 40 (0, 0)) BK1355.out hb); have n10_ := Aside0.mk (blk_below (g := gb1368) (o := .cells #[.int .i64 t1356, .slice Ao16 t1357.length co16, .slice Ao17 t1360.length co17, .slice Ao18 t1363.length co18, .int .i64 t1366] 40 (0, 0)) BK1368.out hb); have n11_ := Aside0.mk (below_step HB.out hb); have n12_ := Aside0.mk (hbox); have n13_ := Aside0.mk ((by rw [hg]; exact (below_size HB.out) : w.heap.size ≤ gb1387)); have n14_ := Aside0.mk ((by rw [hg]; exact (below_size HB.out) : w.heap.size ≤ gb1387)); have n15_ := Aside0.mk ((by rw [hg]; exact Nat.ne_of_lt (blk_lt (g := gb1355) (o := .cells #[.int .i64 t1343, .slice Ao9 t1344.length co9, .slice Ao10 t1347.length co10, .slice Ao11 t1350.length co11, .int .i64 t1353] 40 (0, 0)) BK1355.out) : gb1355 ≠ gb1387)); have n16_ := Aside0.mk ((by rw [hg]; exact Nat.ne_of_gt (blk_lt (g := gb1355) (o := .cells #[.int .i64 t1343, .slice Ao9 t1344.length co9, .slice Ao10 t1347.length co10, .slice Ao11 t1350.length co11, .int .i64 t1353] 40 (0, 0)) BK1355.out) : gb1387 ≠ gb1355)); have n17_ := Aside0.mk ((by rw [hg]; exact Nat.ne_of_lt (blk_lt (g := gb1368) (o := .cells #[.int .i64 t1356, .slice Ao16 t1357.length co16, .slice Ao17 t1360.length co17, .slice Ao18 t1363.length co18, .int .i64 t1366] 40 (0, 0)) BK1368.out) : gb1368 ≠ gb1387)); have n18_ := Aside0.mk ((by rw [hg]; exact Nat.ne_of_gt (blk_lt (g := gb1368) (o := .cells #[.int .i64 t1356, .slice Ao16 t1357.length co16, .slice Ao17 t1360.length co17, .slice Ao18 t1363.length co18, .int .i64 t1366] 40 (0, 0)) BK1368.out) : gb1387 ≠ gb1368)); clear HO_1356001; clear HO_1356002; clear HO_1356003; clear HO_1369001; clear HO_1369002; clear HO_1369003; clear HO1378; clear HO1381; clear HO1384; clear BK1355; clear BK1368; clear HB; have HO_1356001 := n0_; have HO_1356002 := n1_; have HO_1356003 := n2_; have HO_1369001 := n3_; have HO_1369002 := n4_; have HO_1369003 := n5_; have HO1378 := n6_; have HO1381 := n7_; have HO1384 := n8_; have BK1355 := n9_; have BK1368 := n10_; have HB := n11_; have BK1387 := n12_; have GW1387 := n13_; have GE1387 := n14_; have NB1355_1387 := n15_; have NB1387_1355 := n16_; have NB1368_1387 := n17_; have NB1387_1368 := n18_; clear n0_ n1_ n2_ n3_ n4_ n5_ n6_ n7_ n8_ n9_ n10_ n11_ n12_ n13_ n14_ n15_ n16_ n17_ n18_; clear hb hbox hg; have hnb48 := NB1387_1355.out; have hnc48 := NB1355_1387.out; have hnb49 := NB1387_1368.out; have hnc49 := NB1368_1387.out; have hcz50_0 : w47.cell? ⟨gb1387, 0, none⟩ = some (.int .i64 0) := (blk_cell BK1387.out 0).trans rfl; have hcz50_1 : w47.cell? ⟨gb1387, 1, none⟩ = some (.slice none 0 0) := (blk_cell BK1387.out 1).trans rfl; have hcz50_2 : w47.cell? ⟨gb1387, 2, none⟩ = some (.slice none 0 0) := (blk_cell BK1387.out 2).trans rfl; have hcz50_3 : w47.cell? ⟨gb1387, 3, none⟩ = some (.slice none 0 0) := (blk_cell BK1387.out 3).trans rfl; have hcz50_4 : w47.cell? ⟨gb1387, 4, none⟩ = some (.int .i64 0) := (blk_cell BK1387.out 4).trans rfl; have hfz50_0 := blk_frozen BK1387.out 0; have hfz50_1 := blk_frozen BK1387.out 1; have hfz50_2 := blk_frozen BK1387.out 2; have hfz50_3 := blk_frozen BK1387.out 3; have hfz50_4 := blk_frozen BK1387.out 4; obtain ⟨Ao51, co51, eo51⟩ := Kd.R_slice HO1378.out; subst eo51; obtain ⟨Ao52, co52, eo52⟩ := Kd.R_slice HO1381.out; subst eo52; obtain ⟨Ao53, co53, eo53⟩ := Kd.R_slice HO1384.out; subst eo53))
       (try simp only [Act.put, List.setIfInBounds_toArray, List.set_cons_zero, List.set_cons_succ])
       go_cut [57] (fun v57 wc => ∃ (kq : Nat) (x57_39 : Bool), v57 = .bool x57_39 ∧ Aside0 (laws_FnExactParseTask.j1 kq t1370 x57_39 t1356 t1371 t1372 t1373 t1366 = some r) ∧ Aside0 (kq ≤ kj4) ∧ Aside0 (Kd.R k60 60 wc w.heap.size (fun k_ => some k_ ≠ ((.slice Ao10 t1347.length co10) : Value).ownBlock ∧ some k_ ≠ ((.slice Ao16 t1357.length co16) : Value).ownBlock ∧ some k_ ≠ ((.slice Ao17 t1360.length co17) : Value).ownBlock ∧ some k_ ≠ ((.slice Ao51 t1376.length co51) : Value).ownBlock ∧ some k_ ≠ ((.slice Ao52 t1379.length co52) : Value).ownBlock) (.slice Ao9 t1344.length co9) t1344) ∧ Aside0 (Kd.R k60 60 wc w.heap.size (fun k_ => some k_ ≠ ((.slice Ao9 t1344.length co9) : Value).ownBlock ∧ some k_ ≠ ((.slice Ao16 t1357.length co16) : Value).ownBlock ∧ some k_ ≠ ((.slice Ao17 t1360.length co17) : Value).ownBlock ∧ some k_ ≠ ((.slice Ao51 t1376.length co51) : Value).ownBlock ∧ some k_ ≠ ((.slice Ao52 t1379.length co52) : Value).ownBlock) (.slice Ao10 t1347.length co10) t1347) ∧ Aside0 (Kd.R Kd.bool 4 wc w.heap.size (fun k_ => some k_ ≠ ((.slice Ao18 t1363.length co18) : Value).ownBlock ∧ some k_ ≠ ((.slice Ao53 t1382.length co53) : Value).ownBlock) (.slice Ao11 t1350.length co11) t1350) ∧ Aside0 (Kd.R k60 60 wc w.heap.size (fun k_ => some k_ ≠ ((.slice Ao9 t1344.length co9) : Value).ownBlock ∧ some k_ ≠ ((.slice Ao10 t1347.length co10) : Value).ownBlock ∧ some k_ ≠ ((.slice Ao17 t1360.length co17) : Value).ownBlock ∧ some k_ ≠ ((.slice Ao51 t1376.length co51) : Value).ownBlock ∧ some k_ ≠ ((.slice Ao52 t1379.length co52) : Value).ownBlock) (.slice Ao16 t1357.length co16) t1371) ∧ Aside0 (Kd.R k60 60 wc w.heap.size (fun k_ => some k_ ≠ ((.slice Ao9 t1344.length co9) : Value).ownBlock ∧ some k_ ≠ ((.slice Ao10 t1347.length co10) : Value).ownBlock ∧ some k_ ≠ ((.slice Ao16 t1357.length co16) : Value).ownBlock ∧ some k_ ≠ ((.slice Ao51 t1376.length co51) : Value).ownBlock ∧ some k_ ≠ ((.slice Ao52 t1379.length co52) : Value).ownBlock) (.slice Ao17 t1360.length co17) t1372) ∧ Aside0 (Kd.R Kd.bool 4 wc w.heap.size (fun k_ => some k_ ≠ ((.slice Ao11 t1350.length co11) : Value).ownBlock ∧ some k_ ≠ ((.slice Ao53 t1382.length co53) : Value).ownBlock) (.slice Ao18 t1363.length co18) t1373) ∧ Aside0 (Kd.R k60 60 wc w.heap.size (fun k_ => some k_ ≠ ((.slice Ao9 t1344.length co9) : Value).ownBlock ∧ some k_ ≠ ((.slice Ao10 t1347.length co10) : Value).ownBlock ∧ some k_ ≠ ((.slice Ao16 t1357.length co16) : Value).ownBlock ∧ some k_ ≠ ((.slice Ao17 t1360.length co17) : Value).ownBlock ∧ some k_ ≠ ((.slice Ao52 t1379.length co52) : Value).ownBlock) (.slice Ao51 t1376.length co51) t1376) ∧ Aside0 (Kd.R k60 60 wc w.heap.size (fun k_ => some k_ ≠ ((.slice Ao9 t1344.length co9) : Value).ownBlock ∧ some k_ ≠ ((.slice Ao10 t1347.length co10) : Value).ownBlock ∧ some k_ ≠ ((.slice Ao16 t1357.length co16) : Value).ownBlock ∧ some k_ ≠ ((.slice Ao17 t1360.length co17) : Value).ownBlock ∧ some k_ ≠ ((.slice Ao51 t1376.length co51) : Value).ownBlock) (.slice Ao52 t1379.length co52) t1379) ∧ Aside0 (Kd.R Kd.bool 4 wc w.heap.size (fun k_ => some k_ ≠ ((.slice Ao11 t1350.length co11) : Value).ownBlock ∧ some k_ ≠ ((.slice Ao18 t1363.length co18) : Value).ownBlock) (.slice Ao53 t1382.length co53) t1382) ∧ Aside0 (wc.heap[gb1355]? = some (.cells #[.int .i64 t1343, (.slice Ao9 t1344.length co9), (.slice Ao10 t1347.length co10), (.slice Ao11 t1350.length co11), .int .i64 t1353] 40 (0, 0))) ∧ Aside0 (wc.heap[gb1368]? = some (.cells #[.int .i64 t1356, (.slice Ao16 t1357.length co16), (.slice Ao17 t1360.length co17), (.slice Ao18 t1363.length co18), .int .i64 t1366] 40 (0, 0))) ∧ Aside0 (wc.heap[gb1387]? = some (.cells #[.int .i64 t1375, (.slice Ao51 t1376.length co51), (.slice Ao52 t1379.length co52), (.slice Ao53 t1382.length co53), .int .i64 t1385] 40 (0, 0))) ∧ Aside0 (Below w.heap.size w wc))
       case first =>
        have H := HC40.out
        clear HC40
        replace H := Option.bind_eq_some_iff.mp H
        obtain ⟨t1388, A540, H⟩ := H
        have A54 := Aside0.mk A540
        clear A540
        by_cases c55 : t1388 = true
        ·subst c55
         rw [if_pos rfl] at H
         have H' := Aside0.mk H
         clear H
         have hnb56 := NB1387_1355.out
         have hnc56 := NB1355_1387.out
         have hnb57 := NB1387_1368.out
         have hnc57 := NB1368_1387.out
         have hcz58_0 : w47.cell? ⟨gb1387, 0, none⟩ = some (.int .i64 0) := (blk_cell BK1387.out 0).trans rfl
         have hcz58_1 : w47.cell? ⟨gb1387, 1, none⟩ = some (.slice none 0 0) := (blk_cell BK1387.out 1).trans rfl
         have hcz58_2 : w47.cell? ⟨gb1387, 2, none⟩ = some (.slice none 0 0) := (blk_cell BK1387.out 2).trans rfl
         have hcz58_3 : w47.cell? ⟨gb1387, 3, none⟩ = some (.slice none 0 0) := (blk_cell BK1387.out 3).trans rfl
         have hcz58_4 : w47.cell? ⟨gb1387, 4, none⟩ = some (.int .i64 0) := (blk_cell BK1387.out 4).trans rfl
         have hfz58_0 := blk_frozen BK1387.out 0
         have hfz58_1 := blk_frozen BK1387.out 1
         have hfz58_2 := blk_frozen BK1387.out 2
         have hfz58_3 := blk_frozen BK1387.out 3
         have hfz58_4 := blk_frozen BK1387.out 4
         have hnb59 := NB1355_1368.out
         have hnc59 := NB1368_1355.out
         have hcz60_0 : w47.cell? ⟨gb1355, 0, none⟩ = some (.int .i64 t1343) := (blk_cell BK1355.out 0).trans rfl
         have hcz60_1 : w47.cell? ⟨gb1355, 1, none⟩ = some (.slice Ao9 t1344.length co9) := (blk_cell BK1355.out 1).trans rfl
         have hcz60_2 : w47.cell? ⟨gb1355, 2, none⟩ = some (.slice Ao10 t1347.length co10) := (blk_cell BK1355.out 2).trans rfl
         have hcz60_3 : w47.cell? ⟨gb1355, 3, none⟩ = some (.slice Ao11 t1350.length co11) := (blk_cell BK1355.out 3).trans rfl
         have hcz60_4 : w47.cell? ⟨gb1355, 4, none⟩ = some (.int .i64 t1353) := (blk_cell BK1355.out 4).trans rfl
         have hfz60_0 := blk_frozen BK1355.out 0
         have hfz60_1 := blk_frozen BK1355.out 1
         have hfz60_2 := blk_frozen BK1355.out 2
         have hfz60_3 := blk_frozen BK1355.out 3
         have hfz60_4 := blk_frozen BK1355.out 4
         go_wp2_with (((with_reducible refine gate_callee (f := 42) rfl ?_); refine goesL_ (some 51) rfl rfl Try.func42 (by kernel_rfl) rfl #[.agg #[.int .i64 t1375, .slice Ao51 t1376.length co51, .slice Ao52 t1379.length co52, .slice Ao53 t1382.length co53, .int .i64 t1385], .agg #[.int .i64 t1343, .slice Ao9 t1344.length co9, .slice Ao10 t1347.length co10, .slice Ao11 t1350.length co11, .int .i64 t1353]] rfl (by (try simp only [List.map_toArray, List.map_cons, List.map_nil]); rfl) ?_; (with_reducible refine (laws_eqTask.calls kj4 t1375 _ _ t1376 _ _ t1379 _ _ t1382 t1385 t1343 _ _ t1344 _ _ t1347 _ _ t1350 t1353 true _ ?side1 ?side2 ?side3 ?side4 ?side5 ?side6 ?side7 ?side8 ?side9 ?side10 ?side11 ?side12 A54.out).mono ?_); (case side1 => refine (Kd.R_reads' (e := 60) (base := w.heap.size) (ok := fun k_ => ((((some k_ ≠ (.slice Ao52 t1379.length co52 : Value).ownBlock ∧ some k_ ≠ (.slice Ao9 t1344.length co9 : Value).ownBlock) ∧ some k_ ≠ (.slice Ao10 t1347.length co10 : Value).ownBlock) ∧ some k_ ≠ (.slice Ao16 t1357.length co16 : Value).ownBlock) ∧ some k_ ≠ (.slice Ao17 t1360.length co17 : Value).ownBlock)) (n := t1376.length) (c := co51) ?_).2.2; exact (by exact (Kd.R_mono (Kd.R_far (p := ⟨gb1387, 4, none⟩) (Kd.R_far (p := ⟨gb1387, 3, none⟩) (Kd.R_far (p := ⟨gb1387, 2, none⟩) (Kd.R_far (p := ⟨gb1387, 1, none⟩) (Kd.R_far (p := ⟨gb1387, 0, none⟩) (Kd.R_types HO1378.out BK1387.out (by decide)) (fun _ hk => hk.2) (.int .i64 t1375)) (fun _ hk => hk.2) (.slice Ao51 t1376.length co51)) (fun _ hk => hk.2) (.slice Ao52 t1379.length co52)) (fun _ hk => hk.2) (.slice Ao53 t1382.length co53)) (fun _ hk => hk.2) (.int .i64 t1385)) (fun _ h_ => h_.1)))); (case side2 => exact (Kd.R_reads' HO1378.out).2.1); (case side3 => refine (Kd.R_reads' (e := 60) (base := w.heap.size) (ok := fun k_ => ((((some k_ ≠ (.slice Ao51 t1376.length co51 : Value).ownBlock ∧ some k_ ≠ (.slice Ao9 t1344.length co9 : Value).ownBlock) ∧ some k_ ≠ (.slice Ao10 t1347.length co10 : Value).ownBlock) ∧ some k_ ≠ (.slice Ao16 t1357.length co16 : Value).ownBlock) ∧ some k_ ≠ (.slice Ao17 t1360.length co17 : Value).ownBlock)) (n := t1379.length) (c := co52) ?_).2.2; exact (by exact (Kd.R_mono (Kd.R_far (p := ⟨gb1387, 4, none⟩) (Kd.R_far (p := ⟨gb1387, 3, none⟩) (Kd.R_far (p := ⟨gb1387, 2, none⟩) (Kd.R_far (p := ⟨gb1387, 1, none⟩) (Kd.R_far (p := ⟨gb1387, 0, none⟩) (Kd.R_types HO1381.out BK1387.out (by decide)) (fun _ hk => hk.2) (.int .i64 t1375)) (fun _ hk => hk.2) (.slice Ao51 t1376.length co51)) (fun _ hk => hk.2) (.slice Ao52 t1379.length co52)) (fun _ hk => hk.2) (.slice Ao53 t1382.length co53)) (fun _ hk => hk.2) (.int .i64 t1385)) (fun _ h_ => h_.1)))); (case side4 => exact (Kd.R_reads' HO1381.out).2.1); (case side5 => refine (Kd.R_reads' (e := 4) (base := w.heap.size) (ok := fun k_ => ((True ∧ some k_ ≠ (.slice Ao11 t1350.length co11 : Value).ownBlock) ∧ some k_ ≠ (.slice Ao18 t1363.length co18 : Value).ownBlock)) (n := t1382.length) (c := co53) ?_).2.2; exact (by exact (Kd.R_mono (Kd.R_far (p := ⟨gb1387, 4, none⟩) (Kd.R_far (p := ⟨gb1387, 3, none⟩) (Kd.R_far (p := ⟨gb1387, 2, none⟩) (Kd.R_far (p := ⟨gb1387, 1, none⟩) (Kd.R_far (p := ⟨gb1387, 0, none⟩) (Kd.R_types HO1384.out BK1387.out (by decide)) (fun _ hk => hk.2) (.int .i64 t1375)) (fun _ hk => hk.2) (.slice Ao51 t1376.length co51)) (fun _ hk => hk.2) (.slice Ao52 t1379.length co52)) (fun _ hk => hk.2) (.slice Ao53 t1382.length co53)) (fun _ hk => hk.2) (.int .i64 t1385)) (fun _ h_ => h_.1)))); (case side6 => exact (Kd.R_reads' HO1384.out).2.1); (case side7 => refine (Kd.R_reads' (e := 60) (base := w.heap.size) (ok := fun k_ => (((some k_ ≠ (.slice Ao10 t1347.length co10 : Value).ownBlock ∧ (some k_ ≠ (.slice Ao16 t1357.length co16 : Value).ownBlock ∧ some k_ ≠ (.slice Ao17 t1360.length co17 : Value).ownBlock)) ∧ some k_ ≠ (.slice Ao51 t1376.length co51 : Value).ownBlock) ∧ some k_ ≠ (.slice Ao52 t1379.length co52 : Value).ownBlock)) (n := t1344.length) (c := co9) ?_).2.2; exact (by exact (Kd.R_mono (Kd.R_far (p := ⟨gb1387, 4, none⟩) (Kd.R_far (p := ⟨gb1387, 3, none⟩) (Kd.R_far (p := ⟨gb1387, 2, none⟩) (Kd.R_far (p := ⟨gb1387, 1, none⟩) (Kd.R_far (p := ⟨gb1387, 0, none⟩) (Kd.R_types HO_1356001.out BK1387.out (by decide)) (fun _ hk => hk.2) (.int .i64 t1375)) (fun _ hk => hk.2) (.slice Ao51 t1376.length co51)) (fun _ hk => hk.2) (.slice Ao52 t1379.length co52)) (fun _ hk => hk.2) (.slice Ao53 t1382.length co53)) (fun _ hk => hk.2) (.int .i64 t1385)) (fun _ h_ => h_.1)))); (case side8 => exact (Kd.R_reads' HO_1356001.out).2.1); (case side9 => refine (Kd.R_reads' (e := 60) (base := w.heap.size) (ok := fun k_ => (((some k_ ≠ (.slice Ao9 t1344.length co9 : Value).ownBlock ∧ (some k_ ≠ (.slice Ao16 t1357.length co16 : Value).ownBlock ∧ some k_ ≠ (.slice Ao17 t1360.length co17 : Value).ownBlock)) ∧ some k_ ≠ (.slice Ao51 t1376.length co51 : Value).ownBlock) ∧ some k_ ≠ (.slice Ao52 t1379.length co52 : Value).ownBlock)) (n := t1347.length) (c := co10) ?_).2.2; exact (by exact (Kd.R_mono (Kd.R_far (p := ⟨gb1387, 4, none⟩) (Kd.R_far (p := ⟨gb1387, 3, none⟩) (Kd.R_far (p := ⟨gb1387, 2, none⟩) (Kd.R_far (p := ⟨gb1387, 1, none⟩) (Kd.R_far (p := ⟨gb1387, 0, none⟩) (Kd.R_types HO_1356002.out BK1387.out (by decide)) (fun _ hk => hk.2) (.int .i64 t1375)) (fun _ hk => hk.2) (.slice Ao51 t1376.length co51)) (fun _ hk => hk.2) (.slice Ao52 t1379.length co52)) (fun _ hk => hk.2) (.slice Ao53 t1382.length co53)) (fun _ hk => hk.2) (.int .i64 t1385)) (fun _ h_ => h_.1)))); (case side10 => exact (Kd.R_reads' HO_1356002.out).2.1); (case side11 => refine (Kd.R_reads' (e := 4) (base := w.heap.size) (ok := fun k_ => (some k_ ≠ (.slice Ao18 t1363.length co18 : Value).ownBlock ∧ some k_ ≠ (.slice Ao53 t1382.length co53 : Value).ownBlock)) (n := t1350.length) (c := co11) ?_).2.2; exact (by exact (Kd.R_mono (Kd.R_far (p := ⟨gb1387, 4, none⟩) (Kd.R_far (p := ⟨gb1387, 3, none⟩) (Kd.R_far (p := ⟨gb1387, 2, none⟩) (Kd.R_far (p := ⟨gb1387, 1, none⟩) (Kd.R_far (p := ⟨gb1387, 0, none⟩) (Kd.R_types HO_1356003.out BK1387.out (by decide)) (fun _ hk => hk.2) (.int .i64 t1375)) (fun _ hk => hk.2) (.slice Ao51 t1376.length co51)) (fun _ hk => hk.2) (.slice Ao52 t1379.length co52)) (fun _ hk => hk.2) (.slice Ao53 t1382.length co53)) (fun _ hk => hk.2) (.int .i64 t1385)) (fun _ h_ => h_.1)))); (case side12 => exact (Kd.R_reads' HO_1356003.out).2.1); rintro e w61 ⟨rfl, hb⟩; refine ⟨_, rfl, ?_⟩; have n0_ := Aside0.mk (Kd.R_below (by exact (Kd.R_mono (Kd.R_far (p := ⟨gb1387, 4, none⟩) (Kd.R_far (p := ⟨gb1387, 3, none⟩) (Kd.R_far (p := ⟨gb1387, 2, none⟩) (Kd.R_far (p := ⟨gb1387, 1, none⟩) (Kd.R_far (p := ⟨gb1387, 0, none⟩) (Kd.R_types HO_1356001.out BK1387.out (by decide)) (fun _ hk => hk.2) (.int .i64 t1375)) (fun _ hk => hk.2) (.slice Ao51 t1376.length co51)) (fun _ hk => hk.2) (.slice Ao52 t1379.length co52)) (fun _ hk => hk.2) (.slice Ao53 t1382.length co53)) (fun _ hk => hk.2) (.int .i64 t1385)) (fun _ h_ => h_.1))) hb); have n1_ := Aside0.mk (Kd.R_below (by exact (Kd.R_mono (Kd.R_far (p := ⟨gb1387, 4, none⟩) (Kd.R_far (p := ⟨gb1387, 3, none⟩) (Kd.R_far (p := ⟨gb1387, 2, none⟩) (Kd.R_far (p := ⟨gb1387, 1, none⟩) (Kd.R_far (p := ⟨gb1387, 0, none⟩) (Kd.R_types HO_1356002.out BK1387.out (by decide)) (fun _ hk => hk.2) (.int .i64 t1375)) (fun _ hk => hk.2) (.slice Ao51 t1376.length co51)) (fun _ hk => hk.2) (.slice Ao52 t1379.length co52)) (fun _ hk => hk.2) (.slice Ao53 t1382.length co53)) (fun _ hk => hk.2) (.int .i64 t1385)) (fun _ h_ => h_.1))) hb); have n2_ := Aside0.mk (Kd.R_below (by exact (Kd.R_mono (Kd.R_far (p := ⟨gb1387, 4, none⟩) (Kd.R_far (p := ⟨gb1387, 3, none⟩) (Kd.R_far (p := ⟨gb1387, 2, none⟩) (Kd.R_far (p := ⟨gb1387, 1, none⟩) (Kd.R_far (p := ⟨gb1387, 0, none⟩) (Kd.R_types HO_1356003.out BK1387.out (by decide)) (fun _ hk => hk.2) (.int .i64 t1375)) (fun _ hk => hk.2) (.slice Ao51 t1376.length co51)) (fun _ hk => hk.2) (.slice Ao52 t1379.length co52)) (fun _ hk => hk.2) (.slice Ao53 t1382.length co53)) (fun _ hk => hk.2) (.int .i64 t1385)) (fun _ h_ => h_.1))) hb); have n3_ := Aside0.mk (Kd.R_below (by exact (Kd.R_mono (Kd.R_far (p := ⟨gb1387, 4, none⟩) (Kd.R_far (p := ⟨gb1387, 3, none⟩) (Kd.R_far (p := ⟨gb1387, 2, none⟩) (Kd.R_far (p := ⟨gb1387, 1, none⟩) (Kd.R_far (p := ⟨gb1387, 0, none⟩) (Kd.R_types HO_1369001.out BK1387.out (by decide)) (fun _ hk => hk.2) (.int .i64 t1375)) (fun _ hk => hk.2) (.slice Ao51 t1376.length co51)) (fun _ hk => hk.2) (.slice Ao52 t1379.length co52)) (fun _ hk => hk.2) (.slice Ao53 t1382.length co53)) (fun _ hk => hk.2) (.int .i64 t1385)) (fun _ h_ => h_.1))) hb); have n4_ := Aside0.mk (Kd.R_below (by exact (Kd.R_mono (Kd.R_far (p := ⟨gb1387, 4, none⟩) (Kd.R_far (p := ⟨gb1387, 3, none⟩) (Kd.R_far (p := ⟨gb1387, 2, none⟩) (Kd.R_far (p := ⟨gb1387, 1, none⟩) (Kd.R_far (p := ⟨gb1387, 0, none⟩) (Kd.R_types HO_1369002.out BK1387.out (by decide)) (fun _ hk => hk.2) (.int .i64 t1375)) (fun _ hk => hk.2) (.slice Ao51 t1376.length co51)) (fun _ hk => hk.2) (.slice Ao52 t1379.length co52)) (fun _ hk => hk.2) (.slice Ao53 t1382.length co53)) (fun _ hk => hk.2) (.int .i64 t1385)) (fun _ h_ => h_.1))) hb); have n5_ := Aside0.mk (Kd.R_below (by exact (Kd.R_mono (Kd.R_far (p := ⟨gb1387, 4, none⟩) (Kd.R_far (p := ⟨gb1387, 3, none⟩) (Kd.R_far (p := ⟨gb1387, 2, none⟩) (Kd.R_far (p := ⟨gb1387, 1, none⟩) (Kd.R_far (p := ⟨gb1387, 0, none⟩) (Kd.R_types HO_1369003.out BK1387.out (by decide)) (fun _ hk => hk.2) (.int .i64 t1375)) (fun _ hk => hk.2) (.slice Ao51 t1376.length co51)) (fun _ hk => hk.2) (.slice Ao52 t1379.length co52)) (fun _ hk => hk.2) (.slice Ao53 t1382.length co53)) (fun _ hk => hk.2) (.int .i64 t1385)) (fun _ h_ => h_.1))) hb); have n6_ := Aside0.mk (Kd.R_below (by exact (Kd.R_mono (Kd.R_far (p := ⟨gb1387, 4, none⟩) (Kd.R_far (p := ⟨gb1387, 3, none⟩) (Kd.R_far (p := ⟨gb1387, 2, none⟩) (Kd.R_far (p := ⟨gb1387, 1, none⟩) (Kd.R_far (p := ⟨gb1387, 0, none⟩) (Kd.R_types HO1378.out BK1387.out (by decide)) (fun _ hk => hk.2) (.int .i64 t1375)) (fun _ hk => hk.2) (.slice Ao51 t1376.length co51)) (fun _ hk => hk.2) (.slice Ao52 t1379.length co52)) (fun _ hk => hk.2) (.slice Ao53 t1382.length co53)) (fun _ hk => hk.2) (.int .i64 t1385)) (fun _ h_ => h_.1))) hb); have n7_ := Aside0.mk (Kd.R_below (by exact (Kd.R_mono (Kd.R_far (p := ⟨gb1387, 4, none⟩) (Kd.R_far (p := ⟨gb1387, 3, none⟩) (Kd.R_far (p := ⟨gb1387, 2, none⟩) (Kd.R_far (p := ⟨gb1387, 1, none⟩) (Kd.R_far (p := ⟨gb1387, 0, none⟩) (Kd.R_types HO1381.out BK1387.out (by decide)) (fun _ hk => hk.2) (.int .i64 t1375)) (fun _ hk => hk.2) (.slice Ao51 t1376.length co51)) (fun _ hk => hk.2) (.slice Ao52 t1379.length co52)) (fun _ hk => hk.2) (.slice Ao53 t1382.length co53)) (fun _ hk => hk.2) (.int .i64 t1385)) (fun _ h_ => h_.1))) hb); have n8_ := Aside0.mk (Kd.R_below (by exact (Kd.R_mono (Kd.R_far (p := ⟨gb1387, 4, none⟩) (Kd.R_far (p := ⟨gb1387, 3, none⟩) (Kd.R_far (p := ⟨gb1387, 2, none⟩) (Kd.R_far (p := ⟨gb1387, 1, none⟩) (Kd.R_far (p := ⟨gb1387, 0, none⟩) (Kd.R_types HO1384.out BK1387.out (by decide)) (fun _ hk => hk.2) (.int .i64 t1375)) (fun _ hk => hk.2) (.slice Ao51 t1376.length co51)) (fun _ hk => hk.2) (.slice Ao52 t1379.length co52)) (fun _ hk => hk.2) (.slice Ao53 t1382.length co53)) (fun _ hk => hk.2) (.int .i64 t1385)) (fun _ h_ => h_.1))) hb); have n9_ := Aside0.mk (blk_below (g := gb1355) (o := .cells #[.int .i64 t1343, .slice Ao9 t1344.length co9, .slice Ao10 t1347.length co10, .slice Ao11 t1350.length co11, .int .i64 t1353] 40 (0, 0)) (by refine blk_far ?_ NB1355_1387.out _; refine blk_far ?_ NB1355_1387.out _; refine blk_far ?_ NB1355_1387.out _; refine blk_far ?_ NB1355_1387.out _; refine blk_far ?_ NB1355_1387.out _; exact BK1355.out) hb); have n10_ := Aside0.mk (blk_below (g := gb1368) (o := .cells #[.int .i64 t1356, .slice Ao16 t1357.length co16, .slice Ao17 t1360.length co17, .slice Ao18 t1363.length co18, .int .i64 t1366] 40 (0, 0)) (by refine blk_far ?_ NB1368_1387.out _; refine blk_far ?_ NB1368_1387.out _; refine blk_far ?_ NB1368_1387.out _; refine blk_far ?_ NB1368_1387.out _; refine blk_far ?_ NB1368_1387.out _; exact BK1368.out) hb); have n11_ := Aside0.mk (blk_below (g := gb1387) (o := .cells #[.int .i64 t1375, .slice Ao51 t1376.length co51, .slice Ao52 t1379.length co52, .slice Ao53 t1382.length co53, .int .i64 t1385] 40 (0, 0)) (by refine blk_put (cs := #[.int .i64 t1375, .slice Ao51 t1376.length co51, .slice Ao52 t1379.length co52, .slice Ao53 t1382.length co53, .int .i64 0]) ?_ 4 _ rfl; refine blk_put (cs := #[.int .i64 t1375, .slice Ao51 t1376.length co51, .slice Ao52 t1379.length co52, .slice none 0 0, .int .i64 0]) ?_ 3 _ rfl; refine blk_put (cs := #[.int .i64 t1375, .slice Ao51 t1376.length co51, .slice none 0 0, .slice none 0 0, .int .i64 0]) ?_ 2 _ rfl; refine blk_put (cs := #[.int .i64 t1375, .slice none 0 0, .slice none 0 0, .slice none 0 0, .int .i64 0]) ?_ 1 _ rfl; refine blk_put (cs := #[.int .i64 0, .slice none 0 0, .slice none 0 0, .slice none 0 0, .int .i64 0]) ?_ 0 _ rfl; exact BK1387.out) hb); have n12_ := Aside0.mk (below_step (by repeat (with_reducible first | exact HB.out | refine below_set ?_ GE1387.out)) hb); clear HO_1356001; clear HO_1356002; clear HO_1356003; clear HO_1369001; clear HO_1369002; clear HO_1369003; clear HO1378; clear HO1381; clear HO1384; clear BK1355; clear BK1368; clear BK1387; clear HB; have HO_1356001 := n0_; have HO_1356002 := n1_; have HO_1356003 := n2_; have HO_1369001 := n3_; have HO_1369002 := n4_; have HO_1369003 := n5_; have HO1378 := n6_; have HO1381 := n7_; have HO1384 := n8_; have BK1355 := n9_; have BK1368 := n10_; have BK1387 := n11_; have HB := n12_; clear n0_ n1_ n2_ n3_ n4_ n5_ n6_ n7_ n8_ n9_ n10_ n11_ n12_; (try clear hb); (try clear hb2); (try clear hk); (try clear hi)))
         go_meet
         case rel => exact ⟨_, ((t1386 != t1354)), rfl, H', ⟨by have := HJ4.out; omega⟩, ⟨by exact Kd.R_mono HO_1356001.out (fun _ hk => ⟨hk.1.1.1, ⟨hk.1.1.2.1, ⟨hk.1.1.2.2, ⟨hk.1.2, hk.2⟩⟩⟩⟩)⟩, ⟨by exact Kd.R_mono HO_1356002.out (fun _ hk => ⟨hk.1.1.1, ⟨hk.1.1.2.1, ⟨hk.1.1.2.2, ⟨hk.1.2, hk.2⟩⟩⟩⟩)⟩, ⟨HO_1356003.out⟩, ⟨by exact Kd.R_mono HO_1369001.out (fun _ hk => ⟨hk.1.1.1, ⟨hk.1.1.2.1, ⟨hk.1.1.2.2, ⟨hk.1.2, hk.2⟩⟩⟩⟩)⟩, ⟨by exact Kd.R_mono HO_1369002.out (fun _ hk => ⟨hk.1.1.1, ⟨hk.1.1.2.1, ⟨hk.1.1.2.2, ⟨hk.1.2, hk.2⟩⟩⟩⟩)⟩, ⟨HO_1369003.out⟩, ⟨by exact Kd.R_mono HO1378.out (fun _ hk => ⟨hk.1.1.1.2, ⟨hk.1.1.2, ⟨hk.1.2, ⟨hk.2, hk.1.1.1.1⟩⟩⟩⟩)⟩, ⟨by exact Kd.R_mono HO1381.out (fun _ hk => ⟨hk.1.1.1.2, ⟨hk.1.1.2, ⟨hk.1.2, ⟨hk.2, hk.1.1.1.1⟩⟩⟩⟩)⟩, ⟨by exact Kd.R_mono HO1384.out (fun _ hk => ⟨hk.1.2, hk.2⟩)⟩, ⟨BK1355.out⟩, ⟨BK1368.out⟩, ⟨BK1387.out⟩, ⟨HB.out⟩⟩
        ·replace c55 := Bool.eq_false_iff.mpr c55
         subst c55
         rw [if_neg (show ¬ (false = true) by decide)] at H
         have H' := Aside0.mk H
         clear H
         have hnb62 := NB1387_1355.out
         have hnc62 := NB1355_1387.out
         have hnb63 := NB1387_1368.out
         have hnc63 := NB1368_1387.out
         have hcz64_0 : w47.cell? ⟨gb1387, 0, none⟩ = some (.int .i64 0) := (blk_cell BK1387.out 0).trans rfl
         have hcz64_1 : w47.cell? ⟨gb1387, 1, none⟩ = some (.slice none 0 0) := (blk_cell BK1387.out 1).trans rfl
         have hcz64_2 : w47.cell? ⟨gb1387, 2, none⟩ = some (.slice none 0 0) := (blk_cell BK1387.out 2).trans rfl
         have hcz64_3 : w47.cell? ⟨gb1387, 3, none⟩ = some (.slice none 0 0) := (blk_cell BK1387.out 3).trans rfl
         have hcz64_4 : w47.cell? ⟨gb1387, 4, none⟩ = some (.int .i64 0) := (blk_cell BK1387.out 4).trans rfl
         have hfz64_0 := blk_frozen BK1387.out 0
         have hfz64_1 := blk_frozen BK1387.out 1
         have hfz64_2 := blk_frozen BK1387.out 2
         have hfz64_3 := blk_frozen BK1387.out 3
         have hfz64_4 := blk_frozen BK1387.out 4
         have hnb65 := NB1355_1368.out
         have hnc65 := NB1368_1355.out
         have hcz66_0 : w47.cell? ⟨gb1355, 0, none⟩ = some (.int .i64 t1343) := (blk_cell BK1355.out 0).trans rfl
         have hcz66_1 : w47.cell? ⟨gb1355, 1, none⟩ = some (.slice Ao9 t1344.length co9) := (blk_cell BK1355.out 1).trans rfl
         have hcz66_2 : w47.cell? ⟨gb1355, 2, none⟩ = some (.slice Ao10 t1347.length co10) := (blk_cell BK1355.out 2).trans rfl
         have hcz66_3 : w47.cell? ⟨gb1355, 3, none⟩ = some (.slice Ao11 t1350.length co11) := (blk_cell BK1355.out 3).trans rfl
         have hcz66_4 : w47.cell? ⟨gb1355, 4, none⟩ = some (.int .i64 t1353) := (blk_cell BK1355.out 4).trans rfl
         have hfz66_0 := blk_frozen BK1355.out 0
         have hfz66_1 := blk_frozen BK1355.out 1
         have hfz66_2 := blk_frozen BK1355.out 2
         have hfz66_3 := blk_frozen BK1355.out 3
         have hfz66_4 := blk_frozen BK1355.out 4
         go_wp2_with (((with_reducible refine gate_callee (f := 42) rfl ?_); refine goesL_ (some 51) rfl rfl Try.func42 (by kernel_rfl) rfl #[.agg #[.int .i64 t1375, .slice Ao51 t1376.length co51, .slice Ao52 t1379.length co52, .slice Ao53 t1382.length co53, .int .i64 t1385], .agg #[.int .i64 t1343, .slice Ao9 t1344.length co9, .slice Ao10 t1347.length co10, .slice Ao11 t1350.length co11, .int .i64 t1353]] rfl (by (try simp only [List.map_toArray, List.map_cons, List.map_nil]); rfl) ?_; (with_reducible refine (laws_eqTask.calls kj4 t1375 _ _ t1376 _ _ t1379 _ _ t1382 t1385 t1343 _ _ t1344 _ _ t1347 _ _ t1350 t1353 false _ ?side1 ?side2 ?side3 ?side4 ?side5 ?side6 ?side7 ?side8 ?side9 ?side10 ?side11 ?side12 A54.out).mono ?_); (case side1 => refine (Kd.R_reads' (e := 60) (base := w.heap.size) (ok := fun k_ => ((((some k_ ≠ (.slice Ao52 t1379.length co52 : Value).ownBlock ∧ some k_ ≠ (.slice Ao9 t1344.length co9 : Value).ownBlock) ∧ some k_ ≠ (.slice Ao10 t1347.length co10 : Value).ownBlock) ∧ some k_ ≠ (.slice Ao16 t1357.length co16 : Value).ownBlock) ∧ some k_ ≠ (.slice Ao17 t1360.length co17 : Value).ownBlock)) (n := t1376.length) (c := co51) ?_).2.2; exact (by exact (Kd.R_mono (Kd.R_far (p := ⟨gb1387, 4, none⟩) (Kd.R_far (p := ⟨gb1387, 3, none⟩) (Kd.R_far (p := ⟨gb1387, 2, none⟩) (Kd.R_far (p := ⟨gb1387, 1, none⟩) (Kd.R_far (p := ⟨gb1387, 0, none⟩) (Kd.R_types HO1378.out BK1387.out (by decide)) (fun _ hk => hk.2) (.int .i64 t1375)) (fun _ hk => hk.2) (.slice Ao51 t1376.length co51)) (fun _ hk => hk.2) (.slice Ao52 t1379.length co52)) (fun _ hk => hk.2) (.slice Ao53 t1382.length co53)) (fun _ hk => hk.2) (.int .i64 t1385)) (fun _ h_ => h_.1)))); (case side2 => exact (Kd.R_reads' HO1378.out).2.1); (case side3 => refine (Kd.R_reads' (e := 60) (base := w.heap.size) (ok := fun k_ => ((((some k_ ≠ (.slice Ao51 t1376.length co51 : Value).ownBlock ∧ some k_ ≠ (.slice Ao9 t1344.length co9 : Value).ownBlock) ∧ some k_ ≠ (.slice Ao10 t1347.length co10 : Value).ownBlock) ∧ some k_ ≠ (.slice Ao16 t1357.length co16 : Value).ownBlock) ∧ some k_ ≠ (.slice Ao17 t1360.length co17 : Value).ownBlock)) (n := t1379.length) (c := co52) ?_).2.2; exact (by exact (Kd.R_mono (Kd.R_far (p := ⟨gb1387, 4, none⟩) (Kd.R_far (p := ⟨gb1387, 3, none⟩) (Kd.R_far (p := ⟨gb1387, 2, none⟩) (Kd.R_far (p := ⟨gb1387, 1, none⟩) (Kd.R_far (p := ⟨gb1387, 0, none⟩) (Kd.R_types HO1381.out BK1387.out (by decide)) (fun _ hk => hk.2) (.int .i64 t1375)) (fun _ hk => hk.2) (.slice Ao51 t1376.length co51)) (fun _ hk => hk.2) (.slice Ao52 t1379.length co52)) (fun _ hk => hk.2) (.slice Ao53 t1382.length co53)) (fun _ hk => hk.2) (.int .i64 t1385)) (fun _ h_ => h_.1)))); (case side4 => exact (Kd.R_reads' HO1381.out).2.1); (case side5 => refine (Kd.R_reads' (e := 4) (base := w.heap.size) (ok := fun k_ => ((True ∧ some k_ ≠ (.slice Ao11 t1350.length co11 : Value).ownBlock) ∧ some k_ ≠ (.slice Ao18 t1363.length co18 : Value).ownBlock)) (n := t1382.length) (c := co53) ?_).2.2; exact (by exact (Kd.R_mono (Kd.R_far (p := ⟨gb1387, 4, none⟩) (Kd.R_far (p := ⟨gb1387, 3, none⟩) (Kd.R_far (p := ⟨gb1387, 2, none⟩) (Kd.R_far (p := ⟨gb1387, 1, none⟩) (Kd.R_far (p := ⟨gb1387, 0, none⟩) (Kd.R_types HO1384.out BK1387.out (by decide)) (fun _ hk => hk.2) (.int .i64 t1375)) (fun _ hk => hk.2) (.slice Ao51 t1376.length co51)) (fun _ hk => hk.2) (.slice Ao52 t1379.length co52)) (fun _ hk => hk.2) (.slice Ao53 t1382.length co53)) (fun _ hk => hk.2) (.int .i64 t1385)) (fun _ h_ => h_.1)))); (case side6 => exact (Kd.R_reads' HO1384.out).2.1); (case side7 => refine (Kd.R_reads' (e := 60) (base := w.heap.size) (ok := fun k_ => (((some k_ ≠ (.slice Ao10 t1347.length co10 : Value).ownBlock ∧ (some k_ ≠ (.slice Ao16 t1357.length co16 : Value).ownBlock ∧ some k_ ≠ (.slice Ao17 t1360.length co17 : Value).ownBlock)) ∧ some k_ ≠ (.slice Ao51 t1376.length co51 : Value).ownBlock) ∧ some k_ ≠ (.slice Ao52 t1379.length co52 : Value).ownBlock)) (n := t1344.length) (c := co9) ?_).2.2; exact (by exact (Kd.R_mono (Kd.R_far (p := ⟨gb1387, 4, none⟩) (Kd.R_far (p := ⟨gb1387, 3, none⟩) (Kd.R_far (p := ⟨gb1387, 2, none⟩) (Kd.R_far (p := ⟨gb1387, 1, none⟩) (Kd.R_far (p := ⟨gb1387, 0, none⟩) (Kd.R_types HO_1356001.out BK1387.out (by decide)) (fun _ hk => hk.2) (.int .i64 t1375)) (fun _ hk => hk.2) (.slice Ao51 t1376.length co51)) (fun _ hk => hk.2) (.slice Ao52 t1379.length co52)) (fun _ hk => hk.2) (.slice Ao53 t1382.length co53)) (fun _ hk => hk.2) (.int .i64 t1385)) (fun _ h_ => h_.1)))); (case side8 => exact (Kd.R_reads' HO_1356001.out).2.1); (case side9 => refine (Kd.R_reads' (e := 60) (base := w.heap.size) (ok := fun k_ => (((some k_ ≠ (.slice Ao9 t1344.length co9 : Value).ownBlock ∧ (some k_ ≠ (.slice Ao16 t1357.length co16 : Value).ownBlock ∧ some k_ ≠ (.slice Ao17 t1360.length co17 : Value).ownBlock)) ∧ some k_ ≠ (.slice Ao51 t1376.length co51 : Value).ownBlock) ∧ some k_ ≠ (.slice Ao52 t1379.length co52 : Value).ownBlock)) (n := t1347.length) (c := co10) ?_).2.2; exact (by exact (Kd.R_mono (Kd.R_far (p := ⟨gb1387, 4, none⟩) (Kd.R_far (p := ⟨gb1387, 3, none⟩) (Kd.R_far (p := ⟨gb1387, 2, none⟩) (Kd.R_far (p := ⟨gb1387, 1, none⟩) (Kd.R_far (p := ⟨gb1387, 0, none⟩) (Kd.R_types HO_1356002.out BK1387.out (by decide)) (fun _ hk => hk.2) (.int .i64 t1375)) (fun _ hk => hk.2) (.slice Ao51 t1376.length co51)) (fun _ hk => hk.2) (.slice Ao52 t1379.length co52)) (fun _ hk => hk.2) (.slice Ao53 t1382.length co53)) (fun _ hk => hk.2) (.int .i64 t1385)) (fun _ h_ => h_.1)))); (case side10 => exact (Kd.R_reads' HO_1356002.out).2.1); (case side11 => refine (Kd.R_reads' (e := 4) (base := w.heap.size) (ok := fun k_ => (some k_ ≠ (.slice Ao18 t1363.length co18 : Value).ownBlock ∧ some k_ ≠ (.slice Ao53 t1382.length co53 : Value).ownBlock)) (n := t1350.length) (c := co11) ?_).2.2; exact (by exact (Kd.R_mono (Kd.R_far (p := ⟨gb1387, 4, none⟩) (Kd.R_far (p := ⟨gb1387, 3, none⟩) (Kd.R_far (p := ⟨gb1387, 2, none⟩) (Kd.R_far (p := ⟨gb1387, 1, none⟩) (Kd.R_far (p := ⟨gb1387, 0, none⟩) (Kd.R_types HO_1356003.out BK1387.out (by decide)) (fun _ hk => hk.2) (.int .i64 t1375)) (fun _ hk => hk.2) (.slice Ao51 t1376.length co51)) (fun _ hk => hk.2) (.slice Ao52 t1379.length co52)) (fun _ hk => hk.2) (.slice Ao53 t1382.length co53)) (fun _ hk => hk.2) (.int .i64 t1385)) (fun _ h_ => h_.1)))); (case side12 => exact (Kd.R_reads' HO_1356003.out).2.1); rintro e w67 ⟨rfl, hb⟩; refine ⟨_, rfl, ?_⟩; have n0_ := Aside0.mk (Kd.R_below (by exact (Kd.R_mono (Kd.R_far (p := ⟨gb1387, 4, none⟩) (Kd.R_far (p := ⟨gb1387, 3, none⟩) (Kd.R_far (p := ⟨gb1387, 2, none⟩) (Kd.R_far (p := ⟨gb1387, 1, none⟩) (Kd.R_far (p := ⟨gb1387, 0, none⟩) (Kd.R_types HO_1356001.out BK1387.out (by decide)) (fun _ hk => hk.2) (.int .i64 t1375)) (fun _ hk => hk.2) (.slice Ao51 t1376.length co51)) (fun _ hk => hk.2) (.slice Ao52 t1379.length co52)) (fun _ hk => hk.2) (.slice Ao53 t1382.length co53)) (fun _ hk => hk.2) (.int .i64 t1385)) (fun _ h_ => h_.1))) hb); have n1_ := Aside0.mk (Kd.R_below (by exact (Kd.R_mono (Kd.R_far (p := ⟨gb1387, 4, none⟩) (Kd.R_far (p := ⟨gb1387, 3, none⟩) (Kd.R_far (p := ⟨gb1387, 2, none⟩) (Kd.R_far (p := ⟨gb1387, 1, none⟩) (Kd.R_far (p := ⟨gb1387, 0, none⟩) (Kd.R_types HO_1356002.out BK1387.out (by decide)) (fun _ hk => hk.2) (.int .i64 t1375)) (fun _ hk => hk.2) (.slice Ao51 t1376.length co51)) (fun _ hk => hk.2) (.slice Ao52 t1379.length co52)) (fun _ hk => hk.2) (.slice Ao53 t1382.length co53)) (fun _ hk => hk.2) (.int .i64 t1385)) (fun _ h_ => h_.1))) hb); have n2_ := Aside0.mk (Kd.R_below (by exact (Kd.R_mono (Kd.R_far (p := ⟨gb1387, 4, none⟩) (Kd.R_far (p := ⟨gb1387, 3, none⟩) (Kd.R_far (p := ⟨gb1387, 2, none⟩) (Kd.R_far (p := ⟨gb1387, 1, none⟩) (Kd.R_far (p := ⟨gb1387, 0, none⟩) (Kd.R_types HO_1356003.out BK1387.out (by decide)) (fun _ hk => hk.2) (.int .i64 t1375)) (fun _ hk => hk.2) (.slice Ao51 t1376.length co51)) (fun _ hk => hk.2) (.slice Ao52 t1379.length co52)) (fun _ hk => hk.2) (.slice Ao53 t1382.length co53)) (fun _ hk => hk.2) (.int .i64 t1385)) (fun _ h_ => h_.1))) hb); have n3_ := Aside0.mk (Kd.R_below (by exact (Kd.R_mono (Kd.R_far (p := ⟨gb1387, 4, none⟩) (Kd.R_far (p := ⟨gb1387, 3, none⟩) (Kd.R_far (p := ⟨gb1387, 2, none⟩) (Kd.R_far (p := ⟨gb1387, 1, none⟩) (Kd.R_far (p := ⟨gb1387, 0, none⟩) (Kd.R_types HO_1369001.out BK1387.out (by decide)) (fun _ hk => hk.2) (.int .i64 t1375)) (fun _ hk => hk.2) (.slice Ao51 t1376.length co51)) (fun _ hk => hk.2) (.slice Ao52 t1379.length co52)) (fun _ hk => hk.2) (.slice Ao53 t1382.length co53)) (fun _ hk => hk.2) (.int .i64 t1385)) (fun _ h_ => h_.1))) hb); have n4_ := Aside0.mk (Kd.R_below (by exact (Kd.R_mono (Kd.R_far (p := ⟨gb1387, 4, none⟩) (Kd.R_far (p := ⟨gb1387, 3, none⟩) (Kd.R_far (p := ⟨gb1387, 2, none⟩) (Kd.R_far (p := ⟨gb1387, 1, none⟩) (Kd.R_far (p := ⟨gb1387, 0, none⟩) (Kd.R_types HO_1369002.out BK1387.out (by decide)) (fun _ hk => hk.2) (.int .i64 t1375)) (fun _ hk => hk.2) (.slice Ao51 t1376.length co51)) (fun _ hk => hk.2) (.slice Ao52 t1379.length co52)) (fun _ hk => hk.2) (.slice Ao53 t1382.length co53)) (fun _ hk => hk.2) (.int .i64 t1385)) (fun _ h_ => h_.1))) hb); have n5_ := Aside0.mk (Kd.R_below (by exact (Kd.R_mono (Kd.R_far (p := ⟨gb1387, 4, none⟩) (Kd.R_far (p := ⟨gb1387, 3, none⟩) (Kd.R_far (p := ⟨gb1387, 2, none⟩) (Kd.R_far (p := ⟨gb1387, 1, none⟩) (Kd.R_far (p := ⟨gb1387, 0, none⟩) (Kd.R_types HO_1369003.out BK1387.out (by decide)) (fun _ hk => hk.2) (.int .i64 t1375)) (fun _ hk => hk.2) (.slice Ao51 t1376.length co51)) (fun _ hk => hk.2) (.slice Ao52 t1379.length co52)) (fun _ hk => hk.2) (.slice Ao53 t1382.length co53)) (fun _ hk => hk.2) (.int .i64 t1385)) (fun _ h_ => h_.1))) hb); have n6_ := Aside0.mk (Kd.R_below (by exact (Kd.R_mono (Kd.R_far (p := ⟨gb1387, 4, none⟩) (Kd.R_far (p := ⟨gb1387, 3, none⟩) (Kd.R_far (p := ⟨gb1387, 2, none⟩) (Kd.R_far (p := ⟨gb1387, 1, none⟩) (Kd.R_far (p := ⟨gb1387, 0, none⟩) (Kd.R_types HO1378.out BK1387.out (by decide)) (fun _ hk => hk.2) (.int .i64 t1375)) (fun _ hk => hk.2) (.slice Ao51 t1376.length co51)) (fun _ hk => hk.2) (.slice Ao52 t1379.length co52)) (fun _ hk => hk.2) (.slice Ao53 t1382.length co53)) (fun _ hk => hk.2) (.int .i64 t1385)) (fun _ h_ => h_.1))) hb); have n7_ := Aside0.mk (Kd.R_below (by exact (Kd.R_mono (Kd.R_far (p := ⟨gb1387, 4, none⟩) (Kd.R_far (p := ⟨gb1387, 3, none⟩) (Kd.R_far (p := ⟨gb1387, 2, none⟩) (Kd.R_far (p := ⟨gb1387, 1, none⟩) (Kd.R_far (p := ⟨gb1387, 0, none⟩) (Kd.R_types HO1381.out BK1387.out (by decide)) (fun _ hk => hk.2) (.int .i64 t1375)) (fun _ hk => hk.2) (.slice Ao51 t1376.length co51)) (fun _ hk => hk.2) (.slice Ao52 t1379.length co52)) (fun _ hk => hk.2) (.slice Ao53 t1382.length co53)) (fun _ hk => hk.2) (.int .i64 t1385)) (fun _ h_ => h_.1))) hb); have n8_ := Aside0.mk (Kd.R_below (by exact (Kd.R_mono (Kd.R_far (p := ⟨gb1387, 4, none⟩) (Kd.R_far (p := ⟨gb1387, 3, none⟩) (Kd.R_far (p := ⟨gb1387, 2, none⟩) (Kd.R_far (p := ⟨gb1387, 1, none⟩) (Kd.R_far (p := ⟨gb1387, 0, none⟩) (Kd.R_types HO1384.out BK1387.out (by decide)) (fun _ hk => hk.2) (.int .i64 t1375)) (fun _ hk => hk.2) (.slice Ao51 t1376.length co51)) (fun _ hk => hk.2) (.slice Ao52 t1379.length co52)) (fun _ hk => hk.2) (.slice Ao53 t1382.length co53)) (fun _ hk => hk.2) (.int .i64 t1385)) (fun _ h_ => h_.1))) hb); have n9_ := Aside0.mk (blk_below (g := gb1355) (o := .cells #[.int .i64 t1343, .slice Ao9 t1344.length co9, .slice Ao10 t1347.length co10, .slice Ao11 t1350.length co11, .int .i64 t1353] 40 (0, 0)) (by refine blk_far ?_ NB1355_1387.out _; refine blk_far ?_ NB1355_1387.out _; refine blk_far ?_ NB1355_1387.out _; refine blk_far ?_ NB1355_1387.out _; refine blk_far ?_ NB1355_1387.out _; exact BK1355.out) hb); have n10_ := Aside0.mk (blk_below (g := gb1368) (o := .cells #[.int .i64 t1356, .slice Ao16 t1357.length co16, .slice Ao17 t1360.length co17, .slice Ao18 t1363.length co18, .int .i64 t1366] 40 (0, 0)) (by refine blk_far ?_ NB1368_1387.out _; refine blk_far ?_ NB1368_1387.out _; refine blk_far ?_ NB1368_1387.out _; refine blk_far ?_ NB1368_1387.out _; refine blk_far ?_ NB1368_1387.out _; exact BK1368.out) hb); have n11_ := Aside0.mk (blk_below (g := gb1387) (o := .cells #[.int .i64 t1375, .slice Ao51 t1376.length co51, .slice Ao52 t1379.length co52, .slice Ao53 t1382.length co53, .int .i64 t1385] 40 (0, 0)) (by refine blk_put (cs := #[.int .i64 t1375, .slice Ao51 t1376.length co51, .slice Ao52 t1379.length co52, .slice Ao53 t1382.length co53, .int .i64 0]) ?_ 4 _ rfl; refine blk_put (cs := #[.int .i64 t1375, .slice Ao51 t1376.length co51, .slice Ao52 t1379.length co52, .slice none 0 0, .int .i64 0]) ?_ 3 _ rfl; refine blk_put (cs := #[.int .i64 t1375, .slice Ao51 t1376.length co51, .slice none 0 0, .slice none 0 0, .int .i64 0]) ?_ 2 _ rfl; refine blk_put (cs := #[.int .i64 t1375, .slice none 0 0, .slice none 0 0, .slice none 0 0, .int .i64 0]) ?_ 1 _ rfl; refine blk_put (cs := #[.int .i64 0, .slice none 0 0, .slice none 0 0, .slice none 0 0, .int .i64 0]) ?_ 0 _ rfl; exact BK1387.out) hb); have n12_ := Aside0.mk (below_step (by repeat (with_reducible first | exact HB.out | refine below_set ?_ GE1387.out)) hb); clear HO_1356001; clear HO_1356002; clear HO_1356003; clear HO_1369001; clear HO_1369002; clear HO_1369003; clear HO1378; clear HO1381; clear HO1384; clear BK1355; clear BK1368; clear BK1387; clear HB; have HO_1356001 := n0_; have HO_1356002 := n1_; have HO_1356003 := n2_; have HO_1369001 := n3_; have HO_1369002 := n4_; have HO_1369003 := n5_; have HO1378 := n6_; have HO1381 := n7_; have HO1384 := n8_; have BK1355 := n9_; have BK1368 := n10_; have BK1387 := n11_; have HB := n12_; clear n0_ n1_ n2_ n3_ n4_ n5_ n6_ n7_ n8_ n9_ n10_ n11_ n12_; (try clear hb); (try clear hb2); (try clear hk); (try clear hi)))
         go_meet
         case rel => exact ⟨_, (true), rfl, H', ⟨by have := HJ4.out; omega⟩, ⟨by exact Kd.R_mono HO_1356001.out (fun _ hk => ⟨hk.1.1.1, ⟨hk.1.1.2.1, ⟨hk.1.1.2.2, ⟨hk.1.2, hk.2⟩⟩⟩⟩)⟩, ⟨by exact Kd.R_mono HO_1356002.out (fun _ hk => ⟨hk.1.1.1, ⟨hk.1.1.2.1, ⟨hk.1.1.2.2, ⟨hk.1.2, hk.2⟩⟩⟩⟩)⟩, ⟨HO_1356003.out⟩, ⟨by exact Kd.R_mono HO_1369001.out (fun _ hk => ⟨hk.1.1.1, ⟨hk.1.1.2.1, ⟨hk.1.1.2.2, ⟨hk.1.2, hk.2⟩⟩⟩⟩)⟩, ⟨by exact Kd.R_mono HO_1369002.out (fun _ hk => ⟨hk.1.1.1, ⟨hk.1.1.2.1, ⟨hk.1.1.2.2, ⟨hk.1.2, hk.2⟩⟩⟩⟩)⟩, ⟨HO_1369003.out⟩, ⟨by exact Kd.R_mono HO1378.out (fun _ hk => ⟨hk.1.1.1.2, ⟨hk.1.1.2, ⟨hk.1.2, ⟨hk.2, hk.1.1.1.1⟩⟩⟩⟩)⟩, ⟨by exact Kd.R_mono HO1381.out (fun _ hk => ⟨hk.1.1.1.2, ⟨hk.1.1.2, ⟨hk.1.2, ⟨hk.2, hk.1.1.1.1⟩⟩⟩⟩)⟩, ⟨by exact Kd.R_mono HO1384.out (fun _ hk => ⟨hk.1.2, hk.2⟩)⟩, ⟨BK1355.out⟩, ⟨BK1368.out⟩, ⟨BK1387.out⟩, ⟨HB.out⟩⟩
       case rest =>
        clear HC40
        try clear c32b0
        try clear c38b0
        try clear c38b1
        try clear hcz42_0
        try clear hcz42_1
        try clear hcz42_2
        try clear hcz42_3
        try clear hcz42_4
        try clear hcz44_0
        try clear hcz44_1
        try clear hcz44_2
        try clear hcz44_3
        try clear hcz44_4
        try clear hcz50_0
        try clear hcz50_1
        try clear hcz50_2
        try clear hcz50_3
        try clear hcz50_4
        try clear hfz42_0
        try clear hfz42_1
        try clear hfz42_2
        try clear hfz42_3
        try clear hfz42_4
        try clear hfz44_0
        try clear hfz44_1
        try clear hfz44_2
        try clear hfz44_3
        try clear hfz44_4
        try clear hfz50_0
        try clear hfz50_1
        try clear hfz50_2
        try clear hfz50_3
        try clear hfz50_4
        obtain ⟨kq, x57_39, rfl, HA, HJ39, HO_1356001, HO_1356002, HO_1356003, HO_1369001, HO_1369002, HO_1369003, HO_1388001, HO_1388002, HO_1388003, BK1355, BK1368, BK1387, HB⟩ := hcut
        have hl1369001_39 := (Kd.R_reads' HO_1369001.out).1
        rw [hl1369001_39] at HO_1369001
        (try simp only [hl1369001_39])
        (try simp only [hl1369001_39] at BK1355)
        (try simp only [hl1369001_39] at BK1368)
        (try simp only [hl1369001_39] at BK1387)
        (try simp only [hl1369001_39] at HO_1356001)
        (try simp only [hl1369001_39] at HO_1356002)
        (try simp only [hl1369001_39] at HO_1356003)
        (try simp only [hl1369001_39] at HO_1369002)
        (try simp only [hl1369001_39] at HO_1369003)
        (try simp only [hl1369001_39] at HO_1388001)
        (try simp only [hl1369001_39] at HO_1388002)
        (try simp only [hl1369001_39] at HO_1388003)
        have hl1369002_39 := (Kd.R_reads' HO_1369002.out).1
        rw [hl1369002_39] at HO_1369002
        (try simp only [hl1369002_39])
        (try simp only [hl1369002_39] at BK1355)
        (try simp only [hl1369002_39] at BK1368)
        (try simp only [hl1369002_39] at BK1387)
        (try simp only [hl1369002_39] at HO_1356001)
        (try simp only [hl1369002_39] at HO_1356002)
        (try simp only [hl1369002_39] at HO_1356003)
        (try simp only [hl1369002_39] at HO_1369001)
        (try simp only [hl1369002_39] at HO_1369003)
        (try simp only [hl1369002_39] at HO_1388001)
        (try simp only [hl1369002_39] at HO_1388002)
        (try simp only [hl1369002_39] at HO_1388003)
        have hl1369003_39 := (Kd.R_reads' HO_1369003.out).1
        rw [hl1369003_39] at HO_1369003
        (try simp only [hl1369003_39])
        (try simp only [hl1369003_39] at BK1355)
        (try simp only [hl1369003_39] at BK1368)
        (try simp only [hl1369003_39] at BK1387)
        (try simp only [hl1369003_39] at HO_1356001)
        (try simp only [hl1369003_39] at HO_1356002)
        (try simp only [hl1369003_39] at HO_1356003)
        (try simp only [hl1369003_39] at HO_1369001)
        (try simp only [hl1369003_39] at HO_1369002)
        (try simp only [hl1369003_39] at HO_1388001)
        (try simp only [hl1369003_39] at HO_1388002)
        (try simp only [hl1369003_39] at HO_1388003)
        cases kq with
        | zero => exact absurd HA.out (by simp [laws_FnExactParseTask.j1])
        | succ kj39 =>
         have H := HA.out
         clear HA
         simp only [laws_FnExactParseTask.j1] at H
         by_cases c68 : x57_39 = true
         ·subst c68
          rw [if_pos rfl] at H
          obtain rfl := Option.some.inj H
          go_wp2
          go_ret
          exact ⟨rfl, HB.out⟩
         ·replace c68 := Bool.eq_false_iff.mpr c68
          subst c68
          rw [if_neg (show ¬ (false = true) by decide)] at H
          replace H := Option.bind_eq_some_iff.mp H
          obtain ⟨t1389, A690, H⟩ := H
          have A69 := Aside0.mk A690
          clear A690
          by_cases c70 : t1389 < 0
          ·rw [if_pos c70] at H
           have c70b0 : decide (t1389 < 0) = true := decide_eq_true c70
           clear c70
           obtain rfl := Option.some.inj H
           have hnb71 := NB1368_1355.out
           have hnc71 := NB1355_1368.out
           have hnb72 := NB1368_1387.out
           have hnc72 := NB1387_1368.out
           have hcz73_0 : wc.cell? ⟨gb1368, 0, none⟩ = some (.int .i64 t1356) := (blk_cell BK1368.out 0).trans rfl
           have hcz73_1 : wc.cell? ⟨gb1368, 1, none⟩ = some (.slice Ao16 t1371.length co16) := (blk_cell BK1368.out 1).trans rfl
           have hcz73_2 : wc.cell? ⟨gb1368, 2, none⟩ = some (.slice Ao17 t1372.length co17) := (blk_cell BK1368.out 2).trans rfl
           have hcz73_3 : wc.cell? ⟨gb1368, 3, none⟩ = some (.slice Ao18 t1373.length co18) := (blk_cell BK1368.out 3).trans rfl
           have hcz73_4 : wc.cell? ⟨gb1368, 4, none⟩ = some (.int .i64 t1366) := (blk_cell BK1368.out 4).trans rfl
           have hfz73_0 := blk_frozen BK1368.out 0
           have hfz73_1 := blk_frozen BK1368.out 1
           have hfz73_2 := blk_frozen BK1368.out 2
           have hfz73_3 := blk_frozen BK1368.out 3
           have hfz73_4 := blk_frozen BK1368.out 4
           go_wp2_with (((with_reducible refine gate_callee (f := 44) rfl ?_); refine goesL_ (some 60) rfl rfl Try.func44 (by kernel_rfl) rfl #[.agg #[.int .i64 t1356, .slice Ao16 t1371.length co16, .slice Ao17 t1372.length co17, .slice Ao18 t1373.length co18, .int .i64 t1366], .int .i64 1] rfl (by (try simp only [List.map_toArray, List.map_cons, List.map_nil]); rfl) ?_; (with_reducible refine (laws_heldTask.calls kj39 t1356 _ _ t1371 _ _ t1372 _ _ t1373 t1366 1 t1389 _ ?side1 ?side2 ?side3 ?side4 ?side5 ?side6 A69.out).mono ?_); (case side1 => repeat (exact (Kd.R_reads' HO_1369001.out).2.2)); (case side2 => exact (Kd.R_reads' HO_1369001.out).2.1); (case side3 => repeat (exact (Kd.R_reads' HO_1369002.out).2.2)); (case side4 => exact (Kd.R_reads' HO_1369002.out).2.1); (case side5 => repeat (exact (Kd.R_reads' HO_1369003.out).2.2)); (case side6 => exact (Kd.R_reads' HO_1369003.out).2.1); rintro e w74 ⟨rfl, hb⟩; refine ⟨_, rfl, ?_⟩; have n0_ := Aside0.mk (Kd.R_below HO_1356001.out hb); have n1_ := Aside0.mk (Kd.R_below HO_1356002.out hb); have n2_ := Aside0.mk (Kd.R_below HO_1356003.out hb); have n3_ := Aside0.mk (Kd.R_below HO_1369001.out hb); have n4_ := Aside0.mk (Kd.R_below HO_1369002.out hb); have n5_ := Aside0.mk (Kd.R_below HO_1369003.out hb); have n6_ := Aside0.mk (Kd.R_below HO_1388001.out hb); have n7_ := Aside0.mk (Kd.R_below HO_1388002.out hb); have n8_ := Aside0.mk (Kd.R_below HO_1388003.out hb); have n9_ := Aside0.mk (blk_below (g := gb1355) (o := .cells #[.int .i64 t1343, .slice Ao9 t1344.length co9, .slice Ao10 t1347.length co10, .slice Ao11 t1350.length co11, .int .i64 t1353] 40 (0, 0)) BK1355.out hb); have n10_ := Aside0.mk (blk_below (g := gb1368) (o := .cells #[.int .i64 t1356, .slice Ao16 t1371.length co16, .slice Ao17 t1372.length co17, .slice Ao18 t1373.length co18, .int .i64 t1366] 40 (0, 0)) BK1368.out hb); have n11_ := Aside0.mk (blk_below (g := gb1387) (o := .cells #[.int .i64 t1375, .slice Ao51 t1376.length co51, .slice Ao52 t1379.length co52, .slice Ao53 t1382.length co53, .int .i64 t1385] 40 (0, 0)) BK1387.out hb); have n12_ := Aside0.mk (below_step HB.out hb); clear HO_1356001; clear HO_1356002; clear HO_1356003; clear HO_1369001; clear HO_1369002; clear HO_1369003; clear HO_1388001; clear HO_1388002; clear HO_1388003; clear BK1355; clear BK1368; clear BK1387; clear HB; have HO_1356001 := n0_; have HO_1356002 := n1_; have HO_1356003 := n2_; have HO_1369001 := n3_; have HO_1369002 := n4_; have HO_1369003 := n5_; have HO_1388001 := n6_; have HO_1388002 := n7_; have HO_1388003 := n8_; have BK1355 := n9_; have BK1368 := n10_; have BK1387 := n11_; have HB := n12_; clear n0_ n1_ n2_ n3_ n4_ n5_ n6_ n7_ n8_ n9_ n10_ n11_ n12_; (try clear hb); (try clear hb2); (try clear hk); (try clear hi)))
           go_ret
           exact ⟨rfl, HB.out⟩
          ·rw [if_neg c70] at H
           have c70b0 : decide (t1389 < 0) = false := decide_eq_false c70
           clear c70
           by_cases c75 : t1389 = t1370
           ·rw [if_pos c75] at H
            have c75b0 : (t1389 == t1370) = true := beq_iff_eq.mpr c75
            have c75b1 : (t1389 != t1370) = false := bne_eq_false_iff_eq.mpr c75
            clear c75
            obtain rfl := Option.some.inj H
            have hnb76 := NB1368_1355.out
            have hnc76 := NB1355_1368.out
            have hnb77 := NB1368_1387.out
            have hnc77 := NB1387_1368.out
            have hcz78_0 : wc.cell? ⟨gb1368, 0, none⟩ = some (.int .i64 t1356) := (blk_cell BK1368.out 0).trans rfl
            have hcz78_1 : wc.cell? ⟨gb1368, 1, none⟩ = some (.slice Ao16 t1371.length co16) := (blk_cell BK1368.out 1).trans rfl
            have hcz78_2 : wc.cell? ⟨gb1368, 2, none⟩ = some (.slice Ao17 t1372.length co17) := (blk_cell BK1368.out 2).trans rfl
            have hcz78_3 : wc.cell? ⟨gb1368, 3, none⟩ = some (.slice Ao18 t1373.length co18) := (blk_cell BK1368.out 3).trans rfl
            have hcz78_4 : wc.cell? ⟨gb1368, 4, none⟩ = some (.int .i64 t1366) := (blk_cell BK1368.out 4).trans rfl
            have hfz78_0 := blk_frozen BK1368.out 0
            have hfz78_1 := blk_frozen BK1368.out 1
            have hfz78_2 := blk_frozen BK1368.out 2
            have hfz78_3 := blk_frozen BK1368.out 3
            have hfz78_4 := blk_frozen BK1368.out 4
            go_wp2_with (((with_reducible refine gate_callee (f := 44) rfl ?_); refine goesL_ (some 60) rfl rfl Try.func44 (by kernel_rfl) rfl #[.agg #[.int .i64 t1356, .slice Ao16 t1371.length co16, .slice Ao17 t1372.length co17, .slice Ao18 t1373.length co18, .int .i64 t1366], .int .i64 1] rfl (by (try simp only [List.map_toArray, List.map_cons, List.map_nil]); rfl) ?_; (with_reducible refine (laws_heldTask.calls kj39 t1356 _ _ t1371 _ _ t1372 _ _ t1373 t1366 1 t1389 _ ?side1 ?side2 ?side3 ?side4 ?side5 ?side6 A69.out).mono ?_); (case side1 => repeat (exact (Kd.R_reads' HO_1369001.out).2.2)); (case side2 => exact (Kd.R_reads' HO_1369001.out).2.1); (case side3 => repeat (exact (Kd.R_reads' HO_1369002.out).2.2)); (case side4 => exact (Kd.R_reads' HO_1369002.out).2.1); (case side5 => repeat (exact (Kd.R_reads' HO_1369003.out).2.2)); (case side6 => exact (Kd.R_reads' HO_1369003.out).2.1); rintro e w79 ⟨rfl, hb⟩; refine ⟨_, rfl, ?_⟩; have n0_ := Aside0.mk (Kd.R_below HO_1356001.out hb); have n1_ := Aside0.mk (Kd.R_below HO_1356002.out hb); have n2_ := Aside0.mk (Kd.R_below HO_1356003.out hb); have n3_ := Aside0.mk (Kd.R_below HO_1369001.out hb); have n4_ := Aside0.mk (Kd.R_below HO_1369002.out hb); have n5_ := Aside0.mk (Kd.R_below HO_1369003.out hb); have n6_ := Aside0.mk (Kd.R_below HO_1388001.out hb); have n7_ := Aside0.mk (Kd.R_below HO_1388002.out hb); have n8_ := Aside0.mk (Kd.R_below HO_1388003.out hb); have n9_ := Aside0.mk (blk_below (g := gb1355) (o := .cells #[.int .i64 t1343, .slice Ao9 t1344.length co9, .slice Ao10 t1347.length co10, .slice Ao11 t1350.length co11, .int .i64 t1353] 40 (0, 0)) BK1355.out hb); have n10_ := Aside0.mk (blk_below (g := gb1368) (o := .cells #[.int .i64 t1356, .slice Ao16 t1371.length co16, .slice Ao17 t1372.length co17, .slice Ao18 t1373.length co18, .int .i64 t1366] 40 (0, 0)) BK1368.out hb); have n11_ := Aside0.mk (blk_below (g := gb1387) (o := .cells #[.int .i64 t1375, .slice Ao51 t1376.length co51, .slice Ao52 t1379.length co52, .slice Ao53 t1382.length co53, .int .i64 t1385] 40 (0, 0)) BK1387.out hb); have n12_ := Aside0.mk (below_step HB.out hb); clear HO_1356001; clear HO_1356002; clear HO_1356003; clear HO_1369001; clear HO_1369002; clear HO_1369003; clear HO_1388001; clear HO_1388002; clear HO_1388003; clear BK1355; clear BK1368; clear BK1387; clear HB; have HO_1356001 := n0_; have HO_1356002 := n1_; have HO_1356003 := n2_; have HO_1369001 := n3_; have HO_1369002 := n4_; have HO_1369003 := n5_; have HO_1388001 := n6_; have HO_1388002 := n7_; have HO_1388003 := n8_; have BK1355 := n9_; have BK1368 := n10_; have BK1387 := n11_; have HB := n12_; clear n0_ n1_ n2_ n3_ n4_ n5_ n6_ n7_ n8_ n9_ n10_ n11_ n12_; (try clear hb); (try clear hb2); (try clear hk); (try clear hi)))
            go_ret
            exact ⟨rfl, HB.out⟩
           ·rw [if_neg c75] at H
            have c75b0 : (t1389 == t1370) = false := beq_eq_false_iff_ne.mpr c75
            have c75b1 : (t1389 != t1370) = true := bne_iff_ne.mpr c75
            obtain rfl := Option.some.inj H
            have hnb80 := NB1368_1355.out
            have hnc80 := NB1355_1368.out
            have hnb81 := NB1368_1387.out
            have hnc81 := NB1387_1368.out
            have hcz82_0 : wc.cell? ⟨gb1368, 0, none⟩ = some (.int .i64 t1356) := (blk_cell BK1368.out 0).trans rfl
            have hcz82_1 : wc.cell? ⟨gb1368, 1, none⟩ = some (.slice Ao16 t1371.length co16) := (blk_cell BK1368.out 1).trans rfl
            have hcz82_2 : wc.cell? ⟨gb1368, 2, none⟩ = some (.slice Ao17 t1372.length co17) := (blk_cell BK1368.out 2).trans rfl
            have hcz82_3 : wc.cell? ⟨gb1368, 3, none⟩ = some (.slice Ao18 t1373.length co18) := (blk_cell BK1368.out 3).trans rfl
            have hcz82_4 : wc.cell? ⟨gb1368, 4, none⟩ = some (.int .i64 t1366) := (blk_cell BK1368.out 4).trans rfl
            have hfz82_0 := blk_frozen BK1368.out 0
            have hfz82_1 := blk_frozen BK1368.out 1
            have hfz82_2 := blk_frozen BK1368.out 2
            have hfz82_3 := blk_frozen BK1368.out 3
            have hfz82_4 := blk_frozen BK1368.out 4
            go_wp2_with (((with_reducible refine gate_callee (f := 44) rfl ?_); refine goesL_ (some 60) rfl rfl Try.func44 (by kernel_rfl) rfl #[.agg #[.int .i64 t1356, .slice Ao16 t1371.length co16, .slice Ao17 t1372.length co17, .slice Ao18 t1373.length co18, .int .i64 t1366], .int .i64 1] rfl (by (try simp only [List.map_toArray, List.map_cons, List.map_nil]); rfl) ?_; (with_reducible refine (laws_heldTask.calls kj39 t1356 _ _ t1371 _ _ t1372 _ _ t1373 t1366 1 t1389 _ ?side1 ?side2 ?side3 ?side4 ?side5 ?side6 A69.out).mono ?_); (case side1 => repeat (exact (Kd.R_reads' HO_1369001.out).2.2)); (case side2 => exact (Kd.R_reads' HO_1369001.out).2.1); (case side3 => repeat (exact (Kd.R_reads' HO_1369002.out).2.2)); (case side4 => exact (Kd.R_reads' HO_1369002.out).2.1); (case side5 => repeat (exact (Kd.R_reads' HO_1369003.out).2.2)); (case side6 => exact (Kd.R_reads' HO_1369003.out).2.1); rintro e w83 ⟨rfl, hb⟩; refine ⟨_, rfl, ?_⟩; have n0_ := Aside0.mk (Kd.R_below HO_1356001.out hb); have n1_ := Aside0.mk (Kd.R_below HO_1356002.out hb); have n2_ := Aside0.mk (Kd.R_below HO_1356003.out hb); have n3_ := Aside0.mk (Kd.R_below HO_1369001.out hb); have n4_ := Aside0.mk (Kd.R_below HO_1369002.out hb); have n5_ := Aside0.mk (Kd.R_below HO_1369003.out hb); have n6_ := Aside0.mk (Kd.R_below HO_1388001.out hb); have n7_ := Aside0.mk (Kd.R_below HO_1388002.out hb); have n8_ := Aside0.mk (Kd.R_below HO_1388003.out hb); have n9_ := Aside0.mk (blk_below (g := gb1355) (o := .cells #[.int .i64 t1343, .slice Ao9 t1344.length co9, .slice Ao10 t1347.length co10, .slice Ao11 t1350.length co11, .int .i64 t1353] 40 (0, 0)) BK1355.out hb); have n10_ := Aside0.mk (blk_below (g := gb1368) (o := .cells #[.int .i64 t1356, .slice Ao16 t1371.length co16, .slice Ao17 t1372.length co17, .slice Ao18 t1373.length co18, .int .i64 t1366] 40 (0, 0)) BK1368.out hb); have n11_ := Aside0.mk (blk_below (g := gb1387) (o := .cells #[.int .i64 t1375, .slice Ao51 t1376.length co51, .slice Ao52 t1379.length co52, .slice Ao53 t1382.length co53, .int .i64 t1385] 40 (0, 0)) BK1387.out hb); have n12_ := Aside0.mk (below_step HB.out hb); clear HO_1356001; clear HO_1356002; clear HO_1356003; clear HO_1369001; clear HO_1369002; clear HO_1369003; clear HO_1388001; clear HO_1388002; clear HO_1388003; clear BK1355; clear BK1368; clear BK1387; clear HB; have HO_1356001 := n0_; have HO_1356002 := n1_; have HO_1356003 := n2_; have HO_1369001 := n3_; have HO_1369002 := n4_; have HO_1369003 := n5_; have HO_1388001 := n6_; have HO_1388002 := n7_; have HO_1388003 := n8_; have BK1355 := n9_; have BK1368 := n10_; have BK1387 := n11_; have HB := n12_; clear n0_ n1_ n2_ n3_ n4_ n5_ n6_ n7_ n8_ n9_ n10_ n11_ n12_; (try clear hb); (try clear hb2); (try clear hk); (try clear hi)))
            go_ret
            exact ⟨rfl, HB.out⟩
      ·rw [if_neg c38] at H
       have c38b0 : (t1374 == t1370) = false := beq_eq_false_iff_ne.mpr c38
       have c38b1 : (t1374 != t1370) = true := bne_iff_ne.mpr c38
       obtain rfl := Option.some.inj H
       have hnb84 := NB1368_1355.out
       have hnc84 := NB1355_1368.out
       have hcz85_0 : wc.cell? ⟨gb1368, 0, none⟩ = some (.int .i64 t1356) := (blk_cell BK1368.out 0).trans rfl
       have hcz85_1 : wc.cell? ⟨gb1368, 1, none⟩ = some (.slice Ao16 t1357.length co16) := (blk_cell BK1368.out 1).trans rfl
       have hcz85_2 : wc.cell? ⟨gb1368, 2, none⟩ = some (.slice Ao17 t1360.length co17) := (blk_cell BK1368.out 2).trans rfl
       have hcz85_3 : wc.cell? ⟨gb1368, 3, none⟩ = some (.slice Ao18 t1363.length co18) := (blk_cell BK1368.out 3).trans rfl
       have hcz85_4 : wc.cell? ⟨gb1368, 4, none⟩ = some (.int .i64 t1366) := (blk_cell BK1368.out 4).trans rfl
       have hfz85_0 := blk_frozen BK1368.out 0
       have hfz85_1 := blk_frozen BK1368.out 1
       have hfz85_2 := blk_frozen BK1368.out 2
       have hfz85_3 := blk_frozen BK1368.out 3
       have hfz85_4 := blk_frozen BK1368.out 4
       go_wp2_with (first | ((with_reducible refine gate_callee (f := 43) rfl ?_); refine goesL_ (some 35) rfl rfl Try.func43 (by kernel_rfl) rfl #[.agg #[.int .i64 t1356, .slice Ao16 t1357.length co16, .slice Ao17 t1360.length co17, .slice Ao18 t1363.length co18, .int .i64 t1366], .int .i64 1] rfl (by (try simp only [List.map_toArray, List.map_cons, List.map_nil]); rfl) ?_; (with_reducible refine (laws_markTask.calls kj4 t1356 (fun k_ => some k_ = (.slice Ao16 t1357.length co16 : Value).ownBlock) (.slice Ao16 t1357.length co16) t1357 (fun k_ => some k_ = (.slice Ao17 t1360.length co17 : Value).ownBlock) (.slice Ao17 t1360.length co17) t1360 (fun k_ => some k_ = (.slice Ao18 t1363.length co18 : Value).ownBlock) (.slice Ao18 t1363.length co18) t1363 t1366 1 t1370 t1371 t1372 t1373 w _ ?side1 ?side2 ?side3 ?side4 ?side5 ?side6 A30.out).mono ?_); (case side1 => repeat (with_reducible exact HB.out)); (case side2 => exact Kd.R_tight rfl HO_1369001.out); (case side3 => exact fun k_ e_ => (HO_1369001.out.1 k_ e_.symm).2.2); (case side4 => exact Kd.R_tight rfl HO_1369002.out); (case side5 => exact fun k_ e_ => (HO_1369002.out.1 k_ e_.symm).2.2); (case side6 => exact Kd.R_tight rfl HO_1369003.out); rintro e w86 ⟨rfl, hy0, hy1, hy2, hb, hkp⟩; refine ⟨_, rfl, ?_⟩; have n0_ := Aside0.mk (Kd.R_mono (ok' := fun k_ => some k_ ≠ (.slice Ao10 t1347.length co10 : Value).ownBlock ∧ some k_ ≠ (.slice Ao16 t1357.length co16 : Value).ownBlock ∧ some k_ ≠ (.slice Ao17 t1360.length co17 : Value).ownBlock) (Kd.R_keptB ((Kd.R_apart' HO_1356001.out (Kd.R_typed HO_1369003.out) (by decide))) hkp (fun k_ hk_ hs_ => Or.elim hs_ (fun e_ => (hk_.1.2.1) e_) (fun e_ => Or.elim e_ (fun e_ => (hk_.1.2.2) e_) (fun e_ => (hk_.2) e_)))) (fun k_ hk_ => ⟨hk_.1.1.1, hk_.1.1.2.1, hk_.1.1.2.2⟩)); have n1_ := Aside0.mk (Kd.R_mono (ok' := fun k_ => some k_ ≠ (.slice Ao9 t1344.length co9 : Value).ownBlock ∧ some k_ ≠ (.slice Ao16 t1357.length co16 : Value).ownBlock ∧ some k_ ≠ (.slice Ao17 t1360.length co17 : Value).ownBlock) (Kd.R_keptB ((Kd.R_apart' HO_1356002.out (Kd.R_typed HO_1369003.out) (by decide))) hkp (fun k_ hk_ hs_ => Or.elim hs_ (fun e_ => (hk_.1.2.1) e_) (fun e_ => Or.elim e_ (fun e_ => (hk_.1.2.2) e_) (fun e_ => (hk_.2) e_)))) (fun k_ hk_ => ⟨hk_.1.1.1, hk_.1.1.2.1, hk_.1.1.2.2⟩)); have n2_ := Aside0.mk (Kd.R_mono (ok' := fun k_ => some k_ ≠ (.slice Ao18 t1363.length co18 : Value).ownBlock) (Kd.R_keptB ((Kd.R_apart' (Kd.R_apart' HO_1356003.out (Kd.R_typed HO_1369001.out) (by decide)) (Kd.R_typed HO_1369002.out) (by decide))) hkp (fun k_ hk_ hs_ => Or.elim hs_ (fun e_ => (hk_.1.2) e_) (fun e_ => Or.elim e_ (fun e_ => (hk_.2) e_) (fun e_ => (hk_.1.1) e_)))) (fun k_ hk_ => hk_.1.1.1)); have n3_ := Aside0.mk (Kd.R_reok rfl hy0 (fun k_ e_ => HO_1369001.out.1 k_ e_)); have n4_ := Aside0.mk (Kd.R_reok rfl hy1 (fun k_ e_ => HO_1369002.out.1 k_ e_)); have n5_ := Aside0.mk (Kd.R_reok rfl hy2 (fun k_ e_ => HO_1369003.out.1 k_ e_)); have n6_ := Aside0.mk (blk_kept BK1355.out hkp (fun hs_ => Or.elim hs_ (fun e_ => (fun e_ => (Kd.R_ne HO_1369001.out BK1355.out (by decide)) e_) e_) (fun e_ => Or.elim e_ (fun e_ => (fun e_ => (Kd.R_ne HO_1369002.out BK1355.out (by decide)) e_) e_) (fun e_ => (fun e_ => (Kd.R_ne HO_1369003.out BK1355.out (by decide)) e_) e_)))); have n7_ := Aside0.mk (blk_kept BK1368.out hkp (fun hs_ => Or.elim hs_ (fun e_ => (fun e_ => (Kd.R_ne HO_1369001.out BK1368.out (by decide)) e_) e_) (fun e_ => Or.elim e_ (fun e_ => (fun e_ => (Kd.R_ne HO_1369002.out BK1368.out (by decide)) e_) e_) (fun e_ => (fun e_ => (Kd.R_ne HO_1369003.out BK1368.out (by decide)) e_) e_)))); have n8_ := Aside0.mk (hb); clear HO_1356001; clear HO_1356002; clear HO_1356003; clear HO_1369001; clear HO_1369002; clear HO_1369003; clear BK1355; clear BK1368; clear HB; have HO_1356001 := n0_; have HO_1356002 := n1_; have HO_1356003 := n2_; have HO_1369001 := n3_; have HO_1369002 := n4_; have HO_1369003 := n5_; have BK1355 := n6_; have BK1368 := n7_; have HB := n8_; clear n0_ n1_ n2_ n3_ n4_ n5_ n6_ n7_ n8_; (try clear hb); (try clear hkp); (try clear hy0); (try clear hy1); (try clear hy2); have hcz87_0 : w86.cell? ⟨gb1368, 0, none⟩ = some (.int .i64 t1356) := (blk_cell BK1368.out 0).trans rfl; have hcz87_1 : w86.cell? ⟨gb1368, 1, none⟩ = some (.slice Ao16 t1357.length co16) := (blk_cell BK1368.out 1).trans rfl; have hcz87_2 : w86.cell? ⟨gb1368, 2, none⟩ = some (.slice Ao17 t1360.length co17) := (blk_cell BK1368.out 2).trans rfl; have hcz87_3 : w86.cell? ⟨gb1368, 3, none⟩ = some (.slice Ao18 t1363.length co18) := (blk_cell BK1368.out 3).trans rfl; have hcz87_4 : w86.cell? ⟨gb1368, 4, none⟩ = some (.int .i64 t1366) := (blk_cell BK1368.out 4).trans rfl; have hfz87_0 := blk_frozen BK1368.out 0; have hfz87_1 := blk_frozen BK1368.out 1; have hfz87_2 := blk_frozen BK1368.out 2; have hfz87_3 := blk_frozen BK1368.out 3; have hfz87_4 := blk_frozen BK1368.out 4) | ((with_reducible refine gate_callee (f := 44) rfl ?_); refine goesL_ (some 38) rfl rfl Try.func44 (by kernel_rfl) rfl #[.agg #[.int .i64 t1356, .slice Ao16 t1371.length co16, .slice Ao17 t1372.length co17, .slice Ao18 t1373.length co18, .int .i64 t1366], .int .i64 1] rfl (by (try simp only [List.map_toArray, List.map_cons, List.map_nil]); (rw [show t1371.length = t1357.length from (Kd.R_reads' HO_1369001.out).1.symm, show t1372.length = t1360.length from (Kd.R_reads' HO_1369002.out).1.symm, show t1373.length = t1363.length from (Kd.R_reads' HO_1369003.out).1.symm] <;> rfl)) ?_; (with_reducible refine (laws_heldTask.calls kj4 t1356 _ _ t1371 _ _ t1372 _ _ t1373 t1366 1 t1374 _ ?side1 ?side2 ?side3 ?side4 ?side5 ?side6 A31.out).mono ?_); (case side1 => repeat (exact (Kd.R_reads' HO_1369001.out).2.2)); (case side2 => rw [show t1371.length = t1357.length from (Kd.R_reads' HO_1369001.out).1.symm]; exact (Kd.R_reads' HO_1369001.out).2.1); (case side3 => repeat (exact (Kd.R_reads' HO_1369002.out).2.2)); (case side4 => rw [show t1372.length = t1360.length from (Kd.R_reads' HO_1369002.out).1.symm]; exact (Kd.R_reads' HO_1369002.out).2.1); (case side5 => repeat (exact (Kd.R_reads' HO_1369003.out).2.2)); (case side6 => rw [show t1373.length = t1363.length from (Kd.R_reads' HO_1369003.out).1.symm]; exact (Kd.R_reads' HO_1369003.out).2.1); rintro e w88 ⟨rfl, hb⟩; refine ⟨_, rfl, ?_⟩; have n0_ := Aside0.mk (Kd.R_below HO_1356001.out hb); have n1_ := Aside0.mk (Kd.R_below HO_1356002.out hb); have n2_ := Aside0.mk (Kd.R_below HO_1356003.out hb); have n3_ := Aside0.mk (Kd.R_below HO_1369001.out hb); have n4_ := Aside0.mk (Kd.R_below HO_1369002.out hb); have n5_ := Aside0.mk (Kd.R_below HO_1369003.out hb); have n6_ := Aside0.mk (blk_below (g := gb1355) (o := .cells #[.int .i64 t1343, .slice Ao9 t1344.length co9, .slice Ao10 t1347.length co10, .slice Ao11 t1350.length co11, .int .i64 t1353] 40 (0, 0)) BK1355.out hb); have n7_ := Aside0.mk (blk_below (g := gb1368) (o := .cells #[.int .i64 t1356, .slice Ao16 t1357.length co16, .slice Ao17 t1360.length co17, .slice Ao18 t1363.length co18, .int .i64 t1366] 40 (0, 0)) BK1368.out hb); have n8_ := Aside0.mk (below_step HB.out hb); clear HO_1356001; clear HO_1356002; clear HO_1356003; clear HO_1369001; clear HO_1369002; clear HO_1369003; clear BK1355; clear BK1368; clear HB; have HO_1356001 := n0_; have HO_1356002 := n1_; have HO_1356003 := n2_; have HO_1369001 := n3_; have HO_1369002 := n4_; have HO_1369003 := n5_; have BK1355 := n6_; have BK1368 := n7_; have HB := n8_; clear n0_ n1_ n2_ n3_ n4_ n5_ n6_ n7_ n8_; (try clear hb); (try clear hb2); (try clear hk); (try clear hi)))
       go_ret
       exact ⟨rfl, HB.out⟩

/-- THE ONE PURE STATEMENT of laws_FnExactParseTask: yours. -/
def laws_FnExactParseTask.Pure : Prop := ∀ (a0 : ByteArray), a0.size ≤ 140737488351232 → ∃ k, laws_FnExactParseTask.f k a0 = some true
theorem laws_FnExactParseTask.walk (P : laws_FnExactParseTask.Pure) (a0 : ByteArray) (w : World) (w0 : a0.size ≤ 140737488351232) :
  Calls Try.prog 5 #[.string a0] w fun e w' => e = .returned (.bool true) ∧ Below w.heap.size w w' := by
 obtain ⟨k, h⟩ := P a0 w0
 refine (laws_FnExactParseTask.calls k a0 true w h).mono ?_
 rintro e w' ⟨rfl, hd⟩
 exact ⟨rfl, hd⟩

end Go.Proofs.Ytobndcjmjhehjaa.P
