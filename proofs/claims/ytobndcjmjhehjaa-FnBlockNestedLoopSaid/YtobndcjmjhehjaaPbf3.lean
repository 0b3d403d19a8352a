/- For every code the law FnBlockNestedLoop of the given program returns true and leaves its argument as it was; no condition. -/
import Derived.Test.YtobndcjmjhehjaaPbf2
namespace Go.Proofs.Ytobndcjmjhehjaa.P
open Go.RowKit Go.Proofs.YtobndcjmjhehjaaW.PrintWords Go.Proofs.YtobndcjmjhehjaaW.PrintLast Go.Proofs.YtobndcjmjhehjaaW.PrintMore
attribute [local go_sem] max2_int min2_int max_two min_two max_three min_three max_four min_four   -- for this text's walks alone
set_option linter.unusedVariables false
set_option linter.unusedSimpArgs false
set_option maxHeartbeats 8000000
set_option maxRecDepth 100000
mutual
def spec_JoinChunk.l0 : Nat → List (S60) → List (S128) → Int → Int → List (S60) → List (S60) → List Bool → Int → Int → List (S60) → List (S60) → List Bool → Int → Option ((List (S128)) × Int × (List (S60)) × (List (S60)) × List Bool × Int)
 | 0, _, _, _, _, _, _, _, _, _, _, _, _, _ => none
 | k + 1, x1, x6, x8, x571000, x571001, x571002, x571003, x571004, x587000, x587001, x587002, x587003, x587004 => if x8 < (x571001.length : Int) then ((spec_IsValidTask.f k x571000 x571001 x571002 x571003 x571004).bind fun t587 => (spec_JoinChunk.j1 k x1 x6 x8 t587 x571000 x571001 x571002 x571003 x571004 x587000 x587001 x587002 x587003 x587004)) else (spec_JoinChunk.j1 k x1 x6 x8 false x571000 x571001 x571002 x571003 x571004 x587000 x587001 x587002 x587003 x587004)
def spec_JoinChunk.j1 : Nat → List (S60) → List (S128) → Int → Bool → Int → List (S60) → List (S60) → List Bool → Int → Int → List (S60) → List (S60) → List Bool → Int → Option ((List (S128)) × Int × (List (S60)) × (List (S60)) × List Bool × Int)
 | 0, _, _, _, _, _, _, _, _, _, _, _, _, _, _ => none
 | k + 1, x1, x6, x8, x21, x571000, x571001, x571002, x571003, x571004, x587000, x587001, x587002, x587003, x587004 => if x21 = true then (if 0 ≤ x8 then (if x8 < (x571001.length : Int) then ((spec_CountMatches.f k ((rd_T60 x571001 x8).f0) ((rd_T60 x571001 x8).f1) ((rd_T60 x571001 x8).f2) x1).bind fun t589 => (if t589 = 0 then (spec_JoinChunk.l0 k x1 x6 (wrap64 (x8 + 1)) x571000 x571001 x571002 x571003 x571004 x587000 x587001 x587002 x587003 x587004) else (if x571000 = 2 then (if x8 < (x571003.length : Int) then (if rdOf false x571003 x8 = true then (if x8 < (x587003.length : Int) then (spec_JoinChunk.l0 k x1 x6 (wrap64 (x8 + 1)) x571000 x571001 x571002 x571003 x571004 x587000 x587001 x587002 (x587003.set (x8 : Int).toNat true) x587004) else (none)) else (if x6.length < 2513169434916 then (if x8 < (x587003.length : Int) then (spec_JoinChunk.l0 k x1 (x6 ++ [(⟨(⟨(rd_T60 x571001 x8).f0, (rd_T60 x571001 x8).f1, (rd_T60 x571001 x8).f2⟩ : S60), (⟨0, 0, 0⟩ : S60), false⟩ : S128)]) (wrap64 (x8 + 1)) x571000 x571001 x571002 x571003 x571004 x587000 x587001 x587002 (x587003.set (x8 : Int).toNat true) x587004) else (none)) else (none))) else (none)) else (if x571000 = 1 then ((spec_l7One.f k 1 ((rd_T60 x571001 x8).f0) ((rd_T60 x571001 x8).f1) ((rd_T60 x571001 x8).f2) x1).bind fun t598 => (if x6.length + t598.length < 2513169434916 then (if x8 < (x587003.length : Int) then (spec_JoinChunk.l0 k x1 (x6 ++ t598) (wrap64 (x8 + 1)) x571000 x571001 x571002 x571003 x571004 x587000 x587001 x587002 (x587003.set (x8 : Int).toNat true) x587004) else (none)) else (none))) else (if x571000 = 4 then ((spec_l7One.f k 1 ((rd_T60 x571001 x8).f0) ((rd_T60 x571001 x8).f1) ((rd_T60 x571001 x8).f2) x1).bind fun t606 => (if x6.length + t606.length < 2513169434916 then (if x8 < (x587003.length : Int) then (spec_JoinChunk.l0 k x1 (x6 ++ t606) (wrap64 (x8 + 1)) x571000 x571001 x571002 x571003 x571004 x587000 x587001 x587002 (x587003.set (x8 : Int).toNat true) x587004) else (none)) else (none))) else (if x8 < (x587003.length : Int) then (spec_JoinChunk.l0 k x1 x6 (wrap64 (x8 + 1)) x571000 x571001 x571002 x571003 x571004 x587000 x587001 x587002 (x587003.set (x8 : Int).toNat true) x587004) else (none))))))) else (none)) else (none)) else (some (x6, x587000, x587001, x587002, x587003, x587004))
end
def spec_JoinChunk.f (k : Nat) (a0_0 : Int) (l0_1 : List (S60)) (l0_2 : List (S60)) (l0_3 : List Bool) (a0_4 : Int) (l1 : List (S60)) : Option ((List (S128)) × Int × (List (S60)) × (List (S60)) × List Bool × Int) := (spec_l16Copy.f a0_0 l0_1 l0_2 l0_3 a0_4).bind fun bt575 => (spec_JoinChunk.l0 k l1 (([] : List (S128))) 0 a0_0 l0_1 l0_2 l0_3 a0_4 bt575.1 bt575.2.1 bt575.2.2.1 bt575.2.2.2.1 bt575.2.2.2.2)
theorem spec_JoinChunk.calls (k : Nat) (a0_0 : Int) (A0_1 : Option Addr) (c0_1 : Nat) (l0_1 : List (S60)) (A0_2 : Option Addr) (c0_2 : Nat) (l0_2 : List (S60)) (A0_3 : Option Addr) (c0_3 : Nat) (l0_3 : List Bool) (a0_4 : Int) (A1 : Option Addr) (c1 : Nat) (l1 : List (S60)) (r1 : List (S128)) (r2 : Int) (r3 : List (S60)) (r4 : List (S60)) (r5 : List Bool) (r6 : Int) (w : World) (hr0_1 : Kd.C k60 w A0_1 l0_1.length l0_1) (hc0_1 : l0_1.length ≤ c0_1) (hr0_2 : Kd.C k60 w A0_2 l0_2.length l0_2) (hc0_2 : l0_2.length ≤ c0_2) (hr0_3 : Kd.C Kd.bool w A0_3 l0_3.length l0_3) (hc0_3 : l0_3.length ≤ c0_3) (hr1 : Kd.C k60 w A1 l1.length l1) (hc1 : l1.length ≤ c1) (h : spec_JoinChunk.f k a0_0 l0_1 l0_2 l0_3 a0_4 l1 = some (r1, r2, r3, r4, r5, r6)) :
  Calls Try.prog 120 #[.agg #[.int .i64 a0_0, .slice A0_1 l0_1.length c0_1, .slice A0_2 l0_2.length c0_2, .slice A0_3 l0_3.length c0_3, .int .i64 a0_4], .slice A1 l1.length c1] w fun e w' => ∃ v0_ v2_ v3_ v4_ : Value, e = .returned (.tuple #[v0_, .agg #[.int .i64 r2, v2_, v3_, v4_, .int .i64 r6]]) ∧ Kd.R k128 128 w' w.heap.size (fun _ => True) v0_ r1 ∧ Kd.R k60 60 w' w.heap.size (fun k_ => some k_ ≠ (v3_ : Value).ownBlock) v2_ r3 ∧ Kd.R k60 60 w' w.heap.size (fun k_ => some k_ ≠ (v2_ : Value).ownBlock) v3_ r4 ∧ Kd.R Kd.bool 4 w' w.heap.size (fun _ => True) v4_ r5 ∧ Below w.heap.size w w' := by
 have hu40 := Try.underlying40
 have hu60 := Try.underlying60
 have hu128 := Try.underlying128
 have HR0_1 := am hr0_1
 have HC0_1 := am hc0_1
 clear hr0_1 hc0_1
 have HR0_2 := am hr0_2
 have HC0_2 := am hc0_2
 clear hr0_2 hc0_2
 have HR0_3 := am hr0_3
 have HC0_3 := am hc0_3
 clear hr0_3 hc0_3
 have HR1 := am hr1
 have HC1 := am hc1
 clear hr1 hc1
 have HB := am (Below.refl w.heap.size w)
 have H : ((spec_l16Copy.f a0_0 l0_1 l0_2 l0_3 a0_4).bind fun bt575 => (spec_JoinChunk.l0 k l1 (([] : List (S128))) 0 a0_0 l0_1 l0_2 l0_3 a0_4 bt575.1 bt575.2.1 bt575.2.2.1 bt575.2.2.2.1 bt575.2.2.2.2)) = some (r1, r2, r3, r4, r5, r6) := h
 clear h
 obtain ⟨y572, hy572⟩ : ∃ y_ : List (S128), y_ = (([] : List (S128))) := ⟨_, rfl⟩
 replace H : ((spec_l16Copy.f a0_0 l0_1 l0_2 l0_3 a0_4).bind fun bt575 => (spec_JoinChunk.l0 k l1 y572 0 a0_0 l0_1 l0_2 l0_3 a0_4 bt575.1 bt575.2.1 bt575.2.2.1 bt575.2.2.2.1 bt575.2.2.2.2)) = some (r1, r2, r3, r4, r5, r6) := by (rw [hy572]; with_reducible exact H)
 have Ny572 := am hy572
 clear hy572
 replace H := Option.bind_eq_some_iff.mp H
 obtain ⟨⟨t575, t576, t579, t582, t585⟩, A30, H⟩ := H
 have A3 := am A30
 clear A30
 have H' := am H
 clear H
 go_enter Try.func120, Try.ntmps120
 go_wp2_with (first | ((with_reducible refine gate_dst (N := 2) rfl ?_); refine box_event ?hg (N := 2) ?hd (cs := #[.int .i64 a0_0, .slice A0_1 l0_1.length c0_1, .slice A0_2 l0_2.length c0_2, .slice A0_3 l0_3.length c0_3, .int .i64 a0_4]) (t := 40) ?hr ?_; (case hd => rfl); (case hg => rfl); (case hr => (go_simp; done)); intro gb570 hg w4 hbox hb; have BK570 := am (hbox); have GW570 := am (gw_ hg HB.out); have GE570 := am (gw_ hg HB.out); replace HB := am (below_step HB.out hb); clear hb hbox hg) | ((with_reducible refine gate_dst (N := 5) rfl ?_); refine box_event ?hg (N := 5) ?hd (cs := #[.int .i64 0, .slice none 0 0, .slice none 0 0, .slice none 0 0, .int .i64 0]) (t := 40) ?hr ?_; (case hd => rfl); (case hg => rfl); (case hr => (go_simp; done)); intro gb571 hg w5 hbox hb; have BK571 := am (hbox); have GW571 := am (gw_ hg HB.out); have GE571 := am (gw_ hg HB.out); replace HB := am (below_step HB.out hb); have NB570_571 := am ((by rw [hg]; exact Nat.ne_of_lt (blk_lt (g := gb570) (o := .cells #[.int .i64 a0_0, .slice A0_1 l0_1.length c0_1, .slice A0_2 l0_2.length c0_2, .slice A0_3 l0_3.length c0_3, .int .i64 a0_4] 40 (0, 0)) BK570.out) : gb570 ≠ gb571)); have NB571_570 := am ((by rw [hg]; exact Nat.ne_of_gt (blk_lt (g := gb570) (o := .cells #[.int .i64 a0_0, .slice A0_1 l0_1.length c0_1, .slice A0_2 l0_2.length c0_2, .slice A0_3 l0_3.length c0_3, .int .i64 a0_4] 40 (0, 0)) BK570.out) : gb571 ≠ gb570)); replace BK570 := am (blk_below BK570.out hb); clear hb hbox hg) | ((with_reducible refine gate_dst (N := 10) rfl ?_); refine Kd.R_lit k128 _ 128 ?hg (N := 10) ?hd (xs := ([] : List (S128))) (inner := []) (ok := fun _ => True) (okp := fun _ => True) ?hr ?hp (fun _ hk => hk) trivial (Below.refl _ _) (Nat.le_refl _) (by simp) ?_; (case hd => rfl); (case hg => rfl); (case hr => (go_simp; done)); (case hp => exact (Reps.none _ _)); intro v573 w6 ho7 hb hg_ hnew_; clear hg_ hnew_; (rw [← Ny572.out] at ho7); have HO574 := am (Kd.R_lower ho7 (below_size HB.out)); replace BK570 := am (blk_below BK570.out hb); replace BK571 := am (blk_below BK571.out hb); replace HB := am (below_step HB.out hb); clear hb ho7; have hnb8 := NB570_571.out; have hnc8 := NB571_570.out; obtain ⟨hcz9_0, hcz9_1, hcz9_2, hcz9_3, hcz9_4, hfz9_0, hfz9_1, hfz9_2, hfz9_3, hfz9_4⟩ := cells5_ BK570.out) | ((with_reducible refine gate_callee (f := 161) rfl ?_); refine goesL_ (some 12) rfl rfl Try.func161 (by kernel_rfl) rfl #[.agg #[.int .i64 a0_0, .slice A0_1 l0_1.length c0_1, .slice A0_2 l0_2.length c0_2, .slice A0_3 l0_3.length c0_3, .int .i64 a0_4]] rfl (by (try simp only [List.map_toArray, List.map_cons, List.map_nil]); rfl) ?_; (with_reducible refine (spec_l16Copy.calls a0_0 _ _ l0_1 _ _ l0_2 _ _ l0_3 a0_4 t575 t576 t579 t582 t585 _ ?side1 ?side2 ?side3 ?side4 ?side5 ?side6 A3.out).mono ?_); (case side1 => repeat (exact (Kd.C_below HR0_1.out HB.out))); (case side2 => exact HC0_1.out); (case side3 => repeat (exact (Kd.C_below HR0_2.out HB.out))); (case side4 => exact HC0_2.out); (case side5 => repeat (exact (Kd.C_below HR0_3.out HB.out))); (case side6 => exact HC0_3.out); rintro e w10 ⟨v577, v580, v583, rfl, ho0, ho1, ho2, hb⟩; refine ⟨_, rfl, ?_⟩; replace HO574 := am (Kd.R_below HO574.out hb); have HO578 := am (Kd.R_lower ho0 (below_size HB.out)); have HO581 := am (Kd.R_lower ho1 (below_size HB.out)); have HO584 := am (Kd.R_lower ho2 (below_size HB.out)); replace BK570 := am (blk_below BK570.out hb); replace BK571 := am (blk_below BK571.out hb); replace HB := am (below_step HB.out hb); (try clear hb); (try clear ho0); (try clear ho1); (try clear ho2)) | ((with_reducible refine gate_dst (N := 7) rfl ?_); refine box_event ?hg (N := 7) ?hd (cs := #[.int .i64 0, .slice none 0 0, .slice none 0 0, .slice none 0 0, .int .i64 0]) (t := 40) ?hr ?_; (case hd => rfl); (case hg => rfl); (case hr => (go_simp; done)); intro gb586 hg w11 hbox hb; replace HO574 := am (Kd.R_below HO574.out hb); replace HO578 := am (Kd.R_below HO578.out hb); replace HO581 := am (Kd.R_below HO581.out hb); replace HO584 := am (Kd.R_below HO584.out hb); have BK586 := am (hbox); have GW586 := am (gw_ hg HB.out); have GE586 := am (gw_ hg HB.out); replace HB := am (below_step HB.out hb); have NB570_586 := am ((by rw [hg]; exact Nat.ne_of_lt (blk_lt (g := gb570) (o := .cells #[.int .i64 a0_0, .slice A0_1 l0_1.length c0_1, .slice A0_2 l0_2.length c0_2, .slice A0_3 l0_3.length c0_3, .int .i64 a0_4] 40 (0, 0)) BK570.out) : gb570 ≠ gb586)); have NB586_570 := am ((by rw [hg]; exact Nat.ne_of_gt (blk_lt (g := gb570) (o := .cells #[.int .i64 a0_0, .slice A0_1 l0_1.length c0_1, .slice A0_2 l0_2.length c0_2, .slice A0_3 l0_3.length c0_3, .int .i64 a0_4] 40 (0, 0)) BK570.out) : gb586 ≠ gb570)); replace BK570 := am (blk_below BK570.out hb); have NB571_586 := am ((by rw [hg]; exact Nat.ne_of_lt (blk_lt (g := gb571) (o := .cells #[.int .i64 0, .slice none 0 0, .slice none 0 0, .slice none 0 0, .int .i64 0] 40 (0, 0)) BK571.out) : gb571 ≠ gb586)); have NB586_571 := am ((by rw [hg]; exact Nat.ne_of_gt (blk_lt (g := gb571) (o := .cells #[.int .i64 0, .slice none 0 0, .slice none 0 0, .slice none 0 0, .int .i64 0] 40 (0, 0)) BK571.out) : gb586 ≠ gb571)); replace BK571 := am (blk_below BK571.out hb); clear hb hbox hg; have hnb12 := NB586_570.out; have hnc12 := NB570_586.out; have hnb13 := NB586_571.out; have hnc13 := NB571_586.out; obtain ⟨hcz14_0, hcz14_1, hcz14_2, hcz14_3, hcz14_4, hfz14_0, hfz14_1, hfz14_2, hfz14_3, hfz14_4⟩ := cells5_ BK586.out; obtain ⟨Ao15, co15, eo15⟩ := Kd.R_slice HO578.out; subst eo15; obtain ⟨Ao16, co16, eo16⟩ := Kd.R_slice HO581.out; subst eo16; obtain ⟨Ao17, co17, eo17⟩ := Kd.R_slice HO584.out; subst eo17))
 go_loopg [6, 8] k (fun kq v6 v8 w' => ∃ (x6_1 : List (S128)) (x8_1 : Int) (x587003_1 : List Bool) (u587003 : Value), v8 = .int .i64 x8_1 ∧ Aside0 (spec_JoinChunk.l0 kq l1 x6_1 x8_1 a0_0 l0_1 l0_2 l0_3 a0_4 t575 t576 t579 x587003_1 t585 = some (r1, r2, r3, r4, r5, r6)) ∧ Aside0 (kq ≤ k) ∧ Aside0 (Kd.R k128 128 w' w.heap.size (fun _ => True) v6 x6_1) ∧ Aside0 (Kd.R k60 60 w' w.heap.size (fun k_ => some k_ ≠ ((.slice Ao16 t579.length co16) : Value).ownBlock) (.slice Ao15 t576.length co15) t576) ∧ Aside0 (Kd.R k60 60 w' w.heap.size (fun k_ => some k_ ≠ ((.slice Ao15 t576.length co15) : Value).ownBlock) (.slice Ao16 t579.length co16) t579) ∧ Aside0 (Kd.R Kd.bool 4 w' w.heap.size (fun _ => True) u587003 x587003_1) ∧ Aside0 (w'.heap[gb570]? = some (.cells #[.int .i64 a0_0, (.slice A0_1 l0_1.length c0_1), (.slice A0_2 l0_2.length c0_2), (.slice A0_3 l0_3.length c0_3), .int .i64 a0_4] 40 (0, 0))) ∧ Aside0 (w'.heap[gb571]? = some (.cells #[.int .i64 0, (.slice none 0 0), (.slice none 0 0), (.slice none 0 0), .int .i64 0] 40 (0, 0))) ∧ Aside0 (w'.heap[gb586]? = some (.cells #[.int .i64 t575, (.slice Ao15 t576.length co15), (.slice Ao16 t579.length co16), u587003, .int .i64 t585] 40 (0, 0))) ∧ Aside0 (Below w.heap.size w w'))
 case atStart => exact ⟨(y572), (0), (t582), (.slice Ao17 t582.length co17), rfl, H', ⟨Nat.le_refl _⟩, ⟨by exact Kd.R_mono (Kd.R_far (p := ⟨gb586, 4, none⟩) (Kd.R_far (p := ⟨gb586, 3, none⟩) (Kd.R_far (p := ⟨gb586, 2, none⟩) (Kd.R_far (p := ⟨gb586, 1, none⟩) (Kd.R_far (p := ⟨gb586, 0, none⟩) (Kd.R_types HO574.out BK586.out (by decide)) (fun _ hk => hk.2) (.int .i64 t575)) (fun _ hk => hk.2) (.slice Ao15 t576.length co15)) (fun _ hk => hk.2) (.slice Ao16 t579.length co16)) (fun _ hk => hk.2) (.slice Ao17 t582.length co17)) (fun _ hk => hk.2) (.int .i64 t585)) (fun _ hk => trivial)⟩, ⟨by exact Kd.R_mono (Kd.R_far (p := ⟨gb586, 4, none⟩) (Kd.R_far (p := ⟨gb586, 3, none⟩) (Kd.R_far (p := ⟨gb586, 2, none⟩) (Kd.R_far (p := ⟨gb586, 1, none⟩) (Kd.R_far (p := ⟨gb586, 0, none⟩) (Kd.R_types HO578.out BK586.out (by decide)) (fun _ hk => hk.2) (.int .i64 t575)) (fun _ hk => hk.2) (.slice Ao15 t576.length co15)) (fun _ hk => hk.2) (.slice Ao16 t579.length co16)) (fun _ hk => hk.2) (.slice Ao17 t582.length co17)) (fun _ hk => hk.2) (.int .i64 t585)) (fun _ hk => hk.1)⟩, ⟨by exact Kd.R_mono (Kd.R_far (p := ⟨gb586, 4, none⟩) (Kd.R_far (p := ⟨gb586, 3, none⟩) (Kd.R_far (p := ⟨gb586, 2, none⟩) (Kd.R_far (p := ⟨gb586, 1, none⟩) (Kd.R_far (p := ⟨gb586, 0, none⟩) (Kd.R_types HO581.out BK586.out (by decide)) (fun _ hk => hk.2) (.int .i64 t575)) (fun _ hk => hk.2) (.slice Ao15 t576.length co15)) (fun _ hk => hk.2) (.slice Ao16 t579.length co16)) (fun _ hk => hk.2) (.slice Ao17 t582.length co17)) (fun _ hk => hk.2) (.int .i64 t585)) (fun _ hk => hk.1)⟩, ⟨by exact Kd.R_mono (Kd.R_far (p := ⟨gb586, 4, none⟩) (Kd.R_far (p := ⟨gb586, 3, none⟩) (Kd.R_far (p := ⟨gb586, 2, none⟩) (Kd.R_far (p := ⟨gb586, 1, none⟩) (Kd.R_far (p := ⟨gb586, 0, none⟩) (Kd.R_types HO584.out BK586.out (by decide)) (fun _ hk => hk.2) (.int .i64 t575)) (fun _ hk => hk.2) (.slice Ao15 t576.length co15)) (fun _ hk => hk.2) (.slice Ao16 t579.length co16)) (fun _ hk => hk.2) (.slice Ao17 t582.length co17)) (fun _ hk => hk.2) (.int .i64 t585)) (fun _ hk => trivial)⟩, ⟨by refine blk_far ?_ NB570_586.out _; refine blk_far ?_ NB570_586.out _; refine blk_far ?_ NB570_586.out _; refine blk_far ?_ NB570_586.out _; refine blk_far ?_ NB570_586.out _; exact BK570.out⟩, ⟨by refine blk_far ?_ NB571_586.out _; refine blk_far ?_ NB571_586.out _; refine blk_far ?_ NB571_586.out _; refine blk_far ?_ NB571_586.out _; refine blk_far ?_ NB571_586.out _; exact BK571.out⟩, ⟨by refine blk_put (cs := #[.int .i64 t575, .slice Ao15 t576.length co15, .slice Ao16 t579.length co16, .slice Ao17 t582.length co17, .int .i64 0]) ?_ 4 _ rfl; refine blk_put (cs := #[.int .i64 t575, .slice Ao15 t576.length co15, .slice Ao16 t579.length co16, .slice none 0 0, .int .i64 0]) ?_ 3 _ rfl; refine blk_put (cs := #[.int .i64 t575, .slice Ao15 t576.length co15, .slice none 0 0, .slice none 0 0, .int .i64 0]) ?_ 2 _ rfl; refine blk_put (cs := #[.int .i64 t575, .slice none 0 0, .slice none 0 0, .slice none 0 0, .int .i64 0]) ?_ 1 _ rfl; refine blk_put (cs := #[.int .i64 0, .slice none 0 0, .slice none 0 0, .slice none 0 0, .int .i64 0]) ?_ 0 _ rfl; exact BK586.out⟩, ⟨by repeat ((with_reducible first | exact HB.out | refine below_set ?_ GE586.out))⟩⟩
 case round =>
  clear H'
  try clear hcz14_0
  try clear hcz14_1
  try clear hcz14_2
  try clear hcz14_3
  try clear hcz14_4
  try clear hcz9_0
  try clear hcz9_1
  try clear hcz9_2
  try clear hcz9_3
  try clear hcz9_4
  try clear hfz14_0
  try clear hfz14_1
  try clear hfz14_2
  try clear hfz14_3
  try clear hfz14_4
  try clear hfz9_0
  try clear hfz9_1
  try clear hfz9_2
  try clear hfz9_3
  try clear hfz9_4
  obtain ⟨x6_1, x8_1, x587003_1, u587003, rfl, HA, HK1, HO_6, HO_587001, HO_587002, HO_587003, BK570, BK571, BK586, HB⟩ := hrel
  cases gk with
  | zero => exact absurd HA.out (by simp [spec_JoinChunk.l0])
  | succ k1 =>
   have H := HA.out
   clear HA
   simp only [spec_JoinChunk.l0] at H
   have HC18 := am H
   clear H
   go_upto_region 4 with (fail)
   go_cut [21] (fun v21 wc => ∃ (kq : Nat) (x21_17 : Bool), v21 = .bool x21_17 ∧ Aside0 (spec_JoinChunk.j1 kq l1 x6_1 x8_1 x21_17 a0_0 l0_1 l0_2 l0_3 a0_4 t575 t576 t579 x587003_1 t585 = some (r1, r2, r3, r4, r5, r6)) ∧ Aside0 (kq ≤ k1) ∧ Aside0 (Kd.R k128 128 wc w.heap.size (fun _ => True) u6 x6_1) ∧ Aside0 (Kd.R k60 60 wc w.heap.size (fun k_ => some k_ ≠ ((.slice Ao16 t579.length co16) : Value).ownBlock) (.slice Ao15 t576.length co15) t576) ∧ Aside0 (Kd.R k60 60 wc w.heap.size (fun k_ => some k_ ≠ ((.slice Ao15 t576.length co15) : Value).ownBlock) (.slice Ao16 t579.length co16) t579) ∧ Aside0 (Kd.R Kd.bool 4 wc w.heap.size (fun _ => True) u587003 x587003_1) ∧ Aside0 (wc.heap[gb570]? = some (.cells #[.int .i64 a0_0, (.slice A0_1 l0_1.length c0_1), (.slice A0_2 l0_2.length c0_2), (.slice A0_3 l0_3.length c0_3), .int .i64 a0_4] 40 (0, 0))) ∧ Aside0 (wc.heap[gb571]? = some (.cells #[.int .i64 0, (.slice none 0 0), (.slice none 0 0), (.slice none 0 0), .int .i64 0] 40 (0, 0))) ∧ Aside0 (wc.heap[gb586]? = some (.cells #[.int .i64 t575, (.slice Ao15 t576.length co15), (.slice Ao16 t579.length co16), u587003, .int .i64 t585] 40 (0, 0))) ∧ Aside0 (Below w.heap.size w wc))
   case first =>
    have H := HC18.out
    clear HC18
    by_cases c19 : x8_1 < (l0_1.length : Int)
    ·rw [if_pos c19] at H
     have c19b0 : decide (x8_1 < (l0_1.length : Int)) = true := decide_eq_true c19
     clear c19
     (skip)
     replace H := Option.bind_eq_some_iff.mp H
     obtain ⟨t587, A200, H⟩ := H
     have A20 := am A200
     clear A200
     have H' := am H
     clear H
     have hnb21 := NB570_571.out
     have hnc21 := NB571_570.out
     have hnb22 := NB570_586.out
     have hnc22 := NB586_570.out
     obtain ⟨hcz23_0, hcz23_1, hcz23_2, hcz23_3, hcz23_4, hfz23_0, hfz23_1, hfz23_2, hfz23_3, hfz23_4⟩ := cells5_ BK570.out
     go_wp2_with ((go_at_call 65; (with_reducible refine (spec_IsValidTask.calls k1 a0_0 _ _ l0_1 _ _ l0_2 _ _ l0_3 a0_4 t587 _ ?side1 ?side2 ?side3 ?side4 ?side5 ?side6 A20.out).mono ?_); (case side1 => repeat (exact (Kd.C_below HR0_1.out HB.out))); (case side2 => exact HC0_1.out); (case side3 => repeat (exact (Kd.C_below HR0_2.out HB.out))); (case side4 => exact HC0_2.out); (case side5 => repeat (exact (Kd.C_below HR0_3.out HB.out))); (case side6 => exact HC0_3.out); rintro e w24 ⟨rfl, hb⟩; replace HO_6 := am (Kd.R_below HO_6.out hb); replace HO_587001 := am (Kd.R_below HO_587001.out hb); replace HO_587002 := am (Kd.R_below HO_587002.out hb); replace HO_587003 := am (Kd.R_below HO_587003.out hb); replace BK570 := am (blk_below BK570.out hb); replace BK571 := am (blk_below BK571.out hb); replace BK586 := am (blk_below BK586.out hb); replace HB := am (below_step HB.out hb); (try clear hb)))
     go_meet
     case rel => exact ⟨_, (t587), rfl, H', ⟨by have := HK1.out; omega⟩, ⟨HO_6.out⟩, ⟨HO_587001.out⟩, ⟨HO_587002.out⟩, ⟨HO_587003.out⟩, ⟨BK570.out⟩, ⟨BK571.out⟩, ⟨BK586.out⟩, ⟨HB.out⟩⟩
    ·rw [if_neg c19] at H
     have c19b0 : decide (x8_1 < (l0_1.length : Int)) = false := decide_eq_false c19
     clear c19
     (skip)
     have H' := am H
     clear H
     have hnb25 := NB570_571.out
     have hnc25 := NB571_570.out
     have hnb26 := NB570_586.out
     have hnc26 := NB586_570.out
     obtain ⟨hcz27_0, hcz27_1, hcz27_2, hcz27_3, hcz27_4, hfz27_0, hfz27_1, hfz27_2, hfz27_3, hfz27_4⟩ := cells5_ BK570.out
     go_wp2
     go_meet
     case rel => exact ⟨_, (false), rfl, H', ⟨by have := HK1.out; omega⟩, ⟨HO_6.out⟩, ⟨HO_587001.out⟩, ⟨HO_587002.out⟩, ⟨HO_587003.out⟩, ⟨BK570.out⟩, ⟨BK571.out⟩, ⟨BK586.out⟩, ⟨HB.out⟩⟩
   case rest =>
    clear HC18
    obtain ⟨kq, x21_17, rfl, HA, HJ17, HO_6, HO_587001, HO_587002, HO_587003, BK570, BK571, BK586, HB⟩ := hcut
    cases kq with
    | zero => exact absurd HA.out (by simp [spec_JoinChunk.j1])
    | succ kj17 =>
     have H := HA.out
     clear HA
     simp only [spec_JoinChunk.j1] at H
     by_cases c28 : x21_17 = true
     ·subst c28
      rw [if_pos rfl] at H
      by_cases c29 : 0 ≤ x8_1
      ·rw [if_pos c29] at H
       have c29b0 : decide (0 ≤ x8_1) = true := decide_eq_true c29
       clear c29
       by_cases c30 : x8_1 < (l0_1.length : Int)
       ·rw [if_pos c30] at H
        have c30b0 : decide (x8_1 < (l0_1.length : Int)) = true := decide_eq_true c30
        clear c30
        replace H := Option.bind_eq_some_iff.mp H
        obtain ⟨t589, A310, H⟩ := H
        have A31 := am A310
        clear A310
        by_cases c32 : t589 = 0
        ·rw [if_pos c32] at H
         have c32b0 : (t589 == 0) = true := beq_iff_eq.mpr c32
         have c32b1 : (t589 != 0) = false := bne_eq_false_iff_eq.mpr c32
         clear c32
         have H' := am H
         clear H
         have hnb33 := NB570_571.out
         have hnc33 := NB571_570.out
         have hnb34 := NB570_586.out
         have hnc34 := NB586_570.out
         obtain ⟨hcz35_0, hcz35_1, hcz35_2, hcz35_3, hcz35_4, hfz35_0, hfz35_1, hfz35_2, hfz35_3, hfz35_4⟩ := cells5_ BK570.out
         have p588 : 0 ≤ (x8_1 : Int) := of_decide_eq_true (by (with_reducible assumption))
         have q588 : x8_1 < (l0_1.length : Int) := of_decide_eq_true (by (with_reducible assumption))
         obtain ⟨ad588, e588, hx588_0, hx588_1, hx588_2⟩ := at_T60 HR0_1.out x8_1 p588 q588
         cases e588
         replace hx588_0 := bc_ HB.out hx588_0
         replace hx588_1 := bc_ HB.out hx588_1
         replace hx588_2 := bc_ HB.out hx588_2
         replace p588 := eq_true p588
         replace q588 := eq_true q588
         go_wp2_with (((with_reducible refine gate_callee (f := 181) rfl ?_); refine goesL_ (some 30) rfl rfl Try.func181 (by kernel_rfl) rfl #[.agg #[.int .i64 ((rd_T60 l0_1 x8_1).f0), .int .i64 ((rd_T60 l0_1 x8_1).f1), .int .i64 ((rd_T60 l0_1 x8_1).f2)], .slice A1 l1.length c1] rfl (by (try simp only [List.map_toArray, List.map_cons, List.map_nil]); rfl) ?_; (with_reducible refine (spec_CountMatches.calls kj17 ((rd_T60 l0_1 x8_1).f0) ((rd_T60 l0_1 x8_1).f1) ((rd_T60 l0_1 x8_1).f2) _ _ l1 t589 _ ?side1 ?side2 A31.out).mono ?_); (case side1 => repeat (exact (Kd.C_below HR1.out HB.out))); (case side2 => exact HC1.out); rintro e w36 ⟨rfl, hb⟩; refine ⟨_, rfl, ?_⟩; replace HO_6 := am (Kd.R_below HO_6.out hb); replace HO_587001 := am (Kd.R_below HO_587001.out hb); replace HO_587002 := am (Kd.R_below HO_587002.out hb); replace HO_587003 := am (Kd.R_below HO_587003.out hb); replace BK570 := am (blk_below BK570.out hb); replace BK571 := am (blk_below BK571.out hb); replace BK586 := am (blk_below BK586.out hb); replace HB := am (below_step HB.out hb); (try clear hb)))
         go_roundg kj17
         case measure => have := HK1.out; have := HJ17.out; omega
         case rel => exact ⟨(x6_1), (wrap64 (x8_1 + 1)), (x587003_1), (u587003), rfl, H', ⟨by have := HK1.out; have := HJ17.out; omega⟩, ⟨HO_6.out⟩, ⟨HO_587001.out⟩, ⟨HO_587002.out⟩, ⟨HO_587003.out⟩, ⟨BK570.out⟩, ⟨BK571.out⟩, ⟨BK586.out⟩, ⟨HB.out⟩⟩
        ·rw [if_neg c32] at H
         have c32b0 : (t589 == 0) = false := beq_eq_false_iff_ne.mpr c32
         have c32b1 : (t589 != 0) = true := bne_iff_ne.mpr c32
         by_cases c37 : a0_0 = 2
         ·rw [if_pos c37] at H
          have c37b0 : (a0_0 == 2) = true := beq_iff_eq.mpr c37
          have c37b1 : (a0_0 != 2) = false := bne_eq_false_iff_eq.mpr c37
          clear c37
          by_cases c38 : x8_1 < (l0_3.length : Int)
          ·rw [if_pos c38] at H
           have c38b0 : decide (x8_1 < (l0_3.length : Int)) = true := decide_eq_true c38
           clear c38
           obtain ⟨bq39, hbq39⟩ : ∃ b_ : Bool, b_ = (rdOf false l0_3 x8_1) := ⟨_, rfl⟩
           replace H : (if bq39 = true then (if x8_1 < (x587003_1.length : Int) then (spec_JoinChunk.l0 kj17 l1 x6_1 (wrap64 (x8_1 + 1)) a0_0 l0_1 l0_2 l0_3 a0_4 t575 t576 t579 (x587003_1.set (x8_1 : Int).toNat true) t585) else (none)) else (if x6_1.length < 2513169434916 then (if x8_1 < (x587003_1.length : Int) then (spec_JoinChunk.l0 kj17 l1 (x6_1 ++ [(⟨(⟨(rd_T60 l0_1 x8_1).f0, (rd_T60 l0_1 x8_1).f1, (rd_T60 l0_1 x8_1).f2⟩ : S60), (⟨0, 0, 0⟩ : S60), false⟩ : S128)]) (wrap64 (x8_1 + 1)) a0_0 l0_1 l0_2 l0_3 a0_4 t575 t576 t579 (x587003_1.set (x8_1 : Int).toNat true) t585) else (none)) else (none))) = some (r1, r2, r3, r4, r5, r6) := by rw [← hbq39] at H; exact H
           have Nbq39 := am hbq39
           clear hbq39
           by_cases c40 : bq39 = true
           ·subst c40
            rw [if_pos rfl] at H
            by_cases c41 : x8_1 < (x587003_1.length : Int)
            ·rw [if_pos c41] at H
             have c41b0 : decide (x8_1 < (x587003_1.length : Int)) = true := decide_eq_true c41
             clear c41
             obtain ⟨y591, hy591⟩ : ∃ y_ : List Bool, y_ = (x587003_1.set (x8_1 : Int).toNat true) := ⟨_, rfl⟩
             replace H : (spec_JoinChunk.l0 kj17 l1 x6_1 (wrap64 (x8_1 + 1)) a0_0 l0_1 l0_2 l0_3 a0_4 t575 t576 t579 y591 t585) = some (r1, r2, r3, r4, r5, r6) := by (rw [hy591]; with_reducible exact H)
             have Ny591 := am hy591
             clear hy591
             have H' := am H
             clear H
             have hnb43 := NB570_571.out
             have hnc43 := NB571_570.out
             have hnb44 := NB570_586.out
             have hnc44 := NB586_570.out
             obtain ⟨hcz45_0, hcz45_1, hcz45_2, hcz45_3, hcz45_4, hfz45_0, hfz45_1, hfz45_2, hfz45_3, hfz45_4⟩ := cells5_ BK570.out
             have p588 : 0 ≤ (x8_1 : Int) := of_decide_eq_true (by (with_reducible assumption))
             have q588 : x8_1 < (l0_1.length : Int) := of_decide_eq_true (by (with_reducible assumption))
             obtain ⟨ad588, e588, hx588_0, hx588_1, hx588_2⟩ := at_T60 HR0_1.out x8_1 p588 q588
             cases e588
             replace hx588_0 := bc_ HB.out hx588_0
             replace hx588_1 := bc_ HB.out hx588_1
             replace hx588_2 := bc_ HB.out hx588_2
             replace p588 := eq_true p588
             replace q588 := eq_true q588
             go_wp2_with (first | ((with_reducible refine gate_callee (f := 181) rfl ?_); refine goesL_ (some 30) rfl rfl Try.func181 (by kernel_rfl) rfl #[.agg #[.int .i64 ((rd_T60 l0_1 x8_1).f0), .int .i64 ((rd_T60 l0_1 x8_1).f1), .int .i64 ((rd_T60 l0_1 x8_1).f2)], .slice A1 l1.length c1] rfl (by (try simp only [List.map_toArray, List.map_cons, List.map_nil]); rfl) ?_; (with_reducible refine (spec_CountMatches.calls kj17 ((rd_T60 l0_1 x8_1).f0) ((rd_T60 l0_1 x8_1).f1) ((rd_T60 l0_1 x8_1).f2) _ _ l1 t589 _ ?side1 ?side2 A31.out).mono ?_); (case side1 => repeat (exact (Kd.C_below HR1.out HB.out))); (case side2 => exact HC1.out); rintro e w46 ⟨rfl, hb⟩; refine ⟨_, rfl, ?_⟩; replace HO_6 := am (Kd.R_below HO_6.out hb); replace HO_587001 := am (Kd.R_below HO_587001.out hb); replace HO_587002 := am (Kd.R_below HO_587002.out hb); replace HO_587003 := am (Kd.R_below HO_587003.out hb); replace BK570 := am (blk_below BK570.out hb); replace BK571 := am (blk_below BK571.out hb); replace BK586 := am (blk_below BK586.out hb); replace HB := am (below_step HB.out hb); (try clear hb); obtain ⟨hcz47_0, hcz47_1, hcz47_2, hcz47_3, hcz47_4, hfz47_0, hfz47_1, hfz47_2, hfz47_3, hfz47_4⟩ := cells5_ BK570.out; have p590 : 0 ≤ (x8_1 : Int) := of_decide_eq_true (by (with_reducible assumption)); have q590 : x8_1 < (l0_3.length : Int) := of_decide_eq_true (by (with_reducible assumption)); obtain ⟨ad590, e590, hx590_0⟩ := Kd.at_bool HR0_3.out x8_1 p590 q590; (try rw [← Nbq39.out] at hx590_0); cases e590; replace hx590_0 := bc_ HB.out hx590_0; replace p590 := eq_true p590; replace q590 := eq_true q590; have hnb48 := NB586_571.out; have hnc48 := NB571_586.out; obtain ⟨hcz49_0, hcz49_1, hcz49_2, hcz49_3, hcz49_4, hfz49_0, hfz49_1, hfz49_2, hfz49_3, hfz49_4⟩ := cells5_ BK586.out; have p42 : 0 ≤ (x8_1 : Int) := of_decide_eq_true (by (with_reducible assumption)); have q42 : (x8_1 : Int) < ((x587003_1.length : Int) : Int) := of_decide_eq_true (by (with_reducible assumption)); obtain ⟨go42, co42, eo42, gb42, gl42, cl42, HG42⟩ := Kd.R_form HO_587003.out (by omega); (cases eo42); have GB42 := am gb42; have GG42 := am HG42; clear gb42 gl42 HG42; obtain ⟨hx42_0, hf42_0⟩ := Kd.R_celln false HO_587003.out (x8_1 : Int) p42 q42; replace p42 := eq_true p42; replace q42 := eq_true q42; obtain ⟨hy50_, hz50_⟩ := Kd.R_celln false HO_587003.out (x8_1 : Int) (of_decide_eq_true (by (with_reducible assumption))) (of_decide_eq_true (by (with_reducible assumption))); have HP50 := Kd.R_putg HO_587003.out (x8_1 : Int) true) | ((with_reducible refine gate_store (t := 4) (p := 67) rfl ?_); refine store_event (t := 4) (p := 67) (v := ?vo_w51) (w1 := (w46.setCell ⟨go42, (x8_1 : Int).toNat, none⟩ (.bool true))) ?hg ?ho ?hn ?hr ?_; (case ho => rfl); (case hg => rfl); (case hn => rfl); (case hr => (go_simp; done)); intro w51 hw; have hg : w46.grownBy w51 (some go42) := (by rw [hw]; exact HP50.2); have hp_ : Kd.R Kd.bool 4 w51 w.heap.size (fun _ => True) (.slice (some ⟨go42, 0, none⟩) x587003_1.length co42) y591 := (by rw [hw, Ny591.out]; exact HP50.1); clear HP50; replace HO_6 := am (Kd.R_over' (v := (.slice (some ⟨go42, 0, none⟩) x587003_1.length co42)) HO_6.out (Kd.R_typed HO_587003.out) (by decide) hg); replace HO_587001 := am (Kd.R_over' (v := (.slice (some ⟨go42, 0, none⟩) x587003_1.length co42)) HO_587001.out (Kd.R_typed HO_587003.out) (by decide) hg); replace HO_587002 := am (Kd.R_over' (v := (.slice (some ⟨go42, 0, none⟩) x587003_1.length co42)) HO_587002.out (Kd.R_typed HO_587003.out) (by decide) hg); replace BK570 := am (blk_grown BK570.out hg (Kd.R_ne HO_587003.out BK570.out (by decide))); replace BK571 := am (blk_grown BK571.out hg (Kd.R_ne HO_587003.out BK571.out (by decide))); replace BK586 := am (blk_grown BK586.out hg (Kd.R_ne HO_587003.out BK586.out (by decide))); replace HO_587003 := am (hp_); replace HB := am (by rw [hw]; exact below_set HB.out GB42.out : Below w.heap.size w w51); clear hg hw hp_))
             go_roundg kj17
             case measure => have := HK1.out; have := HJ17.out; omega
             case rel => exact ⟨(x6_1), (wrap64 (x8_1 + 1)), (y591), (.slice (some ⟨go42, 0, none⟩) x587003_1.length co42), rfl, H', ⟨by have := HK1.out; have := HJ17.out; omega⟩, ⟨HO_6.out⟩, ⟨HO_587001.out⟩, ⟨HO_587002.out⟩, ⟨HO_587003.out⟩, ⟨BK570.out⟩, ⟨BK571.out⟩, ⟨BK586.out⟩, ⟨HB.out⟩⟩
            ·rw [if_neg c41] at H
             exact absurd H (by simp)
           ·replace c40 := Bool.eq_false_iff.mpr c40
            subst c40
            rw [if_neg (show ¬ (false = true) by decide)] at H
            by_cases c52 : x6_1.length < 2513169434916
            ·rw [if_pos c52] at H
             have LMc52 := am c52
             clear c52
             obtain ⟨y593, hy593⟩ : ∃ y_ : List (S128), y_ = (x6_1 ++ [(⟨(⟨(rd_T60 l0_1 x8_1).f0, (rd_T60 l0_1 x8_1).f1, (rd_T60 l0_1 x8_1).f2⟩ : S60), (⟨0, 0, 0⟩ : S60), false⟩ : S128)]) := ⟨_, rfl⟩
             replace H : (if x8_1 < (x587003_1.length : Int) then (spec_JoinChunk.l0 kj17 l1 y593 (wrap64 (x8_1 + 1)) a0_0 l0_1 l0_2 l0_3 a0_4 t575 t576 t579 (x587003_1.set (x8_1 : Int).toNat true) t585) else (none)) = some (r1, r2, r3, r4, r5, r6) := by (rw [hy593]; with_reducible exact H)
             have Ny593 := am hy593
             clear hy593
             by_cases c53 : x8_1 < (x587003_1.length : Int)
             ·rw [if_pos c53] at H
              have c53b0 : decide (x8_1 < (x587003_1.length : Int)) = true := decide_eq_true c53
              clear c53
              obtain ⟨y596, hy596⟩ : ∃ y_ : List Bool, y_ = (x587003_1.set (x8_1 : Int).toNat true) := ⟨_, rfl⟩
              replace H : (spec_JoinChunk.l0 kj17 l1 y593 (wrap64 (x8_1 + 1)) a0_0 l0_1 l0_2 l0_3 a0_4 t575 t576 t579 y596 t585) = some (r1, r2, r3, r4, r5, r6) := by (rw [hy596]; with_reducible exact H)
              have Ny596 := am hy596
              clear hy596
              have H' := am H
              clear H
              have hnb55 := NB570_571.out
              have hnc55 := NB571_570.out
              have hnb56 := NB570_586.out
              have hnc56 := NB586_570.out
              obtain ⟨hcz57_0, hcz57_1, hcz57_2, hcz57_3, hcz57_4, hfz57_0, hfz57_1, hfz57_2, hfz57_3, hfz57_4⟩ := cells5_ BK570.out
              have p588 : 0 ≤ (x8_1 : Int) := of_decide_eq_true (by (with_reducible assumption))
              have q588 : x8_1 < (l0_1.length : Int) := of_decide_eq_true (by (with_reducible assumption))
              obtain ⟨ad588, e588, hx588_0, hx588_1, hx588_2⟩ := at_T60 HR0_1.out x8_1 p588 q588
              cases e588
              replace hx588_0 := bc_ HB.out hx588_0
              replace hx588_1 := bc_ HB.out hx588_1
              replace hx588_2 := bc_ HB.out hx588_2
              replace p588 := eq_true p588
              replace q588 := eq_true q588
              go_wp2_with (first | ((with_reducible refine gate_callee (f := 181) rfl ?_); refine goesL_ (some 30) rfl rfl Try.func181 (by kernel_rfl) rfl #[.agg #[.int .i64 ((rd_T60 l0_1 x8_1).f0), .int .i64 ((rd_T60 l0_1 x8_1).f1), .int .i64 ((rd_T60 l0_1 x8_1).f2)], .slice A1 l1.length c1] rfl (by (try simp only [List.map_toArray, List.map_cons, List.map_nil]); rfl) ?_; (with_reducible refine (spec_CountMatches.calls kj17 ((rd_T60 l0_1 x8_1).f0) ((rd_T60 l0_1 x8_1).f1) ((rd_T60 l0_1 x8_1).f2) _ _ l1 t589 _ ?side1 ?side2 A31.out).mono ?_); (case side1 => repeat (exact (Kd.C_below HR1.out HB.out))); (case side2 => exact HC1.out); rintro e w58 ⟨rfl, hb⟩; refine ⟨_, rfl, ?_⟩; replace HO_6 := am (Kd.R_below HO_6.out hb); replace HO_587001 := am (Kd.R_below HO_587001.out hb); replace HO_587002 := am (Kd.R_below HO_587002.out hb); replace HO_587003 := am (Kd.R_below HO_587003.out hb); replace BK570 := am (blk_below BK570.out hb); replace BK571 := am (blk_below BK571.out hb); replace BK586 := am (blk_below BK586.out hb); replace HB := am (below_step HB.out hb); (try clear hb); obtain ⟨hcz59_0, hcz59_1, hcz59_2, hcz59_3, hcz59_4, hfz59_0, hfz59_1, hfz59_2, hfz59_3, hfz59_4⟩ := cells5_ BK570.out; have p590 : 0 ≤ (x8_1 : Int) := of_decide_eq_true (by (with_reducible assumption)); have q590 : x8_1 < (l0_3.length : Int) := of_decide_eq_true (by (with_reducible assumption)); obtain ⟨ad590, e590, hx590_0⟩ := Kd.at_bool HR0_3.out x8_1 p590 q590; (try rw [← Nbq39.out] at hx590_0); cases e590; replace hx590_0 := bc_ HB.out hx590_0; replace p590 := eq_true p590; replace q590 := eq_true q590; have p592 : 0 ≤ (x8_1 : Int) := of_decide_eq_true (by (with_reducible assumption)); have q592 : x8_1 < (l0_1.length : Int) := of_decide_eq_true (by (with_reducible assumption)); obtain ⟨ad592, e592, hx592_0, hx592_1, hx592_2⟩ := at_T60 HR0_1.out x8_1 p592 q592; obtain rfl : ad588 = ad592 := (by injection e592); replace hx592_0 := bc_ HB.out hx592_0; replace hx592_1 := bc_ HB.out hx592_1; replace hx592_2 := bc_ HB.out hx592_2; replace p592 := eq_true p592; replace q592 := eq_true q592) | ((with_reducible refine gate_builtin (b := .append) (xs := #[.tmp 43, .tmp 50]) rfl ?_); at_builtin; refine Kd.R_append k128 (w0 := w) w.heap.size rfl (.tmp 43) (.tmp 50) 33 128 (.agg #[(.int .i64 0), (.int .i64 0), (.int .i64 0), (.int .i64 0), (.int .i64 0), (.int .i64 0), (.bool false)]) 56 rfl Try.underlying33 info128 rfl (by decide) (by omega) u6 x6_1 (⟨(⟨(rd_T60 l0_1 x8_1).f0, (rd_T60 l0_1 x8_1).f1, (rd_T60 l0_1 x8_1).f2⟩ : S60), (⟨0, 0, 0⟩ : S60), false⟩ : S128) [.int .i64 ((rd_T60 l0_1 x8_1).f0), .int .i64 ((rd_T60 l0_1 x8_1).f1), .int .i64 ((rd_T60 l0_1 x8_1).f2), .int .i64 0, .int .i64 0, .int .i64 0, .bool false] (fun _ => True) (fun _ => False) rfl rfl ?aP (fun _ hk => hk.elim) ?aF ?aO ?aB ?aS ?aL ?_; (case aP => exact k128_mkM _ _ _ (⟨(⟨(rd_T60 l0_1 x8_1).f0, (rd_T60 l0_1 x8_1).f1, (rd_T60 l0_1 x8_1).f2⟩ : S60), (⟨0, 0, 0⟩ : S60), false⟩ : S128)); (case aB => exact HB.out); (case aF => exact (fun _ _ => trivial)); (case aO => exact HO_6.out); (case aS => exact (below_size HB.out)); (case aL => have := LMc52.out; omega); intro v594 w60 ho hb hg hat; rw [← Ny593.out] at ho; replace HO_587001 := am (Kd.R_over' HO_587001.out (Kd.R_typed HO_6.out) (by decide) hg); replace HO_587002 := am (Kd.R_over' HO_587002.out (Kd.R_typed HO_6.out) (by decide) hg); replace HO_587003 := am (Kd.R_over' HO_587003.out (Kd.R_typed HO_6.out) (by decide) hg); replace BK570 := am (blk_grown BK570.out hg (Kd.R_ne HO_6.out BK570.out (by decide))); replace BK571 := am (blk_grown BK571.out hg (Kd.R_ne HO_6.out BK571.out (by decide))); replace BK586 := am (blk_grown BK586.out hg (Kd.R_ne HO_6.out BK586.out (by decide))); replace HB := am (hb); have HO595 := am (ho); clear HO_6 ho hb hg hat; have hnb61 := NB586_571.out; have hnc61 := NB571_586.out; obtain ⟨hcz62_0, hcz62_1, hcz62_2, hcz62_3, hcz62_4, hfz62_0, hfz62_1, hfz62_2, hfz62_3, hfz62_4⟩ := cells5_ BK586.out; have p54 : 0 ≤ (x8_1 : Int) := of_decide_eq_true (by (with_reducible assumption)); have q54 : (x8_1 : Int) < ((x587003_1.length : Int) : Int) := of_decide_eq_true (by (with_reducible assumption)); obtain ⟨go54, co54, eo54, gb54, gl54, cl54, HG54⟩ := Kd.R_form HO_587003.out (by omega); (cases eo54); have GB54 := am gb54; have GG54 := am HG54; clear gb54 gl54 HG54; obtain ⟨hx54_0, hf54_0⟩ := Kd.R_celln false HO_587003.out (x8_1 : Int) p54 q54; replace p54 := eq_true p54; replace q54 := eq_true q54; obtain ⟨hy63_, hz63_⟩ := Kd.R_celln false HO_587003.out (x8_1 : Int) (of_decide_eq_true (by (with_reducible assumption))) (of_decide_eq_true (by (with_reducible assumption))); have HP63 := Kd.R_putg HO_587003.out (x8_1 : Int) true) | ((with_reducible refine gate_store (t := 4) (p := 67) rfl ?_); refine store_event (t := 4) (p := 67) (v := ?vo_w64) (w1 := (w60.setCell ⟨go54, (x8_1 : Int).toNat, none⟩ (.bool true))) ?hg ?ho ?hn ?hr ?_; (case ho => rfl); (case hg => rfl); (case hn => rfl); (case hr => (go_simp; done)); intro w64 hw; have hg : w60.grownBy w64 (some go54) := (by rw [hw]; exact HP63.2); have hp_ : Kd.R Kd.bool 4 w64 w.heap.size (fun _ => True) (.slice (some ⟨go54, 0, none⟩) x587003_1.length co54) y596 := (by rw [hw, Ny596.out]; exact HP63.1); clear HP63; replace HO_587001 := am (Kd.R_over' (v := (.slice (some ⟨go54, 0, none⟩) x587003_1.length co54)) HO_587001.out (Kd.R_typed HO_587003.out) (by decide) hg); replace HO_587002 := am (Kd.R_over' (v := (.slice (some ⟨go54, 0, none⟩) x587003_1.length co54)) HO_587002.out (Kd.R_typed HO_587003.out) (by decide) hg); replace BK570 := am (blk_grown BK570.out hg (Kd.R_ne HO_587003.out BK570.out (by decide))); replace BK571 := am (blk_grown BK571.out hg (Kd.R_ne HO_587003.out BK571.out (by decide))); replace BK586 := am (blk_grown BK586.out hg (Kd.R_ne HO_587003.out BK586.out (by decide))); replace HO595 := am (Kd.R_over' (v := (.slice (some ⟨go54, 0, none⟩) x587003_1.length co54)) HO595.out (Kd.R_typed HO_587003.out) (by decide) hg); replace HO_587003 := am (hp_); replace HB := am (by rw [hw]; exact below_set HB.out GB54.out : Below w.heap.size w w64); clear hg hw hp_))
              go_roundg kj17
              case measure => have := HK1.out; have := HJ17.out; omega
              case rel => exact ⟨(y593), (wrap64 (x8_1 + 1)), (y596), (.slice (some ⟨go54, 0, none⟩) x587003_1.length co54), rfl, H', ⟨by have := HK1.out; have := HJ17.out; omega⟩, ⟨HO595.out⟩, ⟨HO_587001.out⟩, ⟨HO_587002.out⟩, ⟨HO_587003.out⟩, ⟨BK570.out⟩, ⟨BK571.out⟩, ⟨BK586.out⟩, ⟨HB.out⟩⟩
             ·rw [if_neg c53] at H
              exact absurd H (by simp)
            ·rw [if_neg c52] at H
             exact absurd H (by simp)
          ·rw [if_neg c38] at H
           exact absurd H (by simp)
         ·rw [if_neg c37] at H
          have c37b0 : (a0_0 == 2) = false := beq_eq_false_iff_ne.mpr c37
          have c37b1 : (a0_0 != 2) = true := bne_iff_ne.mpr c37
          by_cases c65 : a0_0 = 1
          ·rw [if_pos c65] at H
           have c65b0 : (a0_0 == 1) = true := beq_iff_eq.mpr c65
           have c65b1 : (a0_0 != 1) = false := bne_eq_false_iff_eq.mpr c65
           clear c65
           replace H := Option.bind_eq_some_iff.mp H
           obtain ⟨t598, A660, H⟩ := H
           have A66 := am A660
           clear A660
           by_cases c67 : x6_1.length + t598.length < 2513169434916
           ·rw [if_pos c67] at H
            have LMc67 := am c67
            clear c67
            obtain ⟨y601, hy601⟩ : ∃ y_ : List (S128), y_ = (x6_1 ++ t598) := ⟨_, rfl⟩
            replace H : (if x8_1 < (x587003_1.length : Int) then (spec_JoinChunk.l0 kj17 l1 y601 (wrap64 (x8_1 + 1)) a0_0 l0_1 l0_2 l0_3 a0_4 t575 t576 t579 (x587003_1.set (x8_1 : Int).toNat true) t585) else (none)) = some (r1, r2, r3, r4, r5, r6) := by (rw [hy601]; with_reducible exact H)
            have Ny601 := am hy601
            clear hy601
            by_cases c68 : x8_1 < (x587003_1.length : Int)
            ·rw [if_pos c68] at H
             have c68b0 : decide (x8_1 < (x587003_1.length : Int)) = true := decide_eq_true c68
             clear c68
             obtain ⟨y604, hy604⟩ : ∃ y_ : List Bool, y_ = (x587003_1.set (x8_1 : Int).toNat true) := ⟨_, rfl⟩
             replace H : (spec_JoinChunk.l0 kj17 l1 y601 (wrap64 (x8_1 + 1)) a0_0 l0_1 l0_2 l0_3 a0_4 t575 t576 t579 y604 t585) = some (r1, r2, r3, r4, r5, r6) := by (rw [hy604]; with_reducible exact H)
             have Ny604 := am hy604
             clear hy604
             have H' := am H
             clear H
             have hnb70 := NB570_571.out
             have hnc70 := NB571_570.out
             have hnb71 := NB570_586.out
             have hnc71 := NB586_570.out
             obtain ⟨hcz72_0, hcz72_1, hcz72_2, hcz72_3, hcz72_4, hfz72_0, hfz72_1, hfz72_2, hfz72_3, hfz72_4⟩ := cells5_ BK570.out
             have p588 : 0 ≤ (x8_1 : Int) := of_decide_eq_true (by (with_reducible assumption))
             have q588 : x8_1 < (l0_1.length : Int) := of_decide_eq_true (by (with_reducible assumption))
             obtain ⟨ad588, e588, hx588_0, hx588_1, hx588_2⟩ := at_T60 HR0_1.out x8_1 p588 q588
             cases e588
             replace hx588_0 := bc_ HB.out hx588_0
             replace hx588_1 := bc_ HB.out hx588_1
             replace hx588_2 := bc_ HB.out hx588_2
             replace p588 := eq_true p588
             replace q588 := eq_true q588
             go_wp2_with (first | ((with_reducible refine gate_callee (f := 181) rfl ?_); refine goesL_ (some 30) rfl rfl Try.func181 (by kernel_rfl) rfl #[.agg #[.int .i64 ((rd_T60 l0_1 x8_1).f0), .int .i64 ((rd_T60 l0_1 x8_1).f1), .int .i64 ((rd_T60 l0_1 x8_1).f2)], .slice A1 l1.length c1] rfl (by (try simp only [List.map_toArray, List.map_cons, List.map_nil]); rfl) ?_; (with_reducible refine (spec_CountMatches.calls kj17 ((rd_T60 l0_1 x8_1).f0) ((rd_T60 l0_1 x8_1).f1) ((rd_T60 l0_1 x8_1).f2) _ _ l1 t589 _ ?side1 ?side2 A31.out).mono ?_); (case side1 => repeat (exact (Kd.C_below HR1.out HB.out))); (case side2 => exact HC1.out); rintro e w73 ⟨rfl, hb⟩; refine ⟨_, rfl, ?_⟩; replace HO_6 := am (Kd.R_below HO_6.out hb); replace HO_587001 := am (Kd.R_below HO_587001.out hb); replace HO_587002 := am (Kd.R_below HO_587002.out hb); replace HO_587003 := am (Kd.R_below HO_587003.out hb); replace BK570 := am (blk_below BK570.out hb); replace BK571 := am (blk_below BK571.out hb); replace BK586 := am (blk_below BK586.out hb); replace HB := am (below_step HB.out hb); (try clear hb); obtain ⟨hcz74_0, hcz74_1, hcz74_2, hcz74_3, hcz74_4, hfz74_0, hfz74_1, hfz74_2, hfz74_3, hfz74_4⟩ := cells5_ BK570.out; have p597 : 0 ≤ (x8_1 : Int) := of_decide_eq_true (by (with_reducible assumption)); have q597 : x8_1 < (l0_1.length : Int) := of_decide_eq_true (by (with_reducible assumption)); obtain ⟨ad597, e597, hx597_0, hx597_1, hx597_2⟩ := at_T60 HR0_1.out x8_1 p597 q597; obtain rfl : ad588 = ad597 := (by injection e597); replace hx597_0 := bc_ HB.out hx597_0; replace hx597_1 := bc_ HB.out hx597_1; replace hx597_2 := bc_ HB.out hx597_2; replace p597 := eq_true p597; replace q597 := eq_true q597) | ((with_reducible refine gate_callee (f := 123) rfl ?_); refine goesL_ (some 62) rfl rfl Try.func123 (by kernel_rfl) rfl #[.int .i64 1, .agg #[.int .i64 ((rd_T60 l0_1 x8_1).f0), .int .i64 ((rd_T60 l0_1 x8_1).f1), .int .i64 ((rd_T60 l0_1 x8_1).f2)], .slice A1 l1.length c1] rfl (by (try simp only [List.map_toArray, List.map_cons, List.map_nil]); rfl) ?_; (with_reducible refine (spec_l7One.calls kj17 1 ((rd_T60 l0_1 x8_1).f0) ((rd_T60 l0_1 x8_1).f1) ((rd_T60 l0_1 x8_1).f2) _ _ l1 t598 _ ?side1 ?side2 A66.out).mono ?_); (case side1 => repeat (exact (Kd.C_below HR1.out HB.out))); (case side2 => exact HC1.out); rintro e w75 ⟨v599, rfl, ho0, hb⟩; refine ⟨_, rfl, ?_⟩; replace HO_587001 := am (Kd.R_below HO_587001.out hb); replace HO_587002 := am (Kd.R_below HO_587002.out hb); replace HO_587003 := am (Kd.R_below HO_587003.out hb); have HO600 := am (Kd.R_lower (Kd.R_new' ho0 (Kd.R_lt HO_6.out)) (below_size HB.out)); replace HO_6 := am (Kd.R_elder' HO_6.out (Kd.R_base ho0) hb); replace BK570 := am (blk_below BK570.out hb); replace BK571 := am (blk_below BK571.out hb); replace BK586 := am (blk_below BK586.out hb); replace HB := am (below_step HB.out hb); (try clear hb); (try clear ho0); obtain ⟨Ao77, co77, eo77⟩ := Kd.R_slice HO600.out; subst eo77) | ((with_reducible refine gate_builtin (b := .append) (xs := #[.tmp 55, .tmp 62]) rfl ?_); at_builtin; refine Kd.R_append_rows k128 (w0 := w) w.heap.size rfl (.tmp 55) (.tmp 62) 33 128 (.agg #[(.int .i64 0), (.int .i64 0), (.int .i64 0), (.int .i64 0), (.int .i64 0), (.int .i64 0), (.bool false)]) 56 rfl Try.underlying33 info128 rfl (by decide) (by omega) u6 x6_1 t598 _ _ _ (fun k_ => some k_ ≠ (.slice Ao77 t598.length co77 : Value).ownBlock) (fun _ => False) rfl rfl ?aO ?aR (fun _ _ h => h) (fun _ h => h.elim) ?aF ?aB ?aS ?aL ?_; (case aR => repeat (exact (Kd.R_reads' HO600.out).2.2)); (case aB => exact HB.out); (case aF => exact (fun k_ hk => Kd.fresh' (Kd.R_lt HO600.out) k_ hk)); (case aO => exact (by exact Kd.R_mono HO_6.out (fun _ hk => hk.2))); (case aS => exact (below_size HB.out)); (case aL => have := LMc67.out; omega); intro v602 w76 ho hb hg hat; rw [← Ny601.out] at ho; replace HO_587001 := am (Kd.R_over' HO_587001.out (Kd.R_typed HO_6.out) (by decide) hg); replace HO_587002 := am (Kd.R_over' HO_587002.out (Kd.R_typed HO_6.out) (by decide) hg); replace HO_587003 := am (Kd.R_over' HO_587003.out (Kd.R_typed HO_6.out) (by decide) hg); replace BK570 := am (blk_grown BK570.out hg (Kd.R_ne HO_6.out BK570.out (by decide))); replace BK571 := am (blk_grown BK571.out hg (Kd.R_ne HO_6.out BK571.out (by decide))); replace BK586 := am (blk_grown BK586.out hg (Kd.R_ne HO_6.out BK586.out (by decide))); replace HO600 := am (Kd.R_after (ok := (fun _ => True)) HO600.out hg hat); replace HB := am (hb); have HO603 := am (ho); clear HO_6 ho hb hg hat; have hnb78 := NB586_571.out; have hnc78 := NB571_586.out; obtain ⟨hcz79_0, hcz79_1, hcz79_2, hcz79_3, hcz79_4, hfz79_0, hfz79_1, hfz79_2, hfz79_3, hfz79_4⟩ := cells5_ BK586.out; have p69 : 0 ≤ (x8_1 : Int) := of_decide_eq_true (by (with_reducible assumption)); have q69 : (x8_1 : Int) < ((x587003_1.length : Int) : Int) := of_decide_eq_true (by (with_reducible assumption)); obtain ⟨go69, co69, eo69, gb69, gl69, cl69, HG69⟩ := Kd.R_form HO_587003.out (by omega); (cases eo69); have GB69 := am gb69; have GG69 := am HG69; clear gb69 gl69 HG69; obtain ⟨hx69_0, hf69_0⟩ := Kd.R_celln false HO_587003.out (x8_1 : Int) p69 q69; replace p69 := eq_true p69; replace q69 := eq_true q69; obtain ⟨hy80_, hz80_⟩ := Kd.R_celln false HO_587003.out (x8_1 : Int) (of_decide_eq_true (by (with_reducible assumption))) (of_decide_eq_true (by (with_reducible assumption))); have HP80 := Kd.R_putg HO_587003.out (x8_1 : Int) true) | ((with_reducible refine gate_store (t := 4) (p := 67) rfl ?_); refine store_event (t := 4) (p := 67) (v := ?vo_w81) (w1 := (w76.setCell ⟨go69, (x8_1 : Int).toNat, none⟩ (.bool true))) ?hg ?ho ?hn ?hr ?_; (case ho => rfl); (case hg => rfl); (case hn => rfl); (case hr => (go_simp; done)); intro w81 hw; have hg : w76.grownBy w81 (some go69) := (by rw [hw]; exact HP80.2); have hp_ : Kd.R Kd.bool 4 w81 w.heap.size (fun _ => True) (.slice (some ⟨go69, 0, none⟩) x587003_1.length co69) y604 := (by rw [hw, Ny604.out]; exact HP80.1); clear HP80; replace HO_587001 := am (Kd.R_over' (v := (.slice (some ⟨go69, 0, none⟩) x587003_1.length co69)) HO_587001.out (Kd.R_typed HO_587003.out) (by decide) hg); replace HO_587002 := am (Kd.R_over' (v := (.slice (some ⟨go69, 0, none⟩) x587003_1.length co69)) HO_587002.out (Kd.R_typed HO_587003.out) (by decide) hg); replace BK570 := am (blk_grown BK570.out hg (Kd.R_ne HO_587003.out BK570.out (by decide))); replace BK571 := am (blk_grown BK571.out hg (Kd.R_ne HO_587003.out BK571.out (by decide))); replace BK586 := am (blk_grown BK586.out hg (Kd.R_ne HO_587003.out BK586.out (by decide))); replace HO600 := am (Kd.R_over' (v := (.slice (some ⟨go69, 0, none⟩) x587003_1.length co69)) HO600.out (Kd.R_typed HO_587003.out) (by decide) hg); replace HO603 := am (Kd.R_over' (v := (.slice (some ⟨go69, 0, none⟩) x587003_1.length co69)) HO603.out (Kd.R_typed HO_587003.out) (by decide) hg); replace HO_587003 := am (hp_); replace HB := am (by rw [hw]; exact below_set HB.out GB69.out : Below w.heap.size w w81); clear hg hw hp_))
             go_roundg kj17
             case measure => have := HK1.out; have := HJ17.out; omega
             case rel => exact ⟨(y601), (wrap64 (x8_1 + 1)), (y604), (.slice (some ⟨go69, 0, none⟩) x587003_1.length co69), rfl, H', ⟨by have := HK1.out; have := HJ17.out; omega⟩, ⟨by exact Kd.R_mono HO603.out (fun _ hk => trivial)⟩, ⟨HO_587001.out⟩, ⟨HO_587002.out⟩, ⟨HO_587003.out⟩, ⟨BK570.out⟩, ⟨BK571.out⟩, ⟨BK586.out⟩, ⟨HB.out⟩⟩
            ·rw [if_neg c68] at H
             exact absurd H (by simp)
           ·rw [if_neg c67] at H
            exact absurd H (by simp)
          ·rw [if_neg c65] at H
           have c65b0 : (a0_0 == 1) = false := beq_eq_false_iff_ne.mpr c65
           have c65b1 : (a0_0 != 1) = true := bne_iff_ne.mpr c65
           by_cases c82 : a0_0 = 4
           ·rw [if_pos c82] at H
            have c82b0 : (a0_0 == 4) = true := beq_iff_eq.mpr c82
            have c82b1 : (a0_0 != 4) = false := bne_eq_false_iff_eq.mpr c82
            clear c82
            replace H := Option.bind_eq_some_iff.mp H
            obtain ⟨t606, A830, H⟩ := H
            have A83 := am A830
            clear A830
            by_cases c84 : x6_1.length + t606.length < 2513169434916
            ·rw [if_pos c84] at H
             have LMc84 := am c84
             clear c84
             obtain ⟨y609, hy609⟩ : ∃ y_ : List (S128), y_ = (x6_1 ++ t606) := ⟨_, rfl⟩
             replace H : (if x8_1 < (x587003_1.length : Int) then (spec_JoinChunk.l0 kj17 l1 y609 (wrap64 (x8_1 + 1)) a0_0 l0_1 l0_2 l0_3 a0_4 t575 t576 t579 (x587003_1.set (x8_1 : Int).toNat true) t585) else (none)) = some (r1, r2, r3, r4, r5, r6) := by (rw [hy609]; with_reducible exact H)
             have Ny609 := am hy609
             clear hy609
             by_cases c85 : x8_1 < (x587003_1.length : Int)
             ·rw [if_pos c85] at H
              have c85b0 : decide (x8_1 < (x587003_1.length : Int)) = true := decide_eq_true c85
              clear c85
              obtain ⟨y612, hy612⟩ : ∃ y_ : List Bool, y_ = (x587003_1.set (x8_1 : Int).toNat true) := ⟨_, rfl⟩
              replace H : (spec_JoinChunk.l0 kj17 l1 y609 (wrap64 (x8_1 + 1)) a0_0 l0_1 l0_2 l0_3 a0_4 t575 t576 t579 y612 t585) = some (r1, r2, r3, r4, r5, r6) := by (rw [hy612]; with_reducible exact H)
              have Ny612 := am hy612
              clear hy612
              have H' := am H
              clear H
              have hnb87 := NB570_571.out
              have hnc87 := NB571_570.out
              have hnb88 := NB570_586.out
              have hnc88 := NB586_570.out
              obtain ⟨hcz89_0, hcz89_1, hcz89_2, hcz89_3, hcz89_4, hfz89_0, hfz89_1, hfz89_2, hfz89_3, hfz89_4⟩ := cells5_ BK570.out
              have p588 : 0 ≤ (x8_1 : Int) := of_decide_eq_true (by (with_reducible assumption))
              have q588 : x8_1 < (l0_1.length : Int) := of_decide_eq_true (by (with_reducible assumption))
              obtain ⟨ad588, e588, hx588_0, hx588_1, hx588_2⟩ := at_T60 HR0_1.out x8_1 p588 q588
              cases e588
              replace hx588_0 := bc_ HB.out hx588_0
              replace hx588_1 := bc_ HB.out hx588_1
              replace hx588_2 := bc_ HB.out hx588_2
              replace p588 := eq_true p588
              replace q588 := eq_true q588
              go_wp2_with (first | ((with_reducible refine gate_callee (f := 181) rfl ?_); refine goesL_ (some 30) rfl rfl Try.func181 (by kernel_rfl) rfl #[.agg #[.int .i64 ((rd_T60 l0_1 x8_1).f0), .int .i64 ((rd_T60 l0_1 x8_1).f1), .int .i64 ((rd_T60 l0_1 x8_1).f2)], .slice A1 l1.length c1] rfl (by (try simp only [List.map_toArray, List.map_cons, List.map_nil]); rfl) ?_; (with_reducible refine (spec_CountMatches.calls kj17 ((rd_T60 l0_1 x8_1).f0) ((rd_T60 l0_1 x8_1).f1) ((rd_T60 l0_1 x8_1).f2) _ _ l1 t589 _ ?side1 ?side2 A31.out).mono ?_); (case side1 => repeat (exact (Kd.C_below HR1.out HB.out))); (case side2 => exact HC1.out); rintro e w90 ⟨rfl, hb⟩; refine ⟨_, rfl, ?_⟩; replace HO_6 := am (Kd.R_below HO_6.out hb); replace HO_587001 := am (Kd.R_below HO_587001.out hb); replace HO_587002 := am (Kd.R_below HO_587002.out hb); replace HO_587003 := am (Kd.R_below HO_587003.out hb); replace BK570 := am (blk_below BK570.out hb); replace BK571 := am (blk_below BK571.out hb); replace BK586 := am (blk_below BK586.out hb); replace HB := am (below_step HB.out hb); (try clear hb); obtain ⟨hcz91_0, hcz91_1, hcz91_2, hcz91_3, hcz91_4, hfz91_0, hfz91_1, hfz91_2, hfz91_3, hfz91_4⟩ := cells5_ BK570.out; have p605 : 0 ≤ (x8_1 : Int) := of_decide_eq_true (by (with_reducible assumption)); have q605 : x8_1 < (l0_1.length : Int) := of_decide_eq_true (by (with_reducible assumption)); obtain ⟨ad605, e605, hx605_0, hx605_1, hx605_2⟩ := at_T60 HR0_1.out x8_1 p605 q605; obtain rfl : ad588 = ad605 := (by injection e605); replace hx605_0 := bc_ HB.out hx605_0; replace hx605_1 := bc_ HB.out hx605_1; replace hx605_2 := bc_ HB.out hx605_2; replace p605 := eq_true p605; replace q605 := eq_true q605) | ((with_reducible refine gate_callee (f := 123) rfl ?_); refine goesL_ (some 62) rfl rfl Try.func123 (by kernel_rfl) rfl #[.int .i64 1, .agg #[.int .i64 ((rd_T60 l0_1 x8_1).f0), .int .i64 ((rd_T60 l0_1 x8_1).f1), .int .i64 ((rd_T60 l0_1 x8_1).f2)], .slice A1 l1.length c1] rfl (by (try simp only [List.map_toArray, List.map_cons, List.map_nil]); rfl) ?_; (with_reducible refine (spec_l7One.calls kj17 1 ((rd_T60 l0_1 x8_1).f0) ((rd_T60 l0_1 x8_1).f1) ((rd_T60 l0_1 x8_1).f2) _ _ l1 t606 _ ?side1 ?side2 A83.out).mono ?_); (case side1 => repeat (exact (Kd.C_below HR1.out HB.out))); (case side2 => exact HC1.out); rintro e w92 ⟨v607, rfl, ho0, hb⟩; refine ⟨_, rfl, ?_⟩; replace HO_587001 := am (Kd.R_below HO_587001.out hb); replace HO_587002 := am (Kd.R_below HO_587002.out hb); replace HO_587003 := am (Kd.R_below HO_587003.out hb); have HO608 := am (Kd.R_lower (Kd.R_new' ho0 (Kd.R_lt HO_6.out)) (below_size HB.out)); replace HO_6 := am (Kd.R_elder' HO_6.out (Kd.R_base ho0) hb); replace BK570 := am (blk_below BK570.out hb); replace BK571 := am (blk_below BK571.out hb); replace BK586 := am (blk_below BK586.out hb); replace HB := am (below_step HB.out hb); (try clear hb); (try clear ho0); obtain ⟨Ao94, co94, eo94⟩ := Kd.R_slice HO608.out; subst eo94) | ((with_reducible refine gate_builtin (b := .append) (xs := #[.tmp 55, .tmp 62]) rfl ?_); at_builtin; refine Kd.R_append_rows k128 (w0 := w) w.heap.size rfl (.tmp 55) (.tmp 62) 33 128 (.agg #[(.int .i64 0), (.int .i64 0), (.int .i64 0), (.int .i64 0), (.int .i64 0), (.int .i64 0), (.bool false)]) 56 rfl Try.underlying33 info128 rfl (by decide) (by omega) u6 x6_1 t606 _ _ _ (fun k_ => some k_ ≠ (.slice Ao94 t606.length co94 : Value).ownBlock) (fun _ => False) rfl rfl ?aO ?aR (fun _ _ h => h) (fun _ h => h.elim) ?aF ?aB ?aS ?aL ?_; (case aR => repeat (exact (Kd.R_reads' HO608.out).2.2)); (case aB => exact HB.out); (case aF => exact (fun k_ hk => Kd.fresh' (Kd.R_lt HO608.out) k_ hk)); (case aO => exact (by exact Kd.R_mono HO_6.out (fun _ hk => hk.2))); (case aS => exact (below_size HB.out)); (case aL => have := LMc84.out; omega); intro v610 w93 ho hb hg hat; rw [← Ny609.out] at ho; replace HO_587001 := am (Kd.R_over' HO_587001.out (Kd.R_typed HO_6.out) (by decide) hg); replace HO_587002 := am (Kd.R_over' HO_587002.out (Kd.R_typed HO_6.out) (by decide) hg); replace HO_587003 := am (Kd.R_over' HO_587003.out (Kd.R_typed HO_6.out) (by decide) hg); replace BK570 := am (blk_grown BK570.out hg (Kd.R_ne HO_6.out BK570.out (by decide))); replace BK571 := am (blk_grown BK571.out hg (Kd.R_ne HO_6.out BK571.out (by decide))); replace BK586 := am (blk_grown BK586.out hg (Kd.R_ne HO_6.out BK586.out (by decide))); replace HO608 := am (Kd.R_after (ok := (fun _ => True)) HO608.out hg hat); replace HB := am (hb); have HO611 := am (ho); clear HO_6 ho hb hg hat; have hnb95 := NB586_571.out; have hnc95 := NB571_586.out; obtain ⟨hcz96_0, hcz96_1, hcz96_2, hcz96_3, hcz96_4, hfz96_0, hfz96_1, hfz96_2, hfz96_3, hfz96_4⟩ := cells5_ BK586.out; have p86 : 0 ≤ (x8_1 : Int) := of_decide_eq_true (by (with_reducible assumption)); have q86 : (x8_1 : Int) < ((x587003_1.length : Int) : Int) := of_decide_eq_true (by (with_reducible assumption)); obtain ⟨go86, co86, eo86, gb86, gl86, cl86, HG86⟩ := Kd.R_form HO_587003.out (by omega); (cases eo86); have GB86 := am gb86; have GG86 := am HG86; clear gb86 gl86 HG86; obtain ⟨hx86_0, hf86_0⟩ := Kd.R_celln false HO_587003.out (x8_1 : Int) p86 q86; replace p86 := eq_true p86; replace q86 := eq_true q86; obtain ⟨hy97_, hz97_⟩ := Kd.R_celln false HO_587003.out (x8_1 : Int) (of_decide_eq_true (by (with_reducible assumption))) (of_decide_eq_true (by (with_reducible assumption))); have HP97 := Kd.R_putg HO_587003.out (x8_1 : Int) true) | ((with_reducible refine gate_store (t := 4) (p := 67) rfl ?_); refine store_event (t := 4) (p := 67) (v := ?vo_w98) (w1 := (w93.setCell ⟨go86, (x8_1 : Int).toNat, none⟩ (.bool true))) ?hg ?ho ?hn ?hr ?_; (case ho => rfl); (case hg => rfl); (case hn => rfl); (case hr => (go_simp; done)); intro w98 hw; have hg : w93.grownBy w98 (some go86) := (by rw [hw]; exact HP97.2); have hp_ : Kd.R Kd.bool 4 w98 w.heap.size (fun _ => True) (.slice (some ⟨go86, 0, none⟩) x587003_1.length co86) y612 := (by rw [hw, Ny612.out]; exact HP97.1); clear HP97; replace HO_587001 := am (Kd.R_over' (v := (.slice (some ⟨go86, 0, none⟩) x587003_1.length co86)) HO_587001.out (Kd.R_typed HO_587003.out) (by decide) hg); replace HO_587002 := am (Kd.R_over' (v := (.slice (some ⟨go86, 0, none⟩) x587003_1.length co86)) HO_587002.out (Kd.R_typed HO_587003.out) (by decide) hg); replace BK570 := am (blk_grown BK570.out hg (Kd.R_ne HO_587003.out BK570.out (by decide))); replace BK571 := am (blk_grown BK571.out hg (Kd.R_ne HO_587003.out BK571.out (by decide))); replace BK586 := am (blk_grown BK586.out hg (Kd.R_ne HO_587003.out BK586.out (by decide))); replace HO608 := am (Kd.R_over' (v := (.slice (some ⟨go86, 0, none⟩) x587003_1.length co86)) HO608.out (Kd.R_typed HO_587003.out) (by decide) hg); replace HO611 := am (Kd.R_over' (v := (.slice (some ⟨go86, 0, none⟩) x587003_1.length co86)) HO611.out (Kd.R_typed HO_587003.out) (by decide) hg); replace HO_587003 := am (hp_); replace HB := am (by rw [hw]; exact below_set HB.out GB86.out : Below w.heap.size w w98); clear hg hw hp_))
              go_roundg kj17
              case measure => have := HK1.out; have := HJ17.out; omega
              case rel => exact ⟨(y609), (wrap64 (x8_1 + 1)), (y612), (.slice (some ⟨go86, 0, none⟩) x587003_1.length co86), rfl, H', ⟨by have := HK1.out; have := HJ17.out; omega⟩, ⟨by exact Kd.R_mono HO611.out (fun _ hk => trivial)⟩, ⟨HO_587001.out⟩, ⟨HO_587002.out⟩, ⟨HO_587003.out⟩, ⟨BK570.out⟩, ⟨BK571.out⟩, ⟨BK586.out⟩, ⟨HB.out⟩⟩
             ·rw [if_neg c85] at H
              exact absurd H (by simp)
            ·rw [if_neg c84] at H
             exact absurd H (by simp)
           ·rw [if_neg c82] at H
            have c82b0 : (a0_0 == 4) = false := beq_eq_false_iff_ne.mpr c82
            have c82b1 : (a0_0 != 4) = true := bne_iff_ne.mpr c82
            by_cases c99 : x8_1 < (x587003_1.length : Int)
            ·rw [if_pos c99] at H
             have c99b0 : decide (x8_1 < (x587003_1.length : Int)) = true := decide_eq_true c99
             clear c99
             obtain ⟨y613, hy613⟩ : ∃ y_ : List Bool, y_ = (x587003_1.set (x8_1 : Int).toNat true) := ⟨_, rfl⟩
             replace H : (spec_JoinChunk.l0 kj17 l1 x6_1 (wrap64 (x8_1 + 1)) a0_0 l0_1 l0_2 l0_3 a0_4 t575 t576 t579 y613 t585) = some (r1, r2, r3, r4, r5, r6) := by (rw [hy613]; with_reducible exact H)
             have Ny613 := am hy613
             clear hy613
             have H' := am H
             clear H
             have hnb101 := NB570_571.out
             have hnc101 := NB571_570.out
             have hnb102 := NB570_586.out
             have hnc102 := NB586_570.out
             obtain ⟨hcz103_0, hcz103_1, hcz103_2, hcz103_3, hcz103_4, hfz103_0, hfz103_1, hfz103_2, hfz103_3, hfz103_4⟩ := cells5_ BK570.out
             have p588 : 0 ≤ (x8_1 : Int) := of_decide_eq_true (by (with_reducible assumption))
             have q588 : x8_1 < (l0_1.length : Int) := of_decide_eq_true (by (with_reducible assumption))
             obtain ⟨ad588, e588, hx588_0, hx588_1, hx588_2⟩ := at_T60 HR0_1.out x8_1 p588 q588
             cases e588
             replace hx588_0 := bc_ HB.out hx588_0
             replace hx588_1 := bc_ HB.out hx588_1
             replace hx588_2 := bc_ HB.out hx588_2
             replace p588 := eq_true p588
             replace q588 := eq_true q588
             go_wp2_with (first | ((with_reducible refine gate_callee (f := 181) rfl ?_); refine goesL_ (some 30) rfl rfl Try.func181 (by kernel_rfl) rfl #[.agg #[.int .i64 ((rd_T60 l0_1 x8_1).f0), .int .i64 ((rd_T60 l0_1 x8_1).f1), .int .i64 ((rd_T60 l0_1 x8_1).f2)], .slice A1 l1.length c1] rfl (by (try simp only [List.map_toArray, List.map_cons, List.map_nil]); rfl) ?_; (with_reducible refine (spec_CountMatches.calls kj17 ((rd_T60 l0_1 x8_1).f0) ((rd_T60 l0_1 x8_1).f1) ((rd_T60 l0_1 x8_1).f2) _ _ l1 t589 _ ?side1 ?side2 A31.out).mono ?_); (case side1 => repeat (exact (Kd.C_below HR1.out HB.out))); (case side2 => exact HC1.out); rintro e w104 ⟨rfl, hb⟩; refine ⟨_, rfl, ?_⟩; replace HO_6 := am (Kd.R_below HO_6.out hb); replace HO_587001 := am (Kd.R_below HO_587001.out hb); replace HO_587002 := am (Kd.R_below HO_587002.out hb); replace HO_587003 := am (Kd.R_below HO_587003.out hb); replace BK570 := am (blk_below BK570.out hb); replace BK571 := am (blk_below BK571.out hb); replace BK586 := am (blk_below BK586.out hb); replace HB := am (below_step HB.out hb); (try clear hb); obtain ⟨hcz105_0, hcz105_1, hcz105_2, hcz105_3, hcz105_4, hfz105_0, hfz105_1, hfz105_2, hfz105_3, hfz105_4⟩ := cells5_ BK570.out; have hnb106 := NB586_571.out; have hnc106 := NB571_586.out; obtain ⟨hcz107_0, hcz107_1, hcz107_2, hcz107_3, hcz107_4, hfz107_0, hfz107_1, hfz107_2, hfz107_3, hfz107_4⟩ := cells5_ BK586.out; have p100 : 0 ≤ (x8_1 : Int) := of_decide_eq_true (by (with_reducible assumption)); have q100 : (x8_1 : Int) < ((x587003_1.length : Int) : Int) := of_decide_eq_true (by (with_reducible assumption)); obtain ⟨go100, co100, eo100, gb100, gl100, cl100, HG100⟩ := Kd.R_form HO_587003.out (by omega); (cases eo100); have GB100 := am gb100; have GG100 := am HG100; clear gb100 gl100 HG100; obtain ⟨hx100_0, hf100_0⟩ := Kd.R_celln false HO_587003.out (x8_1 : Int) p100 q100; replace p100 := eq_true p100; replace q100 := eq_true q100; obtain ⟨hy108_, hz108_⟩ := Kd.R_celln false HO_587003.out (x8_1 : Int) (of_decide_eq_true (by (with_reducible assumption))) (of_decide_eq_true (by (with_reducible assumption))); have HP108 := Kd.R_putg HO_587003.out (x8_1 : Int) true) | ((with_reducible refine gate_store (t := 4) (p := 67) rfl ?_); refine store_event (t := 4) (p := 67) (v := ?vo_w109) (w1 := (w104.setCell ⟨go100, (x8_1 : Int).toNat, none⟩ (.bool true))) ?hg ?ho ?hn ?hr ?_; (case ho => rfl); (case hg => rfl); (case hn => rfl); (case hr => (go_simp; done)); intro w109 hw; have hg : w104.grownBy w109 (some go100) := (by rw [hw]; exact HP108.2); have hp_ : Kd.R Kd.bool 4 w109 w.heap.size (fun _ => True) (.slice (some ⟨go100, 0, none⟩) x587003_1.length co100) y613 := (by rw [hw, Ny613.out]; exact HP108.1); clear HP108; replace HO_6 := am (Kd.R_over' (v := (.slice (some ⟨go100, 0, none⟩) x587003_1.length co100)) HO_6.out (Kd.R_typed HO_587003.out) (by decide) hg); replace HO_587001 := am (Kd.R_over' (v := (.slice (some ⟨go100, 0, none⟩) x587003_1.length co100)) HO_587001.out (Kd.R_typed HO_587003.out) (by decide) hg); replace HO_587002 := am (Kd.R_over' (v := (.slice (some ⟨go100, 0, none⟩) x587003_1.length co100)) HO_587002.out (Kd.R_typed HO_587003.out) (by decide) hg); replace BK570 := am (blk_grown BK570.out hg (Kd.R_ne HO_587003.out BK570.out (by decide))); replace BK571 := am (blk_grown BK571.out hg (Kd.R_ne HO_587003.out BK571.out (by decide))); replace BK586 := am (blk_grown BK586.out hg (Kd.R_ne HO_587003.out BK586.out (by decide))); replace HO_587003 := am (hp_); replace HB := am (by rw [hw]; exact below_set HB.out GB100.out : Below w.heap.size w w109); clear hg hw hp_))
             go_roundg kj17
             case measure => have := HK1.out; have := HJ17.out; omega
             case rel => exact ⟨(x6_1), (wrap64 (x8_1 + 1)), (y613), (.slice (some ⟨go100, 0, none⟩) x587003_1.length co100), rfl, H', ⟨by have := HK1.out; have := HJ17.out; omega⟩, ⟨HO_6.out⟩, ⟨HO_587001.out⟩, ⟨HO_587002.out⟩, ⟨HO_587003.out⟩, ⟨BK570.out⟩, ⟨BK571.out⟩, ⟨BK586.out⟩, ⟨HB.out⟩⟩
            ·rw [if_neg c99] at H
             exact absurd H (by simp)
       ·rw [if_neg c30] at H
        exact absurd H (by simp)
      ·rw [if_neg c29] at H
       exact absurd H (by simp)
     ·replace c28 := Bool.eq_false_iff.mpr c28
      subst c28
      rw [if_neg (show ¬ (false = true) by decide)] at H
      simp only [Option.some.injEq, Prod.mk.injEq] at H
      obtain ⟨rfl, rfl, rfl, rfl, rfl, rfl⟩ := H
      try go_wp2
      replace HO_6 := am (Kd.R_drew HO_6.out)
      replace HO_587001 := am (Kd.R_drew HO_587001.out)
      replace HO_587002 := am (Kd.R_drew HO_587002.out)
      replace HO_587003 := am (Kd.R_drew HO_587003.out)
      replace BK570 := am (blk_drew BK570.out)
      replace BK571 := am (blk_drew BK571.out)
      replace BK586 := am (blk_drew BK586.out)
      replace HB := am (below_drew1 HB.out)
      obtain ⟨Ao114, co114, eo114⟩ := Kd.R_slice HO_587003.out
      (subst eo114)
      refine start_ (n := 4) (S := fun w' => w'.cell? ⟨gb586, 0, none⟩ = some (.int .i64 t575) ∧ w'.cell? ⟨gb586, 1, none⟩ = some (.slice Ao15 t576.length co15) ∧ w'.cell? ⟨gb586, 2, none⟩ = some (.slice Ao16 t579.length co16) ∧ w'.cell? ⟨gb586, 3, none⟩ = some (.slice Ao114 x587003_1.length co114) ∧ w'.cell? ⟨gb586, 4, none⟩ = some (.int .i64 t585)) (ds := []) #[false, false, false, false] (by kernel_rfl) rfl rfl ⟨(blk_cell BK586.out 0).trans rfl, (blk_cell BK586.out 1).trans rfl, (blk_cell BK586.out 2).trans rfl, (blk_cell BK586.out 3).trans rfl, (blk_cell BK586.out 4).trans rfl⟩ (fun hHeld => ?_)
      generalize wc.drew = w110 at HO_6 HO_587001 HO_587002 HO_587003 BK570 BK571 BK586 HB hHeld ⊢
      refine pure_ (i := 0) (N := some 68) (v := ?_) (a' := ?_) #[true, false, false, false] rfl rfl (by kernel_rfl) (fun _ _ _ h => h) (Or.inl ⟨rfl, ?_⟩) ?_ ?_
      rotate_left
      ·intro w'
       go_simp
       with_reducible rfl
      rotate_left
      ·simp only [Act.put, s2_, s0_, s1_, i64_w, i32_w]
       rfl
      refine pure_ (i := 2) (N := some 4) (v := ?_) (a' := ?_) #[true, false, true, false] rfl rfl (by kernel_rfl) (fun _ _ _ h => h) (Or.inl ⟨rfl, ?_⟩) ?_ ?_
      rotate_left
      ·intro w'
       go_simp
       with_reducible rfl
      rotate_left
      ·simp only [Act.put, s2_, s0_, s1_, i64_w, i32_w]
       rfl
      refine take_ (i := 1) (N := some 69) (v := ?_) (a' := ?_) #[true, true, true, false] rfl rfl (by kernel_rfl) (fun _ _ _ h => h) (Or.inl ⟨rfl, ?_⟩) hHeld ?_ ?_
      rotate_left
      ·rintro w' ⟨s0, s1, s2, s3, s4⟩
       go_simp
       with_reducible rfl
      rotate_left
      ·simp only [Act.put, s2_, s0_, s1_, i64_w, i32_w]
       rfl
      refine one_ (i := 3) (N := none) #[true, true, true, true] rfl rfl (by kernel_rfl) (by decide) (fun K hK => ?_)
      have hs111 : w110.cell? ⟨gb571, 0, none⟩ = some (.int .i64 0) := (blk_cell BK571.out 0).trans rfl
      have hfs111 := blk_frozen BK571.out 0
      have hns111_0 := NB570_571.out
      have hns111_2 := NB586_571.out
      have hms111_0 := NB571_570.out
      have hms111_2 := NB571_586.out
      have hs112 : w110.cell? ⟨gb571, 1, none⟩ = some (.slice none 0 0) := (blk_cell BK571.out 1).trans rfl
      have hfs112 := blk_frozen BK571.out 1
      have hns112_0 := NB570_571.out
      have hns112_2 := NB586_571.out
      have hms112_0 := NB571_570.out
      have hms112_2 := NB571_586.out
      have hs113 : w110.cell? ⟨gb571, 2, none⟩ = some (.slice none 0 0) := (blk_cell BK571.out 2).trans rfl
      have hfs113 := blk_frozen BK571.out 2
      have hns113_0 := NB570_571.out
      have hns113_2 := NB586_571.out
      have hms113_0 := NB571_570.out
      have hms113_2 := NB571_586.out
      have hs115 : w110.cell? ⟨gb571, 3, none⟩ = some (.slice none 0 0) := (blk_cell BK571.out 3).trans rfl
      have hfs115 := blk_frozen BK571.out 3
      have hns115_0 := NB570_571.out
      have hns115_2 := NB586_571.out
      have hms115_0 := NB571_570.out
      have hms115_2 := NB571_586.out
      have hs116 : w110.cell? ⟨gb571, 4, none⟩ = some (.int .i64 0) := (blk_cell BK571.out 4).trans rfl
      have hfs116 := blk_frozen BK571.out 4
      have hns116_0 := NB570_571.out
      have hns116_2 := NB586_571.out
      have hms116_0 := NB571_570.out
      have hms116_2 := NB571_586.out
      refine skip_ (w1 := ?_) rfl rfl ?_ ?_
      rotate_left
      ·go_simp
       rfl
      refine hK.out _ _ ⟨((cell_far (p := ⟨gb571, _, none⟩) NB586_571.out _).trans (((cell_far (p := ⟨gb571, _, none⟩) NB586_571.out _).trans (((cell_far (p := ⟨gb571, _, none⟩) NB586_571.out _).trans (((cell_far (p := ⟨gb571, _, none⟩) NB586_571.out _).trans (((cell_far (p := ⟨gb571, _, none⟩) NB586_571.out _).trans (hHeld.1)))))))))), ((cell_far (p := ⟨gb571, _, none⟩) NB586_571.out _).trans (((cell_far (p := ⟨gb571, _, none⟩) NB586_571.out _).trans (((cell_far (p := ⟨gb571, _, none⟩) NB586_571.out _).trans (((cell_far (p := ⟨gb571, _, none⟩) NB586_571.out _).trans (((cell_far (p := ⟨gb571, _, none⟩) NB586_571.out _).trans (hHeld.2.1)))))))))), ((cell_far (p := ⟨gb571, _, none⟩) NB586_571.out _).trans (((cell_far (p := ⟨gb571, _, none⟩) NB586_571.out _).trans (((cell_far (p := ⟨gb571, _, none⟩) NB586_571.out _).trans (((cell_far (p := ⟨gb571, _, none⟩) NB586_571.out _).trans (((cell_far (p := ⟨gb571, _, none⟩) NB586_571.out _).trans (hHeld.2.2.1)))))))))), ((cell_far (p := ⟨gb571, _, none⟩) NB586_571.out _).trans (((cell_far (p := ⟨gb571, _, none⟩) NB586_571.out _).trans (((cell_far (p := ⟨gb571, _, none⟩) NB586_571.out _).trans (((cell_far (p := ⟨gb571, _, none⟩) NB586_571.out _).trans (((cell_far (p := ⟨gb571, _, none⟩) NB586_571.out _).trans (hHeld.2.2.2.1)))))))))), ((cell_far (p := ⟨gb571, _, none⟩) NB586_571.out _).trans (((cell_far (p := ⟨gb571, _, none⟩) NB586_571.out _).trans (((cell_far (p := ⟨gb571, _, none⟩) NB586_571.out _).trans (((cell_far (p := ⟨gb571, _, none⟩) NB586_571.out _).trans (((cell_far (p := ⟨gb571, _, none⟩) NB586_571.out _).trans (hHeld.2.2.2.2))))))))))⟩ (fun hHeld => ?_)
      clear hK K
      refine done_ (by kernel_rfl) ?_
      try go_wp2
      refine bodyPost_ret (results_tc rfl _ _ gb571 40 #[.int .i64 t575, .slice Ao15 t576.length co15, .slice Ao16 t579.length co16, .slice Ao114 x587003_1.length co114, .int .i64 t585] (0, 0) _ rfl (by refine blk_put (cs := #[.int .i64 t575, .slice Ao15 t576.length co15, .slice Ao16 t579.length co16, .slice Ao114 x587003_1.length co114, .int .i64 0]) ?_ 4 _ rfl; refine blk_put (cs := #[.int .i64 t575, .slice Ao15 t576.length co15, .slice Ao16 t579.length co16, .slice none 0 0, .int .i64 0]) ?_ 3 _ rfl; refine blk_put (cs := #[.int .i64 t575, .slice Ao15 t576.length co15, .slice none 0 0, .slice none 0 0, .int .i64 0]) ?_ 2 _ rfl; refine blk_put (cs := #[.int .i64 t575, .slice none 0 0, .slice none 0 0, .slice none 0 0, .int .i64 0]) ?_ 1 _ rfl; refine blk_put (cs := #[.int .i64 0, .slice none 0 0, .slice none 0 0, .slice none 0 0, .int .i64 0]) ?_ 0 _ rfl; exact BK571.out) Try.underlying40 rfl (by kernel_rfl)) rfl ?_
      exact ⟨_, _, _, _, rfl, by exact Kd.R_mono (Kd.R_far (p := ⟨gb571, 4, none⟩) (Kd.R_far (p := ⟨gb571, 3, none⟩) (Kd.R_far (p := ⟨gb571, 2, none⟩) (Kd.R_far (p := ⟨gb571, 1, none⟩) (Kd.R_far (p := ⟨gb571, 0, none⟩) (Kd.R_types HO_6.out BK571.out (by decide)) (fun _ hk => hk.2) (.int .i64 t575)) (fun _ hk => hk.2) (.slice Ao15 t576.length co15)) (fun _ hk => hk.2) (.slice Ao16 t579.length co16)) (fun _ hk => hk.2) (.slice Ao114 x587003_1.length co114)) (fun _ hk => hk.2) (.int .i64 t585)) (fun _ hk => trivial), by exact Kd.R_mono (Kd.R_far (p := ⟨gb571, 4, none⟩) (Kd.R_far (p := ⟨gb571, 3, none⟩) (Kd.R_far (p := ⟨gb571, 2, none⟩) (Kd.R_far (p := ⟨gb571, 1, none⟩) (Kd.R_far (p := ⟨gb571, 0, none⟩) (Kd.R_types HO_587001.out BK571.out (by decide)) (fun _ hk => hk.2) (.int .i64 t575)) (fun _ hk => hk.2) (.slice Ao15 t576.length co15)) (fun _ hk => hk.2) (.slice Ao16 t579.length co16)) (fun _ hk => hk.2) (.slice Ao114 x587003_1.length co114)) (fun _ hk => hk.2) (.int .i64 t585)) (fun _ hk => hk.1), by exact Kd.R_mono (Kd.R_far (p := ⟨gb571, 4, none⟩) (Kd.R_far (p := ⟨gb571, 3, none⟩) (Kd.R_far (p := ⟨gb571, 2, none⟩) (Kd.R_far (p := ⟨gb571, 1, none⟩) (Kd.R_far (p := ⟨gb571, 0, none⟩) (Kd.R_types HO_587002.out BK571.out (by decide)) (fun _ hk => hk.2) (.int .i64 t575)) (fun _ hk => hk.2) (.slice Ao15 t576.length co15)) (fun _ hk => hk.2) (.slice Ao16 t579.length co16)) (fun _ hk => hk.2) (.slice Ao114 x587003_1.length co114)) (fun _ hk => hk.2) (.int .i64 t585)) (fun _ hk => hk.1), by exact Kd.R_mono (Kd.R_far (p := ⟨gb571, 4, none⟩) (Kd.R_far (p := ⟨gb571, 3, none⟩) (Kd.R_far (p := ⟨gb571, 2, none⟩) (Kd.R_far (p := ⟨gb571, 1, none⟩) (Kd.R_far (p := ⟨gb571, 0, none⟩) (Kd.R_types HO_587003.out BK571.out (by decide)) (fun _ hk => hk.2) (.int .i64 t575)) (fun _ hk => hk.2) (.slice Ao15 t576.length co15)) (fun _ hk => hk.2) (.slice Ao16 t579.length co16)) (fun _ hk => hk.2) (.slice Ao114 x587003_1.length co114)) (fun _ hk => hk.2) (.int .i64 t585)) (fun _ hk => trivial), by repeat ((with_reducible first | exact HB.out | refine below_set ?_ GE571.out))⟩

mutual
def spec_UnmatchedRows.l0 : Nat → List (S128) → Int → Int → List (S60) → List (S60) → List Bool → Int → Option ((List (S128)))
 | 0, _, _, _, _, _, _, _ => none
 | k + 1, x3, x4, x615000, x615001, x615002, x615003, x615004 => if x4 < (x615001.length : Int) then ((spec_IsValidTask.f k x615000 x615001 x615002 x615003 x615004).bind fun t618 => (spec_UnmatchedRows.j1 k x3 x4 t618 x615000 x615001 x615002 x615003 x615004)) else (spec_UnmatchedRows.j1 k x3 x4 false x615000 x615001 x615002 x615003 x615004)
def spec_UnmatchedRows.j1 : Nat → List (S128) → Int → Bool → Int → List (S60) → List (S60) → List Bool → Int → Option ((List (S128)))
 | 0, _, _, _, _, _, _, _, _ => none
 | k + 1, x3, x4, x14, x615000, x615001, x615002, x615003, x615004 => if x14 = true then (if 0 ≤ x4 then (if x4 < (x615003.length : Int) then (if rdOf false x615003 x4 = true then (spec_UnmatchedRows.l0 k x3 (wrap64 (x4 + 1)) x615000 x615001 x615002 x615003 x615004) else (if x615000 = 3 then (if x4 < (x615001.length : Int) then (if x3.length < 2513169434916 then (spec_UnmatchedRows.l0 k (x3 ++ [(⟨(⟨(rd_T60 x615001 x4).f0, (rd_T60 x615001 x4).f1, (rd_T60 x615001 x4).f2⟩ : S60), (⟨0, 0, 0⟩ : S60), false⟩ : S128)]) (wrap64 (x4 + 1)) x615000 x615001 x615002 x615003 x615004) else (none)) else (none)) else (if x615000 = 4 then (if x4 < (x615001.length : Int) then (if x3.length < 2513169434916 then (spec_UnmatchedRows.l0 k (x3 ++ [(⟨(⟨(rd_T60 x615001 x4).f0, (rd_T60 x615001 x4).f1, (rd_T60 x615001 x4).f2⟩ : S60), (⟨0, 0, 0⟩ : S60), false⟩ : S128)]) (wrap64 (x4 + 1)) x615000 x615001 x615002 x615003 x615004) else (none)) else (none)) else (spec_UnmatchedRows.l0 k x3 (wrap64 (x4 + 1)) x615000 x615001 x615002 x615003 x615004)))) else (none)) else (none)) else (some x3)
end
def spec_UnmatchedRows.f (k : Nat) (a0_0 : Int) (l0_1 : List (S60)) (l0_2 : List (S60)) (l0_3 : List Bool) (a0_4 : Int) : Option ((List (S128))) := spec_UnmatchedRows.l0 k (([] : List (S128))) 0 a0_0 l0_1 l0_2 l0_3 a0_4
theorem spec_UnmatchedRows.calls (k : Nat) (a0_0 : Int) (A0_1 : Option Addr) (c0_1 : Nat) (l0_1 : List (S60)) (A0_2 : Option Addr) (c0_2 : Nat) (l0_2 : List (S60)) (A0_3 : Option Addr) (c0_3 : Nat) (l0_3 : List Bool) (a0_4 : Int) (r : List (S128)) (w : World) (hr0_1 : Kd.C k60 w A0_1 l0_1.length l0_1) (hc0_1 : l0_1.length ≤ c0_1) (hr0_2 : Kd.C k60 w A0_2 l0_2.length l0_2) (hc0_2 : l0_2.length ≤ c0_2) (hr0_3 : Kd.C Kd.bool w A0_3 l0_3.length l0_3) (hc0_3 : l0_3.length ≤ c0_3) (h : spec_UnmatchedRows.f k a0_0 l0_1 l0_2 l0_3 a0_4 = some r) :
  Calls Try.prog 121 #[.agg #[.int .i64 a0_0, .slice A0_1 l0_1.length c0_1, .slice A0_2 l0_2.length c0_2, .slice A0_3 l0_3.length c0_3, .int .i64 a0_4]] w fun e w' => ∃ v0_ : Value, e = .returned (v0_) ∧ Kd.R k128 128 w' w.heap.size (fun _ => True) v0_ r ∧ Below w.heap.size w w' := by
 have hu40 := Try.underlying40
 have hu60 := Try.underlying60
 have hu128 := Try.underlying128
 have HR0_1 := am hr0_1
 have HC0_1 := am hc0_1
 clear hr0_1 hc0_1
 have HR0_2 := am hr0_2
 have HC0_2 := am hc0_2
 clear hr0_2 hc0_2
 have HR0_3 := am hr0_3
 have HC0_3 := am hc0_3
 clear hr0_3 hc0_3
 have HB := am (Below.refl w.heap.size w)
 have H : (spec_UnmatchedRows.l0 k (([] : List (S128))) 0 a0_0 l0_1 l0_2 l0_3 a0_4) = some r := h
 clear h
 obtain ⟨y615, hy615⟩ : ∃ y_ : List (S128), y_ = (([] : List (S128))) := ⟨_, rfl⟩
 replace H : (spec_UnmatchedRows.l0 k y615 0 a0_0 l0_1 l0_2 l0_3 a0_4) = some r := by (rw [hy615]; with_reducible exact H)
 have Ny615 := am hy615
 clear hy615
 have H' := am H
 clear H
 go_enter Try.func121, Try.ntmps121
 go_wp2_with (first | ((with_reducible refine gate_dst (N := 1) rfl ?_); refine box_event ?hg (N := 1) ?hd (cs := #[.int .i64 a0_0, .slice A0_1 l0_1.length c0_1, .slice A0_2 l0_2.length c0_2, .slice A0_3 l0_3.length c0_3, .int .i64 a0_4]) (t := 40) ?hr ?_; (case hd => rfl); (case hg => rfl); (case hr => (go_simp; done)); intro gb614 hg w2 hbox hb; have BK614 := am (hbox); have GW614 := am (gw_ hg HB.out); have GE614 := am (gw_ hg HB.out); replace HB := am (below_step HB.out hb); clear hb hbox hg) | ((with_reducible refine gate_dst (N := 5) rfl ?_); refine Kd.R_lit k128 _ 128 ?hg (N := 5) ?hd (xs := ([] : List (S128))) (inner := []) (ok := fun _ => True) (okp := fun _ => True) ?hr ?hp (fun _ hk => hk) trivial (Below.refl _ _) (Nat.le_refl _) (by simp) ?_; (case hd => rfl); (case hg => rfl); (case hr => (go_simp; done)); (case hp => exact (Reps.none _ _)); intro v616 w3 ho4 hb hg_ hnew_; clear hg_ hnew_; (rw [← Ny615.out] at ho4); have HO617 := am (Kd.R_lower ho4 (below_size HB.out)); replace BK614 := am (blk_below BK614.out hb); replace HB := am (below_step HB.out hb); clear hb ho4))
 go_loopg [3, 4] k (fun kq v3 v4 w' => ∃ (x3_1 : List (S128)) (x4_1 : Int), v4 = .int .i64 x4_1 ∧ Aside0 (spec_UnmatchedRows.l0 kq x3_1 x4_1 a0_0 l0_1 l0_2 l0_3 a0_4 = some r) ∧ Aside0 (kq ≤ k) ∧ Aside0 (Kd.R k128 128 w' w.heap.size (fun _ => True) v3 x3_1) ∧ Aside0 (w'.heap[gb614]? = some (.cells #[.int .i64 a0_0, (.slice A0_1 l0_1.length c0_1), (.slice A0_2 l0_2.length c0_2), (.slice A0_3 l0_3.length c0_3), .int .i64 a0_4] 40 (0, 0))) ∧ Aside0 (Below w.heap.size w w'))
 case atStart => exact ⟨(y615), (0), rfl, H', ⟨Nat.le_refl _⟩, ⟨HO617.out⟩, ⟨BK614.out⟩, ⟨HB.out⟩⟩
 case round =>
  clear H'
  obtain ⟨x3_1, x4_1, rfl, HA, HK1, HO_3, BK614, HB⟩ := hrel
  cases gk with
  | zero => exact absurd HA.out (by simp [spec_UnmatchedRows.l0])
  | succ k1 =>
   have H := HA.out
   clear HA
   simp only [spec_UnmatchedRows.l0] at H
   have HC5 := am H
   clear H
   go_upto_region 3 with (fail)
   go_cut [14] (fun v14 wc => ∃ (kq : Nat) (x14_4 : Bool), v14 = .bool x14_4 ∧ Aside0 (spec_UnmatchedRows.j1 kq x3_1 x4_1 x14_4 a0_0 l0_1 l0_2 l0_3 a0_4 = some r) ∧ Aside0 (kq ≤ k1) ∧ Aside0 (Kd.R k128 128 wc w.heap.size (fun _ => True) u3 x3_1) ∧ Aside0 (wc.heap[gb614]? = some (.cells #[.int .i64 a0_0, (.slice A0_1 l0_1.length c0_1), (.slice A0_2 l0_2.length c0_2), (.slice A0_3 l0_3.length c0_3), .int .i64 a0_4] 40 (0, 0))) ∧ Aside0 (Below w.heap.size w wc))
   case first =>
    have H := HC5.out
    clear HC5
    by_cases c6 : x4_1 < (l0_1.length : Int)
    ·rw [if_pos c6] at H
     have c6b0 : decide (x4_1 < (l0_1.length : Int)) = true := decide_eq_true c6
     clear c6
     (skip)
     replace H := Option.bind_eq_some_iff.mp H
     obtain ⟨t618, A70, H⟩ := H
     have A7 := am A70
     clear A70
     have H' := am H
     clear H
     obtain ⟨hcz8_0, hcz8_1, hcz8_2, hcz8_3, hcz8_4, hfz8_0, hfz8_1, hfz8_2, hfz8_3, hfz8_4⟩ := cells5_ BK614.out
     go_wp2_with ((go_at_call 65; (with_reducible refine (spec_IsValidTask.calls k1 a0_0 _ _ l0_1 _ _ l0_2 _ _ l0_3 a0_4 t618 _ ?side1 ?side2 ?side3 ?side4 ?side5 ?side6 A7.out).mono ?_); (case side1 => repeat (exact (Kd.C_below HR0_1.out HB.out))); (case side2 => exact HC0_1.out); (case side3 => repeat (exact (Kd.C_below HR0_2.out HB.out))); (case side4 => exact HC0_2.out); (case side5 => repeat (exact (Kd.C_below HR0_3.out HB.out))); (case side6 => exact HC0_3.out); rintro e w9 ⟨rfl, hb⟩; replace HO_3 := am (Kd.R_below HO_3.out hb); replace BK614 := am (blk_below BK614.out hb); replace HB := am (below_step HB.out hb); (try clear hb)))
     go_meet
     case rel => exact ⟨_, (t618), rfl, H', ⟨by have := HK1.out; omega⟩, ⟨HO_3.out⟩, ⟨BK614.out⟩, ⟨HB.out⟩⟩
    ·rw [if_neg c6] at H
     have c6b0 : decide (x4_1 < (l0_1.length : Int)) = false := decide_eq_false c6
     clear c6
     (skip)
     have H' := am H
     clear H
     obtain ⟨hcz10_0, hcz10_1, hcz10_2, hcz10_3, hcz10_4, hfz10_0, hfz10_1, hfz10_2, hfz10_3, hfz10_4⟩ := cells5_ BK614.out
     go_wp2
     go_meet
     case rel => exact ⟨_, (false), rfl, H', ⟨by have := HK1.out; omega⟩, ⟨HO_3.out⟩, ⟨BK614.out⟩, ⟨HB.out⟩⟩
   case rest =>
    clear HC5
    obtain ⟨kq, x14_4, rfl, HA, HJ4, HO_3, BK614, HB⟩ := hcut
    cases kq with
    | zero => exact absurd HA.out (by simp [spec_UnmatchedRows.j1])
    | succ kj4 =>
     have H := HA.out
     clear HA
     simp only [spec_UnmatchedRows.j1] at H
     by_cases c11 : x14_4 = true
     ·subst c11
      rw [if_pos rfl] at H
      by_cases c12 : 0 ≤ x4_1
      ·rw [if_pos c12] at H
       have c12b0 : decide (0 ≤ x4_1) = true := decide_eq_true c12
       clear c12
       by_cases c13 : x4_1 < (l0_3.length : Int)
       ·rw [if_pos c13] at H
        have c13b0 : decide (x4_1 < (l0_3.length : Int)) = true := decide_eq_true c13
        clear c13
        obtain ⟨bq14, hbq14⟩ : ∃ b_ : Bool, b_ = (rdOf false l0_3 x4_1) := ⟨_, rfl⟩
        replace H : (if bq14 = true then (spec_UnmatchedRows.l0 kj4 x3_1 (wrap64 (x4_1 + 1)) a0_0 l0_1 l0_2 l0_3 a0_4) else (if a0_0 = 3 then (if x4_1 < (l0_1.length : Int) then (if x3_1.length < 2513169434916 then (spec_UnmatchedRows.l0 kj4 (x3_1 ++ [(⟨(⟨(rd_T60 l0_1 x4_1).f0, (rd_T60 l0_1 x4_1).f1, (rd_T60 l0_1 x4_1).f2⟩ : S60), (⟨0, 0, 0⟩ : S60), false⟩ : S128)]) (wrap64 (x4_1 + 1)) a0_0 l0_1 l0_2 l0_3 a0_4) else (none)) else (none)) else (if a0_0 = 4 then (if x4_1 < (l0_1.length : Int) then (if x3_1.length < 2513169434916 then (spec_UnmatchedRows.l0 kj4 (x3_1 ++ [(⟨(⟨(rd_T60 l0_1 x4_1).f0, (rd_T60 l0_1 x4_1).f1, (rd_T60 l0_1 x4_1).f2⟩ : S60), (⟨0, 0, 0⟩ : S60), false⟩ : S128)]) (wrap64 (x4_1 + 1)) a0_0 l0_1 l0_2 l0_3 a0_4) else (none)) else (none)) else (spec_UnmatchedRows.l0 kj4 x3_1 (wrap64 (x4_1 + 1)) a0_0 l0_1 l0_2 l0_3 a0_4)))) = some r := by rw [← hbq14] at H; exact H
        have Nbq14 := am hbq14
        clear hbq14
        by_cases c15 : bq14 = true
        ·subst c15
         rw [if_pos rfl] at H
         have H' := am H
         clear H
         obtain ⟨hcz16_0, hcz16_1, hcz16_2, hcz16_3, hcz16_4, hfz16_0, hfz16_1, hfz16_2, hfz16_3, hfz16_4⟩ := cells5_ BK614.out
         have p619 : 0 ≤ (x4_1 : Int) := of_decide_eq_true (by (with_reducible assumption))
         have q619 : x4_1 < (l0_3.length : Int) := of_decide_eq_true (by (with_reducible assumption))
         obtain ⟨ad619, e619, hx619_0⟩ := Kd.at_bool HR0_3.out x4_1 p619 q619
         (try rw [← Nbq14.out] at hx619_0)
         cases e619
         replace hx619_0 := bc_ HB.out hx619_0
         replace p619 := eq_true p619
         replace q619 := eq_true q619
         go_wp2
         go_roundg kj4
         case measure => have := HK1.out; have := HJ4.out; omega
         case rel => exact ⟨(x3_1), (wrap64 (x4_1 + 1)), rfl, H', ⟨by have := HK1.out; have := HJ4.out; omega⟩, ⟨HO_3.out⟩, ⟨BK614.out⟩, ⟨HB.out⟩⟩
        ·replace c15 := Bool.eq_false_iff.mpr c15
         subst c15
         rw [if_neg (show ¬ (false = true) by decide)] at H
         by_cases c17 : a0_0 = 3
         ·rw [if_pos c17] at H
          have c17b0 : (a0_0 == 3) = true := beq_iff_eq.mpr c17
          have c17b1 : (a0_0 != 3) = false := bne_eq_false_iff_eq.mpr c17
          clear c17
          by_cases c18 : x4_1 < (l0_1.length : Int)
          ·rw [if_pos c18] at H
           have c18b0 : decide (x4_1 < (l0_1.length : Int)) = true := decide_eq_true c18
           clear c18
           by_cases c19 : x3_1.length < 2513169434916
           ·rw [if_pos c19] at H
            have LMc19 := am c19
            clear c19
            obtain ⟨y621, hy621⟩ : ∃ y_ : List (S128), y_ = (x3_1 ++ [(⟨(⟨(rd_T60 l0_1 x4_1).f0, (rd_T60 l0_1 x4_1).f1, (rd_T60 l0_1 x4_1).f2⟩ : S60), (⟨0, 0, 0⟩ : S60), false⟩ : S128)]) := ⟨_, rfl⟩
            replace H : (spec_UnmatchedRows.l0 kj4 y621 (wrap64 (x4_1 + 1)) a0_0 l0_1 l0_2 l0_3 a0_4) = some r := by (rw [hy621]; with_reducible exact H)
            have Ny621 := am hy621
            clear hy621
            have H' := am H
            clear H
            obtain ⟨hcz20_0, hcz20_1, hcz20_2, hcz20_3, hcz20_4, hfz20_0, hfz20_1, hfz20_2, hfz20_3, hfz20_4⟩ := cells5_ BK614.out
            have p619 : 0 ≤ (x4_1 : Int) := of_decide_eq_true (by (with_reducible assumption))
            have q619 : x4_1 < (l0_3.length : Int) := of_decide_eq_true (by (with_reducible assumption))
            obtain ⟨ad619, e619, hx619_0⟩ := Kd.at_bool HR0_3.out x4_1 p619 q619
            (try rw [← Nbq14.out] at hx619_0)
            cases e619
            replace hx619_0 := bc_ HB.out hx619_0
            replace p619 := eq_true p619
            replace q619 := eq_true q619
            have p620 : 0 ≤ (x4_1 : Int) := of_decide_eq_true (by (with_reducible assumption))
            have q620 : x4_1 < (l0_1.length : Int) := of_decide_eq_true (by (with_reducible assumption))
            obtain ⟨ad620, e620, hx620_0, hx620_1, hx620_2⟩ := at_T60 HR0_1.out x4_1 p620 q620
            cases e620
            replace hx620_0 := bc_ HB.out hx620_0
            replace hx620_1 := bc_ HB.out hx620_1
            replace hx620_2 := bc_ HB.out hx620_2
            replace p620 := eq_true p620
            replace q620 := eq_true q620
            go_wp2_with (((with_reducible refine gate_builtin (b := .append) (xs := #[.tmp 33, .tmp 40]) rfl ?_); at_builtin; refine Kd.R_append k128 (w0 := w) w.heap.size rfl (.tmp 33) (.tmp 40) 33 128 (.agg #[(.int .i64 0), (.int .i64 0), (.int .i64 0), (.int .i64 0), (.int .i64 0), (.int .i64 0), (.bool false)]) 56 rfl Try.underlying33 info128 rfl (by decide) (by omega) u3 x3_1 (⟨(⟨(rd_T60 l0_1 x4_1).f0, (rd_T60 l0_1 x4_1).f1, (rd_T60 l0_1 x4_1).f2⟩ : S60), (⟨0, 0, 0⟩ : S60), false⟩ : S128) [.int .i64 ((rd_T60 l0_1 x4_1).f0), .int .i64 ((rd_T60 l0_1 x4_1).f1), .int .i64 ((rd_T60 l0_1 x4_1).f2), .int .i64 0, .int .i64 0, .int .i64 0, .bool false] (fun _ => True) (fun _ => False) rfl rfl ?aP (fun _ hk => hk.elim) ?aF ?aO ?aB ?aS ?aL ?_; (case aP => exact k128_mkM _ _ _ (⟨(⟨(rd_T60 l0_1 x4_1).f0, (rd_T60 l0_1 x4_1).f1, (rd_T60 l0_1 x4_1).f2⟩ : S60), (⟨0, 0, 0⟩ : S60), false⟩ : S128)); (case aB => exact HB.out); (case aF => exact (fun _ _ => trivial)); (case aO => exact HO_3.out); (case aS => exact (below_size HB.out)); (case aL => have := LMc19.out; omega); intro v622 w21 ho hb hg hat; rw [← Ny621.out] at ho; replace BK614 := am (blk_grown BK614.out hg (Kd.R_ne HO_3.out BK614.out (by decide))); replace HB := am (hb); have HO623 := am (ho); clear HO_3 ho hb hg hat))
            go_roundg kj4
            case measure => have := HK1.out; have := HJ4.out; omega
            case rel => exact ⟨(y621), (wrap64 (x4_1 + 1)), rfl, H', ⟨by have := HK1.out; have := HJ4.out; omega⟩, ⟨HO623.out⟩, ⟨BK614.out⟩, ⟨HB.out⟩⟩
           ·rw [if_neg c19] at H
            exact absurd H (by simp)
          ·rw [if_neg c18] at H
           exact absurd H (by simp)
         ·rw [if_neg c17] at H
          have c17b0 : (a0_0 == 3) = false := beq_eq_false_iff_ne.mpr c17
          have c17b1 : (a0_0 != 3) = true := bne_iff_ne.mpr c17
          by_cases c22 : a0_0 = 4
          ·rw [if_pos c22] at H
           have c22b0 : (a0_0 == 4) = true := beq_iff_eq.mpr c22
           have c22b1 : (a0_0 != 4) = false := bne_eq_false_iff_eq.mpr c22
           clear c22
           by_cases c23 : x4_1 < (l0_1.length : Int)
           ·rw [if_pos c23] at H
            have c23b0 : decide (x4_1 < (l0_1.length : Int)) = true := decide_eq_true c23
            clear c23
            by_cases c24 : x3_1.length < 2513169434916
            ·rw [if_pos c24] at H
             have LMc24 := am c24
             clear c24
             obtain ⟨y625, hy625⟩ : ∃ y_ : List (S128), y_ = (x3_1 ++ [(⟨(⟨(rd_T60 l0_1 x4_1).f0, (rd_T60 l0_1 x4_1).f1, (rd_T60 l0_1 x4_1).f2⟩ : S60), (⟨0, 0, 0⟩ : S60), false⟩ : S128)]) := ⟨_, rfl⟩
             replace H : (spec_UnmatchedRows.l0 kj4 y625 (wrap64 (x4_1 + 1)) a0_0 l0_1 l0_2 l0_3 a0_4) = some r := by (rw [hy625]; with_reducible exact H)
             have Ny625 := am hy625
             clear hy625
             have H' := am H
             clear H
             obtain ⟨hcz25_0, hcz25_1, hcz25_2, hcz25_3, hcz25_4, hfz25_0, hfz25_1, hfz25_2, hfz25_3, hfz25_4⟩ := cells5_ BK614.out
             have p619 : 0 ≤ (x4_1 : Int) := of_decide_eq_true (by (with_reducible assumption))
             have q619 : x4_1 < (l0_3.length : Int) := of_decide_eq_true (by (with_reducible assumption))
             obtain ⟨ad619, e619, hx619_0⟩ := Kd.at_bool HR0_3.out x4_1 p619 q619
             (try rw [← Nbq14.out] at hx619_0)
             cases e619
             replace hx619_0 := bc_ HB.out hx619_0
             replace p619 := eq_true p619
             replace q619 := eq_true q619
             have p624 : 0 ≤ (x4_1 : Int) := of_decide_eq_true (by (with_reducible assumption))
             have q624 : x4_1 < (l0_1.length : Int) := of_decide_eq_true (by (with_reducible assumption))
             obtain ⟨ad624, e624, hx624_0, hx624_1, hx624_2⟩ := at_T60 HR0_1.out x4_1 p624 q624
             cases e624
             replace hx624_0 := bc_ HB.out hx624_0
             replace hx624_1 := bc_ HB.out hx624_1
             replace hx624_2 := bc_ HB.out hx624_2
             replace p624 := eq_true p624
             replace q624 := eq_true q624
             go_wp2_with (((with_reducible refine gate_builtin (b := .append) (xs := #[.tmp 33, .tmp 40]) rfl ?_); at_builtin; refine Kd.R_append k128 (w0 := w) w.heap.size rfl (.tmp 33) (.tmp 40) 33 128 (.agg #[(.int .i64 0), (.int .i64 0), (.int .i64 0), (.int .i64 0), (.int .i64 0), (.int .i64 0), (.bool false)]) 56 rfl Try.underlying33 info128 rfl (by decide) (by omega) u3 x3_1 (⟨(⟨(rd_T60 l0_1 x4_1).f0, (rd_T60 l0_1 x4_1).f1, (rd_T60 l0_1 x4_1).f2⟩ : S60), (⟨0, 0, 0⟩ : S60), false⟩ : S128) [.int .i64 ((rd_T60 l0_1 x4_1).f0), .int .i64 ((rd_T60 l0_1 x4_1).f1), .int .i64 ((rd_T60 l0_1 x4_1).f2), .int .i64 0, .int .i64 0, .int .i64 0, .bool false] (fun _ => True) (fun _ => False) rfl rfl ?aP (fun _ hk => hk.elim) ?aF ?aO ?aB ?aS ?aL ?_; (case aP => exact k128_mkM _ _ _ (⟨(⟨(rd_T60 l0_1 x4_1).f0, (rd_T60 l0_1 x4_1).f1, (rd_T60 l0_1 x4_1).f2⟩ : S60), (⟨0, 0, 0⟩ : S60), false⟩ : S128)); (case aB => exact HB.out); (case aF => exact (fun _ _ => trivial)); (case aO => exact HO_3.out); (case aS => exact (below_size HB.out)); (case aL => have := LMc24.out; omega); intro v626 w26 ho hb hg hat; rw [← Ny625.out] at ho; replace BK614 := am (blk_grown BK614.out hg (Kd.R_ne HO_3.out BK614.out (by decide))); replace HB := am (hb); have HO627 := am (ho); clear HO_3 ho hb hg hat))
             go_roundg kj4
             case measure => have := HK1.out; have := HJ4.out; omega
             case rel => exact ⟨(y625), (wrap64 (x4_1 + 1)), rfl, H', ⟨by have := HK1.out; have := HJ4.out; omega⟩, ⟨HO627.out⟩, ⟨BK614.out⟩, ⟨HB.out⟩⟩
            ·rw [if_neg c24] at H
             exact absurd H (by simp)
           ·rw [if_neg c23] at H
            exact absurd H (by simp)
          ·rw [if_neg c22] at H
           have c22b0 : (a0_0 == 4) = false := beq_eq_false_iff_ne.mpr c22
           have c22b1 : (a0_0 != 4) = true := bne_iff_ne.mpr c22
           have H' := am H
           clear H
           obtain ⟨hcz27_0, hcz27_1, hcz27_2, hcz27_3, hcz27_4, hfz27_0, hfz27_1, hfz27_2, hfz27_3, hfz27_4⟩ := cells5_ BK614.out
           have p619 : 0 ≤ (x4_1 : Int) := of_decide_eq_true (by (with_reducible assumption))
           have q619 : x4_1 < (l0_3.length : Int) := of_decide_eq_true (by (with_reducible assumption))
           obtain ⟨ad619, e619, hx619_0⟩ := Kd.at_bool HR0_3.out x4_1 p619 q619
           (try rw [← Nbq14.out] at hx619_0)
           cases e619
           replace hx619_0 := bc_ HB.out hx619_0
           replace p619 := eq_true p619
           replace q619 := eq_true q619
           go_wp2
           go_roundg kj4
           case measure => have := HK1.out; have := HJ4.out; omega
           case rel => exact ⟨(x3_1), (wrap64 (x4_1 + 1)), rfl, H', ⟨by have := HK1.out; have := HJ4.out; omega⟩, ⟨HO_3.out⟩, ⟨BK614.out⟩, ⟨HB.out⟩⟩
       ·rw [if_neg c13] at H
        exact absurd H (by simp)
      ·rw [if_neg c12] at H
       exact absurd H (by simp)
     ·replace c11 := Bool.eq_false_iff.mpr c11
      subst c11
      rw [if_neg (show ¬ (false = true) by decide)] at H
      obtain rfl := Option.some.inj H
      go_wp2
      go_ret
      exact ⟨_, rfl, HO_3.out, HB.out⟩

mutual
def spec_BlockNestedLoopJoin.j0 : Nat → List (S60) → Int → Bool → Int → List (S60) → List (S60) → List Bool → Int → Option ((List (S128)) × Int × Bool)
 | 0, _, _, _, _, _, _, _, _ => none
 | k + 1, x2, x3, x33, x641000, x641001, x641002, x641003, x641004 => if x33 = true then (some ((([] : List (S128))), 0, false)) else (spec_BlockNestedLoopJoin.l0 k x3 (([] : List (S128))) 0 x2 x641000 x641001 x641002 x641003 x641004)
def spec_BlockNestedLoopJoin.l0 : Nat → Int → List (S128) → Int → List (S60) → Int → List (S60) → List (S60) → List Bool → Int → Option ((List (S128)) × Int × Bool)
 | 0, _, _, _, _, _, _, _, _, _ => none
 | k + 1, x3, x13, x14, x15, x641000, x641001, x641002, x641003, x641004 => if (x15.length : Int) > 0 then ((spec_NextChunk.f k x15 x3).bind fun bt648 => ((spec_JoinChunk.f k x641000 x641001 x641002 x641003 x641004 bt648.1).bind fun bt654 => (if x13.length + bt654.1.length < 2513169434916 then (spec_BlockNestedLoopJoin.l0 k x3 (x13 ++ bt654.1) (wrap64 (x14 + 1)) bt648.2 bt654.2.1 bt654.2.2.1 bt654.2.2.2.1 bt654.2.2.2.2.1 bt654.2.2.2.2.2) else (none)))) else ((spec_UnmatchedRows.f k x641000 x641001 x641002 x641003 x641004).bind fun t672 => (if x13.length + t672.length < 2513169434916 then (some ((x13 ++ t672), x14, true)) else (none)))
end
def spec_BlockNestedLoopJoin.f (k : Nat) (a0 : Int) (l1 : List (S60)) (l2 : List (S60)) (a3 : Int) : Option ((List (S128)) × Int × Bool) := (spec_NewTask.f k a0 l1 l2).bind fun bt628 => (if bt628.2.2.2.2.2 = true then ((spec_l1In.f a3 8 60).bind fun t641 => (spec_BlockNestedLoopJoin.j0 k l2 a3 (!t641) bt628.1 bt628.2.1 bt628.2.2.1 bt628.2.2.2.1 bt628.2.2.2.2.1)) else (spec_BlockNestedLoopJoin.j0 k l2 a3 true bt628.1 bt628.2.1 bt628.2.2.1 bt628.2.2.2.1 bt628.2.2.2.2.1))
theorem spec_BlockNestedLoopJoin.calls (k : Nat) (a0 : Int) (A1 : Option Addr) (c1 : Nat) (l1 : List (S60)) (P2_ : Nat → Prop) (A2 : Option Addr) (c2 : Nat) (l2 : List (S60)) (a3 : Int) (r1 : List (S128)) (r2 : Int) (r3 : Bool) (w : World) (hr1 : Kd.C k60 w A1 l1.length l1) (hc1 : l1.length ≤ c1) (hs2 : Kd.V k60 60 w w.heap.size (fun k_ => P2_ k_) (.slice A2 l2.length c2) l2) (h : spec_BlockNestedLoopJoin.f k a0 l1 l2 a3 = some (r1, r2, r3)) :
  Calls Try.prog 24 #[.int .i64 a0, .slice A1 l1.length c1, .slice A2 l2.length c2, .int .i64 a3] w fun e w' => ∃ v0_ : Value, e = .returned (.tuple #[v0_, .int .i64 r2, .bool r3]) ∧ Kd.R k128 128 w' w.heap.size (fun k_ => (w.heap.size ≤ k_)) v0_ r1 ∧ Below w.heap.size w w' := by
 have hu40 := Try.underlying40
 have HR1 := am hr1
 have HC1 := am hc1
 clear hr1 hc1
 have HO2 := am (show Kd.V k60 60 w w.heap.size (fun k_ => (P2_ k_ ∨ w.heap.size ≤ k_)) (.slice A2 l2.length c2) l2 from Kd.V_mono hs2 (fun k_ hk => .inl hk))
 have HB := am (Below.refl w.heap.size w)
 have H : ((spec_NewTask.f k a0 l1 l2).bind fun bt628 => (if bt628.2.2.2.2.2 = true then ((spec_l1In.f a3 8 60).bind fun t641 => (spec_BlockNestedLoopJoin.j0 k l2 a3 (!t641) bt628.1 bt628.2.1 bt628.2.2.1 bt628.2.2.2.1 bt628.2.2.2.2.1)) else (spec_BlockNestedLoopJoin.j0 k l2 a3 true bt628.1 bt628.2.1 bt628.2.2.1 bt628.2.2.2.1 bt628.2.2.2.2.1))) = some (r1, r2, r3) := h
 clear h
 replace H := Option.bind_eq_some_iff.mp H
 obtain ⟨⟨t628, t629, t632, t635, t638, t639⟩, A50, H⟩ := H
 have A5 := am A50
 clear A50
 have HC6 := am H
 clear H
 go_enter Try.func24, Try.ntmps24
 go_upto_region 2 with (first | ((with_reducible refine gate_callee (f := 64) rfl ?_); refine goesL_ (some 24) rfl rfl Try.func64 (by kernel_rfl) rfl #[.int .i64 a0, .slice A1 l1.length c1, .slice A2 l2.length c2] rfl (by (try simp only [List.map_toArray, List.map_cons, List.map_nil]); rfl) ?_; (with_reducible refine (spec_NewTask.calls k a0 _ _ l1 _ _ l2 t628 t629 t632 t635 t638 t639 _ ?side1 ?side2 ?side3 ?side4 A5.out).mono ?_); (case side1 => repeat (exact HR1.out)); (case side2 => exact HC1.out); (case side3 => repeat (exact (Kd.V_reads' HO2.out).2.2)); (case side4 => exact (Kd.V_reads' HO2.out).2.1); rintro e w7 ⟨v630, v633, v636, rfl, ho0, ho1, ho2, hb⟩; refine ⟨_, rfl, ?_⟩; replace HO2 := am (Kd.V_mono (Kd.V_told (Kd.V_told (Kd.V_told (Kd.V_old HO2.out hb) (Kd.R_base ho0)) (Kd.R_base ho1)) (Kd.R_base ho2)) (fun _ h_ => h_.1)); have HO631 := am (Kd.R_lower (Kd.R_newM (M := fun k_ => (w.heap.size ≤ k_)) ho0 (below_size HB.out) (fun k_ h_ => h_)) (below_size HB.out)); have HO634 := am (Kd.R_lower (Kd.R_newM (M := fun k_ => (w.heap.size ≤ k_)) ho1 (below_size HB.out) (fun k_ h_ => h_)) (below_size HB.out)); have HO637 := am (Kd.R_lower (Kd.R_newM (M := fun k_ => (w.heap.size ≤ k_)) ho2 (below_size HB.out) (fun k_ h_ => h_)) (below_size HB.out)); replace HB := am (below_step HB.out hb); (try clear hb); (try clear ho0); (try clear ho1); (try clear ho2)) | ((with_reducible refine gate_dst (N := 11) rfl ?_); refine box_event ?hg (N := 11) ?hd (cs := #[.int .i64 0, .slice none 0 0, .slice none 0 0, .slice none 0 0, .int .i64 0]) (t := 40) ?hr ?_; (case hd => rfl); (case hg => rfl); (case hr => (go_simp; done)); intro gb640 hg w8 hbox hb; replace HO2 := am (Kd.V_below (Kd.V_elderB HO2.out gb640 (Nat.le_of_eq hg.symm)) hb); replace HO631 := am (Kd.R_below HO631.out hb); replace HO634 := am (Kd.R_below HO634.out hb); replace HO637 := am (Kd.R_below HO637.out hb); have BK640 := am (hbox); have GW640 := am (gw_ hg HB.out); have GE640 := am (gw_ hg HB.out); replace HB := am (below_step HB.out hb); clear hb hbox hg; obtain ⟨hcz9_0, hcz9_1, hcz9_2, hcz9_3, hcz9_4, hfz9_0, hfz9_1, hfz9_2, hfz9_3, hfz9_4⟩ := cells5_ BK640.out; obtain ⟨Ao10, co10, eo10⟩ := Kd.R_slice HO631.out; subst eo10; obtain ⟨Ao11, co11, eo11⟩ := Kd.R_slice HO634.out; subst eo11; obtain ⟨Ao12, co12, eo12⟩ := Kd.R_slice HO637.out; subst eo12))
 (try simp only [Act.put, s2_, s0_, s1_])
 go_cut [33] (fun v33 wc => ∃ (kq : Nat) (x33_5 : Bool), v33 = .bool x33_5 ∧ Aside0 (spec_BlockNestedLoopJoin.j0 kq l2 a3 x33_5 t628 t629 t632 t635 t638 = some (r1, r2, r3)) ∧ Aside0 (kq ≤ k) ∧ Aside0 (Kd.V k60 60 wc w.heap.size (fun k_ => (P2_ k_ ∨ w.heap.size ≤ k_) ∧ some k_ ≠ ((.slice Ao10 t629.length co10) : Value).ownBlock ∧ some k_ ≠ ((.slice Ao11 t632.length co11) : Value).ownBlock ∧ some k_ ≠ ((.slice Ao12 t635.length co12) : Value).ownBlock ∧ k_ ≠ gb640) (.slice A2 l2.length c2) l2) ∧ Aside0 (Kd.R k60 60 wc w.heap.size (fun k_ => (w.heap.size ≤ k_) ∧ some k_ ≠ ((.slice Ao11 t632.length co11) : Value).ownBlock) (.slice Ao10 t629.length co10) t629) ∧ Aside0 (Kd.R k60 60 wc w.heap.size (fun k_ => (w.heap.size ≤ k_) ∧ some k_ ≠ ((.slice Ao10 t629.length co10) : Value).ownBlock) (.slice Ao11 t632.length co11) t632) ∧ Aside0 (Kd.R Kd.bool 4 wc w.heap.size (fun k_ => (w.heap.size ≤ k_)) (.slice Ao12 t635.length co12) t635) ∧ Aside0 (wc.heap[gb640]? = some (.cells #[.int .i64 t628, (.slice Ao10 t629.length co10), (.slice Ao11 t632.length co11), (.slice Ao12 t635.length co12), .int .i64 t638] 40 (0, 0))) ∧ Aside0 (Below w.heap.size w wc))
 case first =>
  have H := HC6.out
  clear HC6
  by_cases c13 : t639 = true
  ·subst c13
   rw [if_pos rfl] at H
   replace H := Option.bind_eq_some_iff.mp H
   obtain ⟨t641, A140, H⟩ := H
   have A14 := am A140
   clear A140
   have H' := am H
   clear H
   go_wp2_with ((go_at_call 119; (with_reducible refine (spec_l1In.calls a3 8 60 t641 _ A14.out).mono ?_); rintro e w' ⟨rfl, ⟨nd, rfl⟩⟩))
   go_meet
   case rel => exact ⟨_, (!t641), rfl, H', ⟨by omega⟩, ⟨by (with_reducible repeat (apply Kd.V_drewN)); exact Kd.V_mono (Kd.V_far (p := ⟨gb640, 4, none⟩) (Kd.V_far (p := ⟨gb640, 3, none⟩) (Kd.V_far (p := ⟨gb640, 2, none⟩) (Kd.V_far (p := ⟨gb640, 1, none⟩) (Kd.V_far (p := ⟨gb640, 0, none⟩) (Kd.V_mono HO2.out (fun k_ hk => (⟨hk, hk.2⟩ : _ ∧ k_ ≠ gb640))) (fun _ hk => hk.2) (.int .i64 t628)) (fun _ hk => hk.2) (.slice Ao10 t629.length co10)) (fun _ hk => hk.2) (.slice Ao11 t632.length co11)) (fun _ hk => hk.2) (.slice Ao12 t635.length co12)) (fun _ hk => hk.2) (.int .i64 t638)) (fun _ hk => ⟨hk.1.1.1.1.1, ⟨hk.1.1.1.1.2, ⟨hk.1.1.1.2, ⟨hk.1.1.2, hk.1.2⟩⟩⟩⟩)⟩, ⟨by (with_reducible repeat (apply Kd.R_drewN)); exact Kd.R_mono (Kd.R_far (p := ⟨gb640, 4, none⟩) (Kd.R_far (p := ⟨gb640, 3, none⟩) (Kd.R_far (p := ⟨gb640, 2, none⟩) (Kd.R_far (p := ⟨gb640, 1, none⟩) (Kd.R_far (p := ⟨gb640, 0, none⟩) (Kd.R_types HO631.out BK640.out (by decide)) (fun _ hk => hk.2) (.int .i64 t628)) (fun _ hk => hk.2) (.slice Ao10 t629.length co10)) (fun _ hk => hk.2) (.slice Ao11 t632.length co11)) (fun _ hk => hk.2) (.slice Ao12 t635.length co12)) (fun _ hk => hk.2) (.int .i64 t638)) (fun _ hk => ⟨hk.1.1, hk.1.2⟩)⟩, ⟨by (with_reducible repeat (apply Kd.R_drewN)); exact Kd.R_mono (Kd.R_far (p := ⟨gb640, 4, none⟩) (Kd.R_far (p := ⟨gb640, 3, none⟩) (Kd.R_far (p := ⟨gb640, 2, none⟩) (Kd.R_far (p := ⟨gb640, 1, none⟩) (Kd.R_far (p := ⟨gb640, 0, none⟩) (Kd.R_types HO634.out BK640.out (by decide)) (fun _ hk => hk.2) (.int .i64 t628)) (fun _ hk => hk.2) (.slice Ao10 t629.length co10)) (fun _ hk => hk.2) (.slice Ao11 t632.length co11)) (fun _ hk => hk.2) (.slice Ao12 t635.length co12)) (fun _ hk => hk.2) (.int .i64 t638)) (fun _ hk => ⟨hk.1.1, hk.1.2⟩)⟩, ⟨by (with_reducible repeat (apply Kd.R_drewN)); exact Kd.R_mono (Kd.R_far (p := ⟨gb640, 4, none⟩) (Kd.R_far (p := ⟨gb640, 3, none⟩) (Kd.R_far (p := ⟨gb640, 2, none⟩) (Kd.R_far (p := ⟨gb640, 1, none⟩) (Kd.R_far (p := ⟨gb640, 0, none⟩) (Kd.R_types HO637.out BK640.out (by decide)) (fun _ hk => hk.2) (.int .i64 t628)) (fun _ hk => hk.2) (.slice Ao10 t629.length co10)) (fun _ hk => hk.2) (.slice Ao11 t632.length co11)) (fun _ hk => hk.2) (.slice Ao12 t635.length co12)) (fun _ hk => hk.2) (.int .i64 t638)) (fun _ hk => hk.1.1)⟩, ⟨by (with_reducible repeat (refine blk_drewN ?_ _)); refine blk_put (cs := #[.int .i64 t628, .slice Ao10 t629.length co10, .slice Ao11 t632.length co11, .slice Ao12 t635.length co12, .int .i64 0]) ?_ 4 _ rfl; refine blk_put (cs := #[.int .i64 t628, .slice Ao10 t629.length co10, .slice Ao11 t632.length co11, .slice none 0 0, .int .i64 0]) ?_ 3 _ rfl; refine blk_put (cs := #[.int .i64 t628, .slice Ao10 t629.length co10, .slice none 0 0, .slice none 0 0, .int .i64 0]) ?_ 2 _ rfl; refine blk_put (cs := #[.int .i64 t628, .slice none 0 0, .slice none 0 0, .slice none 0 0, .int .i64 0]) ?_ 1 _ rfl; refine blk_put (cs := #[.int .i64 0, .slice none 0 0, .slice none 0 0, .slice none 0 0, .int .i64 0]) ?_ 0 _ rfl; exact BK640.out⟩, ⟨by repeat ((with_reducible first | exact HB.out | apply pw_below_drewN | refine below_set ?_ GE640.out))⟩⟩
  ·replace c13 := Bool.eq_false_iff.mpr c13
   subst c13
   rw [if_neg (show ¬ (false = true) by decide)] at H
   have H' := am H
   clear H
   go_wp2
   go_meet
   case rel => exact ⟨_, (true), rfl, H', ⟨by omega⟩, ⟨by exact Kd.V_mono (Kd.V_far (p := ⟨gb640, 4, none⟩) (Kd.V_far (p := ⟨gb640, 3, none⟩) (Kd.V_far (p := ⟨gb640, 2, none⟩) (Kd.V_far (p := ⟨gb640, 1, none⟩) (Kd.V_far (p := ⟨gb640, 0, none⟩) (Kd.V_mono HO2.out (fun k_ hk => (⟨hk, hk.2⟩ : _ ∧ k_ ≠ gb640))) (fun _ hk => hk.2) (.int .i64 t628)) (fun _ hk => hk.2) (.slice Ao10 t629.length co10)) (fun _ hk => hk.2) (.slice Ao11 t632.length co11)) (fun _ hk => hk.2) (.slice Ao12 t635.length co12)) (fun _ hk => hk.2) (.int .i64 t638)) (fun _ hk => ⟨hk.1.1.1.1.1, ⟨hk.1.1.1.1.2, ⟨hk.1.1.1.2, ⟨hk.1.1.2, hk.1.2⟩⟩⟩⟩)⟩, ⟨by exact Kd.R_mono (Kd.R_far (p := ⟨gb640, 4, none⟩) (Kd.R_far (p := ⟨gb640, 3, none⟩) (Kd.R_far (p := ⟨gb640, 2, none⟩) (Kd.R_far (p := ⟨gb640, 1, none⟩) (Kd.R_far (p := ⟨gb640, 0, none⟩) (Kd.R_types HO631.out BK640.out (by decide)) (fun _ hk => hk.2) (.int .i64 t628)) (fun _ hk => hk.2) (.slice Ao10 t629.length co10)) (fun _ hk => hk.2) (.slice Ao11 t632.length co11)) (fun _ hk => hk.2) (.slice Ao12 t635.length co12)) (fun _ hk => hk.2) (.int .i64 t638)) (fun _ hk => ⟨hk.1.1, hk.1.2⟩)⟩, ⟨by exact Kd.R_mono (Kd.R_far (p := ⟨gb640, 4, none⟩) (Kd.R_far (p := ⟨gb640, 3, none⟩) (Kd.R_far (p := ⟨gb640, 2, none⟩) (Kd.R_far (p := ⟨gb640, 1, none⟩) (Kd.R_far (p := ⟨gb640, 0, none⟩) (Kd.R_types HO634.out BK640.out (by decide)) (fun _ hk => hk.2) (.int .i64 t628)) (fun _ hk => hk.2) (.slice Ao10 t629.length co10)) (fun _ hk => hk.2) (.slice Ao11 t632.length co11)) (fun _ hk => hk.2) (.slice Ao12 t635.length co12)) (fun _ hk => hk.2) (.int .i64 t638)) (fun _ hk => ⟨hk.1.1, hk.1.2⟩)⟩, ⟨by exact Kd.R_mono (Kd.R_far (p := ⟨gb640, 4, none⟩) (Kd.R_far (p := ⟨gb640, 3, none⟩) (Kd.R_far (p := ⟨gb640, 2, none⟩) (Kd.R_far (p := ⟨gb640, 1, none⟩) (Kd.R_far (p := ⟨gb640, 0, none⟩) (Kd.R_types HO637.out BK640.out (by decide)) (fun _ hk => hk.2) (.int .i64 t628)) (fun _ hk => hk.2) (.slice Ao10 t629.length co10)) (fun _ hk => hk.2) (.slice Ao11 t632.length co11)) (fun _ hk => hk.2) (.slice Ao12 t635.length co12)) (fun _ hk => hk.2) (.int .i64 t638)) (fun _ hk => hk.1.1)⟩, ⟨by refine blk_put (cs := #[.int .i64 t628, .slice Ao10 t629.length co10, .slice Ao11 t632.length co11, .slice Ao12 t635.length co12, .int .i64 0]) ?_ 4 _ rfl; refine blk_put (cs := #[.int .i64 t628, .slice Ao10 t629.length co10, .slice Ao11 t632.length co11, .slice none 0 0, .int .i64 0]) ?_ 3 _ rfl; refine blk_put (cs := #[.int .i64 t628, .slice Ao10 t629.length co10, .slice none 0 0, .slice none 0 0, .int .i64 0]) ?_ 2 _ rfl; refine blk_put (cs := #[.int .i64 t628, .slice none 0 0, .slice none 0 0, .slice none 0 0, .int .i64 0]) ?_ 1 _ rfl; refine blk_put (cs := #[.int .i64 0, .slice none 0 0, .slice none 0 0, .slice none 0 0, .int .i64 0]) ?_ 0 _ rfl; exact BK640.out⟩, ⟨by repeat ((with_reducible first | exact HB.out | refine below_set ?_ GE640.out))⟩⟩
 case rest =>
  clear HC6
  try clear hcz9_0
  try clear hcz9_1
  try clear hcz9_2
  try clear hcz9_3
  try clear hcz9_4
  try clear hfz9_0
  try clear hfz9_1
  try clear hfz9_2
  try clear hfz9_3
  try clear hfz9_4
  obtain ⟨kq, x33_5, rfl, HA, HJ5, HO_2, HO_641001, HO_641002, HO_641003, BK640, HB⟩ := hcut
  cases kq with
  | zero => exact absurd HA.out (by simp [spec_BlockNestedLoopJoin.j0])
  | succ kj5 =>
   have H := HA.out
   clear HA
   simp only [spec_BlockNestedLoopJoin.j0] at H
   by_cases c15 : x33_5 = true
   ·subst c15
    rw [if_pos rfl] at H
    obtain ⟨y642, hy642⟩ : ∃ y_ : List (S128), y_ = (([] : List (S128))) := ⟨_, rfl⟩
    replace H : (some (y642, 0, false)) = some (r1, r2, r3) := by (rw [hy642]; with_reducible exact H)
    have Ny642 := am hy642
    clear hy642
    simp only [Option.some.injEq, Prod.mk.injEq] at H
    obtain ⟨rfl, rfl, rfl⟩ := H
    go_wp2_with (((with_reducible refine gate_dst (N := 34) rfl ?_); refine Kd.R_lit k128 _ 128 ?hg (N := 34) ?hd (xs := ([] : List (S128))) (inner := []) (ok := fun _ => True) (okp := fun _ => True) ?hr ?hp (fun _ hk => hk) trivial (Below.refl _ _) (Nat.le_refl _) (by simp) ?_; (case hd => rfl); (case hg => rfl); (case hr => (go_simp; done)); (case hp => exact (Reps.none _ _)); intro v643 w16 ho17 hb hg_ hnew_; clear hg_ hnew_; (rw [← Ny642.out] at ho17); replace HO_2 := am (Kd.V_elder' HO_2.out (Kd.R_base ho17) hb); replace HO_641001 := am (Kd.R_below HO_641001.out hb); replace HO_641002 := am (Kd.R_below HO_641002.out hb); replace HO_641003 := am (Kd.R_below HO_641003.out hb); have HO644 := am (Kd.R_lower (Kd.R_newM (M := fun k_ => (w.heap.size ≤ k_)) ho17 (below_size HB.out) (fun k_ h_ => h_)) (below_size HB.out)); replace BK640 := am (blk_below BK640.out hb); replace HB := am (below_step HB.out hb); clear hb ho17))
    go_ret3
    exact ⟨_, rfl, by exact Kd.R_mono HO644.out (fun _ hk => hk.1), HB.out⟩
   ·replace c15 := Bool.eq_false_iff.mpr c15
    subst c15
    rw [if_neg (show ¬ (false = true) by decide)] at H
    obtain ⟨y645, hy645⟩ : ∃ y_ : List (S128), y_ = (([] : List (S128))) := ⟨_, rfl⟩
    replace H : (spec_BlockNestedLoopJoin.l0 kj5 a3 y645 0 l2 t628 t629 t632 t635 t638) = some (r1, r2, r3) := by (rw [hy645]; with_reducible exact H)
    have Ny645 := am hy645
    clear hy645
    have H' := am H
    clear H
    go_wp2_with (((with_reducible refine gate_dst (N := 35) rfl ?_); refine Kd.R_lit k128 _ 128 ?hg (N := 35) ?hd (xs := ([] : List (S128))) (inner := []) (ok := fun _ => True) (okp := fun _ => True) ?hr ?hp (fun _ hk => hk) trivial (Below.refl _ _) (Nat.le_refl _) (by simp) ?_; (case hd => rfl); (case hg => rfl); (case hr => (go_simp; done)); (case hp => exact (Reps.none _ _)); intro v646 w18 ho19 hb hg_ hnew_; clear hg_ hnew_; (rw [← Ny645.out] at ho19); replace HO_2 := am (Kd.V_elder' HO_2.out (Kd.R_base ho19) hb); replace HO_641001 := am (Kd.R_below HO_641001.out hb); replace HO_641002 := am (Kd.R_below HO_641002.out hb); replace HO_641003 := am (Kd.R_below HO_641003.out hb); have HO647 := am (Kd.R_lower (Kd.R_newM (M := fun k_ => (w.heap.size ≤ k_)) ho19 (below_size HB.out) (fun k_ h_ => h_)) (below_size HB.out)); replace BK640 := am (blk_below BK640.out hb); replace HB := am (below_step HB.out hb); clear hb ho19))
    go_loopg [13, 14, 15] kj5 (fun kq v13 v14 v15 w' => ∃ (x13_2 : List (S128)) (x14_2 : Int) (x15_2 : List (S60)) (x641000_2 : Int) (x641001_2 : List (S60)) (x641002_2 : List (S60)) (x641003_2 : List Bool) (x641004_2 : Int) (u641001 : Value) (u641002 : Value) (u641003 : Value), v14 = .int .i64 x14_2 ∧ Aside0 (spec_BlockNestedLoopJoin.l0 kq a3 x13_2 x14_2 x15_2 x641000_2 x641001_2 x641002_2 x641003_2 x641004_2 = some (r1, r2, r3)) ∧ Aside0 (kq ≤ kj5) ∧ Aside0 (Kd.R k128 128 w' w.heap.size (fun k_ => (w.heap.size ≤ k_)) v13 x13_2) ∧ Aside0 (Kd.V k60 60 w' w.heap.size (fun k_ => (P2_ k_ ∨ w.heap.size ≤ k_) ∧ some k_ ≠ (v13 : Value).ownBlock ∧ some k_ ≠ (u641001 : Value).ownBlock ∧ some k_ ≠ (u641002 : Value).ownBlock ∧ some k_ ≠ (u641003 : Value).ownBlock ∧ k_ ≠ gb640) v15 x15_2) ∧ Aside0 (Kd.R k60 60 w' w.heap.size (fun k_ => (w.heap.size ≤ k_) ∧ some k_ ≠ (u641002 : Value).ownBlock) u641001 x641001_2) ∧ Aside0 (Kd.R k60 60 w' w.heap.size (fun k_ => (w.heap.size ≤ k_) ∧ some k_ ≠ (u641001 : Value).ownBlock) u641002 x641002_2) ∧ Aside0 (Kd.R Kd.bool 4 w' w.heap.size (fun k_ => (w.heap.size ≤ k_)) u641003 x641003_2) ∧ Aside0 (w'.heap[gb640]? = some (.cells #[.int .i64 x641000_2, u641001, u641002, u641003, .int .i64 x641004_2] 40 (0, 0))) ∧ Aside0 (Below w.heap.size w w'))
    case atStart => exact ⟨(y645), (0), (l2), (t628), (t629), (t632), (t635), (t638), (.slice Ao10 t629.length co10), (.slice Ao11 t632.length co11), (.slice Ao12 t635.length co12), rfl, H', ⟨Nat.le_refl _⟩, ⟨by exact Kd.R_mono HO647.out (fun _ hk => hk.1)⟩, ⟨by exact Kd.V_mono HO_2.out (fun _ hk => ⟨hk.1.1, ⟨hk.2, ⟨hk.1.2.1, ⟨hk.1.2.2.1, ⟨hk.1.2.2.2.1, hk.1.2.2.2.2⟩⟩⟩⟩⟩)⟩, ⟨HO_641001.out⟩, ⟨HO_641002.out⟩, ⟨HO_641003.out⟩, ⟨BK640.out⟩, ⟨HB.out⟩⟩
    case round =>
     clear H'
     obtain ⟨x13_2, x14_2, x15_2, x641000_2, x641001_2, x641002_2, x641003_2, x641004_2, u641001, u641002, u641003, rfl, HA, HK2, HO_13, HO_15, HO_641001, HO_641002, HO_641003, BK640, HB⟩ := hrel
     cases gk with
     | zero => exact absurd HA.out (by simp [spec_BlockNestedLoopJoin.l0])
     | succ k2 =>
      have H := HA.out
      clear HA
      simp only [spec_BlockNestedLoopJoin.l0] at H
      by_cases c20 : (x15_2.length : Int) > 0
      ·rw [if_pos c20] at H
       have c20b0 : decide (0 < (x15_2.length : Int)) = true := decide_eq_true c20
       have c20b1 : decide (0 < x15_2.length) = true := decide_eq_true (by omega)
       clear c20
       replace H := Option.bind_eq_some_iff.mp H
       obtain ⟨⟨t648, t649⟩, A210, H⟩ := H
       have A21 := am A210
       clear A210
       replace H := Option.bind_eq_some_iff.mp H
       obtain ⟨⟨t654, t657, t658, t661, t664, t667⟩, A220, H⟩ := H
       have A22 := am A220
       clear A220
       by_cases c23 : x13_2.length + t654.length < 2513169434916
       ·rw [if_pos c23] at H
        have LMc23 := am c23
        clear c23
        obtain ⟨y669, hy669⟩ : ∃ y_ : List (S128), y_ = (x13_2 ++ t654) := ⟨_, rfl⟩
        replace H : (spec_BlockNestedLoopJoin.l0 k2 a3 y669 (wrap64 (x14_2 + 1)) t649 t657 t658 t661 t664 t667) = some (r1, r2, r3) := by (rw [hy669]; with_reducible exact H)
        have Ny669 := am hy669
        clear hy669
        have H' := am H
        clear H
        obtain ⟨Ao24, co24, eo24⟩ := Kd.V_slice HO_15.out
        subst eo24
        go_wp2_with (first | ((with_reducible refine gate_callee (f := 19) rfl ?_); refine goesL_ (some 45) rfl rfl Try.func19 (by kernel_rfl) rfl #[.slice Ao24 x15_2.length co24, .int .i64 a3] rfl (by (try simp only [List.map_toArray, List.map_cons, List.map_nil]); rfl) ?_; (with_reducible refine (spec_NextChunk.calls k2 _ _ x15_2 a3 t648 t649 _ ?side1 ?side2 A21.out).mono ?_); (case side1 => repeat (exact (Kd.V_reads' HO_15.out).2.2)); (case side2 => exact (Kd.V_reads' HO_15.out).2.1); rintro e w25 ⟨v650, v652, rfl, ho0, ho1, hb⟩; refine ⟨_, rfl, ?_⟩; replace HO_13 := am (Kd.R_below HO_13.out hb); replace HO_15 := am (Kd.V_mono (Kd.V_told (Kd.V_told (Kd.V_old HO_15.out hb) (Kd.R_base ho0)) (Kd.R_base ho1)) (fun _ h_ => h_.1)); replace HO_641003 := am (Kd.R_below HO_641003.out hb); have HO651 := am (Kd.R_lower (Kd.R_new' (Kd.R_new' (Kd.R_newM (M := fun k_ => (w.heap.size ≤ k_)) ho0 (below_size HB.out) (fun k_ h_ => h_)) (Kd.R_lt HO_641001.out)) (Kd.R_lt HO_641002.out)) (below_size HB.out)); have HO653 := am (Kd.R_lower (Kd.R_new' (Kd.R_new' (Kd.R_newM (M := fun k_ => (w.heap.size ≤ k_)) ho1 (below_size HB.out) (fun k_ h_ => h_)) (Kd.R_lt HO_641001.out)) (Kd.R_lt HO_641002.out)) (below_size HB.out)); replace HO_641001 := am (Kd.R_mono (Kd.R_told (Kd.R_told (Kd.R_old HO_641001.out hb) (Kd.R_base ho0)) (Kd.R_base ho1)) (fun _ h_ => h_.1)); replace HO_641002 := am (Kd.R_mono (Kd.R_told (Kd.R_told (Kd.R_old HO_641002.out hb) (Kd.R_base ho0)) (Kd.R_base ho1)) (fun _ h_ => h_.1)); replace BK640 := am (blk_below BK640.out hb); replace HB := am (below_step HB.out hb); (try clear hb); (try clear ho0); (try clear ho1); obtain ⟨hcz26_0, hcz26_1, hcz26_2, hcz26_3, hcz26_4, hfz26_0, hfz26_1, hfz26_2, hfz26_3, hfz26_4⟩ := cells5_ BK640.out; obtain ⟨Ao27, co27, eo27⟩ := Kd.R_slice HO_641001.out; subst eo27; obtain ⟨Ao28, co28, eo28⟩ := Kd.R_slice HO_641002.out; subst eo28; obtain ⟨Ao29, co29, eo29⟩ := Kd.R_slice HO_641003.out; subst eo29; obtain ⟨Ao30, co30, eo30⟩ := Kd.R_slice HO651.out; subst eo30) | ((with_reducible refine gate_callee (f := 120) rfl ?_); refine goesL_ (some 51) rfl rfl Try.func120 (by kernel_rfl) rfl #[.agg #[.int .i64 x641000_2, .slice Ao27 x641001_2.length co27, .slice Ao28 x641002_2.length co28, .slice Ao29 x641003_2.length co29, .int .i64 x641004_2], .slice Ao30 t648.length co30] rfl (by (try simp only [List.map_toArray, List.map_cons, List.map_nil]); rfl) ?_; (with_reducible refine (spec_JoinChunk.calls k2 x641000_2 _ _ x641001_2 _ _ x641002_2 _ _ x641003_2 x641004_2 _ _ t648 t654 t657 t658 t661 t664 t667 _ ?side1 ?side2 ?side3 ?side4 ?side5 ?side6 ?side7 ?side8 A22.out).mono ?_); (case side1 => repeat (exact (Kd.R_reads' HO_641001.out).2.2)); (case side2 => exact (Kd.R_reads' HO_641001.out).2.1); (case side3 => repeat (exact (Kd.R_reads' HO_641002.out).2.2)); (case side4 => exact (Kd.R_reads' HO_641002.out).2.1); (case side5 => repeat (exact (Kd.R_reads' HO_641003.out).2.2)); (case side6 => exact (Kd.R_reads' HO_641003.out).2.1); (case side7 => repeat (exact (Kd.R_reads' HO651.out).2.2)); (case side8 => exact (Kd.R_reads' HO651.out).2.1); rintro e w31 ⟨v655, v659, v662, v665, rfl, ho0, ho1, ho2, ho3, hb⟩; refine ⟨_, rfl, ?_⟩; replace HO_15 := am (Kd.V_mono (Kd.V_told (Kd.V_told (Kd.V_told (Kd.V_told (Kd.V_old HO_15.out hb) (Kd.R_base ho0)) (Kd.R_base ho1)) (Kd.R_base ho2)) (Kd.R_base ho3)) (fun _ h_ => h_.1)); have HO656 := am (Kd.R_lower (Kd.R_new' (Kd.R_newM (M := fun k_ => (w.heap.size ≤ k_)) ho0 (below_size HB.out) (fun k_ h_ => h_)) (Kd.R_lt HO_13.out)) (below_size HB.out)); replace HO_13 := am (Kd.R_elder' HO_13.out (Kd.R_base ho0) hb); have HO660 := am (Kd.R_lower (Kd.R_new' (Kd.R_new' (Kd.R_new' (Kd.R_new' (Kd.R_newM (M := fun k_ => (w.heap.size ≤ k_)) ho1 (below_size HB.out) (fun k_ h_ => h_)) (Kd.R_lt HO_641001.out)) (Kd.R_lt HO_641002.out)) (Kd.R_lt HO651.out)) (Kd.R_lt HO653.out)) (below_size HB.out)); have HO663 := am (Kd.R_lower (Kd.R_new' (Kd.R_new' (Kd.R_new' (Kd.R_new' (Kd.R_newM (M := fun k_ => (w.heap.size ≤ k_)) ho2 (below_size HB.out) (fun k_ h_ => h_)) (Kd.R_lt HO_641001.out)) (Kd.R_lt HO_641002.out)) (Kd.R_lt HO651.out)) (Kd.R_lt HO653.out)) (below_size HB.out)); replace HO_641001 := am (Kd.R_mono (Kd.R_told (Kd.R_told (Kd.R_old HO_641001.out hb) (Kd.R_base ho1)) (Kd.R_base ho2)) (fun _ h_ => h_.1)); replace HO_641002 := am (Kd.R_mono (Kd.R_told (Kd.R_told (Kd.R_old HO_641002.out hb) (Kd.R_base ho1)) (Kd.R_base ho2)) (fun _ h_ => h_.1)); replace HO651 := am (Kd.R_mono (Kd.R_told (Kd.R_told (Kd.R_old HO651.out hb) (Kd.R_base ho1)) (Kd.R_base ho2)) (fun _ h_ => h_.1)); replace HO653 := am (Kd.R_mono (Kd.R_told (Kd.R_told (Kd.R_old HO653.out hb) (Kd.R_base ho1)) (Kd.R_base ho2)) (fun _ h_ => h_.1)); have HO666 := am (Kd.R_lower (Kd.R_new' (Kd.R_newM (M := fun k_ => (w.heap.size ≤ k_)) ho3 (below_size HB.out) (fun k_ h_ => h_)) (Kd.R_lt HO_641003.out)) (below_size HB.out)); replace HO_641003 := am (Kd.R_elder' HO_641003.out (Kd.R_base ho3) hb); replace BK640 := am (blk_below BK640.out hb); replace HB := am (below_step HB.out hb); (try clear hb); (try clear ho0); (try clear ho1); (try clear ho2); (try clear ho3)) | ((with_reducible refine gate_dst (N := 19) rfl ?_); refine box_event ?hg (N := 19) ?hd (cs := #[.int .i64 0, .slice none 0 0, .slice none 0 0, .slice none 0 0, .int .i64 0]) (t := 40) ?hr ?_; (case hd => rfl); (case hg => rfl); (case hr => (go_simp; done)); intro gb668 hg w32 hbox hb; replace HO_13 := am (Kd.R_below HO_13.out hb); replace HO_15 := am (Kd.V_below (Kd.V_elderB HO_15.out gb668 (Nat.le_of_eq hg.symm)) hb); replace HO_641001 := am (Kd.R_below HO_641001.out hb); replace HO_641002 := am (Kd.R_below HO_641002.out hb); replace HO_641003 := am (Kd.R_below HO_641003.out hb); replace HO651 := am (Kd.R_below HO651.out hb); replace HO653 := am (Kd.R_below HO653.out hb); replace HO656 := am (Kd.R_below HO656.out hb); replace HO660 := am (Kd.R_below HO660.out hb); replace HO663 := am (Kd.R_below HO663.out hb); replace HO666 := am (Kd.R_below HO666.out hb); have BK668 := am (hbox); have GW668 := am (gw_ hg HB.out); have GE668 := am (gw_ hg HB.out); replace HB := am (below_step HB.out hb); have NB640_668 := am ((by rw [hg]; exact Nat.ne_of_lt (blk_lt (g := gb640) (o := .cells #[.int .i64 x641000_2, .slice Ao27 x641001_2.length co27, .slice Ao28 x641002_2.length co28, .slice Ao29 x641003_2.length co29, .int .i64 x641004_2] 40 (0, 0)) BK640.out) : gb640 ≠ gb668)); have NB668_640 := am ((by rw [hg]; exact Nat.ne_of_gt (blk_lt (g := gb640) (o := .cells #[.int .i64 x641000_2, .slice Ao27 x641001_2.length co27, .slice Ao28 x641002_2.length co28, .slice Ao29 x641003_2.length co29, .int .i64 x641004_2] 40 (0, 0)) BK640.out) : gb668 ≠ gb640)); replace BK640 := am (blk_below BK640.out hb); clear hb hbox hg; have hnb33 := NB668_640.out; have hnc33 := NB640_668.out; obtain ⟨hcz34_0, hcz34_1, hcz34_2, hcz34_3, hcz34_4, hfz34_0, hfz34_1, hfz34_2, hfz34_3, hfz34_4⟩ := cells5_ BK668.out; obtain ⟨Ao35, co35, eo35⟩ := Kd.R_slice HO660.out; subst eo35; obtain ⟨Ao36, co36, eo36⟩ := Kd.R_slice HO663.out; subst eo36; obtain ⟨Ao37, co37, eo37⟩ := Kd.R_slice HO666.out; subst eo37; obtain ⟨Ao39, co39, eo39⟩ := Kd.R_slice HO656.out; subst eo39) | ((with_reducible refine gate_builtin (b := .append) (xs := #[.tmp 54, .tmp 55]) rfl ?_); at_builtin; refine Kd.R_append_rows k128 (w0 := w) w.heap.size rfl (.tmp 54) (.tmp 55) 33 128 (.agg #[(.int .i64 0), (.int .i64 0), (.int .i64 0), (.int .i64 0), (.int .i64 0), (.int .i64 0), (.bool false)]) 56 rfl Try.underlying33 info128 rfl (by decide) (by omega) u13 x13_2 t654 _ _ _ (fun k_ => (w.heap.size ≤ k_) ∧ some k_ ≠ (.slice Ao39 t654.length co39 : Value).ownBlock) (fun _ => False) rfl rfl ?aO ?aR (fun _ _ h => h) (fun _ h => h.elim) ?aF ?aB ?aS ?aL ?_; (case aR => refine (Kd.R_reads' (e := 128) (base := w.heap.size) (ok := fun k_ => (((w.heap.size ≤ k_) ∧ True) ∧ some k_ ≠ (u13 : Value).ownBlock)) (n := t654.length) (c := co39) ?_).2.2; exact (by exact (Kd.R_mono (Kd.R_far (p := ⟨gb668, 4, none⟩) (Kd.R_far (p := ⟨gb668, 3, none⟩) (Kd.R_far (p := ⟨gb668, 2, none⟩) (Kd.R_far (p := ⟨gb668, 1, none⟩) (Kd.R_far (p := ⟨gb668, 0, none⟩) (Kd.R_types HO656.out BK668.out (by decide)) (fun _ hk => hk.2) (.int .i64 t657)) (fun _ hk => hk.2) (.slice Ao35 t658.length co35)) (fun _ hk => hk.2) (.slice Ao36 t661.length co36)) (fun _ hk => hk.2) (.slice Ao37 t664.length co37)) (fun _ hk => hk.2) (.int .i64 t667)) (fun _ h_ => h_.1)))); (case aB => exact (by repeat (with_reducible first | exact HB.out | refine below_set ?_ GE668.out))); (case aF => exact (fun k_ hk => ⟨(Nat.le_trans (below_size (by repeat (with_reducible first | exact HB.out | refine below_set ?_ GE668.out))) hk), Kd.fresh' (Kd.R_lt (by exact (Kd.R_mono (Kd.R_far (p := ⟨gb668, 4, none⟩) (Kd.R_far (p := ⟨gb668, 3, none⟩) (Kd.R_far (p := ⟨gb668, 2, none⟩) (Kd.R_far (p := ⟨gb668, 1, none⟩) (Kd.R_far (p := ⟨gb668, 0, none⟩) (Kd.R_types HO656.out BK668.out (by decide)) (fun _ hk => hk.2) (.int .i64 t657)) (fun _ hk => hk.2) (.slice Ao35 t658.length co35)) (fun _ hk => hk.2) (.slice Ao36 t661.length co36)) (fun _ hk => hk.2) (.slice Ao37 t664.length co37)) (fun _ hk => hk.2) (.int .i64 t667)) (fun _ h_ => h_.1)))) k_ hk⟩)); (case aO => exact (by exact Kd.R_mono (Kd.R_far (p := ⟨gb668, 4, none⟩) (Kd.R_far (p := ⟨gb668, 3, none⟩) (Kd.R_far (p := ⟨gb668, 2, none⟩) (Kd.R_far (p := ⟨gb668, 1, none⟩) (Kd.R_far (p := ⟨gb668, 0, none⟩) (Kd.R_types HO_13.out BK668.out (by decide)) (fun _ hk => hk.2) (.int .i64 t657)) (fun _ hk => hk.2) (.slice Ao35 t658.length co35)) (fun _ hk => hk.2) (.slice Ao36 t661.length co36)) (fun _ hk => hk.2) (.slice Ao37 t664.length co37)) (fun _ hk => hk.2) (.int .i64 t667)) (fun _ hk => ⟨hk.1.1, hk.1.2⟩))); (case aS => exact (below_size (by repeat (with_reducible first | exact HB.out | refine below_set ?_ GE668.out)))); (case aL => have := LMc23.out; omega); intro v670 w38 ho hb hg hat; rw [← Ny669.out] at ho; replace HO_15 := am (Kd.V_afterv (ok := (fun k_ => (P2_ k_ ∨ w.heap.size ≤ k_) ∧ some k_ ≠ (.slice Ao27 x641001_2.length co27 : Value).ownBlock ∧ some k_ ≠ (.slice Ao28 x641002_2.length co28 : Value).ownBlock ∧ some k_ ≠ (.slice Ao29 x641003_2.length co29 : Value).ownBlock ∧ some k_ ≠ (.slice Ao30 t648.length co30 : Value).ownBlock ∧ some k_ ≠ (v652 : Value).ownBlock ∧ some k_ ≠ (.slice Ao39 t654.length co39 : Value).ownBlock ∧ some k_ ≠ (.slice Ao35 t658.length co35 : Value).ownBlock ∧ some k_ ≠ (.slice Ao36 t661.length co36 : Value).ownBlock ∧ some k_ ≠ (.slice Ao37 t664.length co37 : Value).ownBlock ∧ k_ ≠ gb640 ∧ k_ ≠ gb668)) (by exact Kd.V_mono (Kd.V_far (p := ⟨gb668, 4, none⟩) (Kd.V_far (p := ⟨gb668, 3, none⟩) (Kd.V_far (p := ⟨gb668, 2, none⟩) (Kd.V_far (p := ⟨gb668, 1, none⟩) (Kd.V_far (p := ⟨gb668, 0, none⟩) (Kd.V_mono HO_15.out (fun k_ hk => (⟨hk, hk.2⟩ : _ ∧ k_ ≠ gb668))) (fun _ hk => hk.2) (.int .i64 t657)) (fun _ hk => hk.2) (.slice Ao35 t658.length co35)) (fun _ hk => hk.2) (.slice Ao36 t661.length co36)) (fun _ hk => hk.2) (.slice Ao37 t664.length co37)) (fun _ hk => hk.2) (.int .i64 t667)) (fun _ hk => ⟨⟨hk.1.1.1.1.1.1.1.1.1, ⟨hk.1.1.1.1.1.1.1.1.2.2.1, ⟨hk.1.1.1.1.1.1.1.1.2.2.2.1, ⟨hk.1.1.1.1.1.1.1.1.2.2.2.2.1, ⟨hk.1.1.1.1.1.1.1.2, ⟨hk.1.1.1.1.1.1.2, ⟨hk.1.1.1.1.1.2, ⟨hk.1.1.1.1.2, ⟨hk.1.1.1.2, ⟨hk.1.1.2, ⟨hk.1.1.1.1.1.1.1.1.2.2.2.2.2, hk.1.2⟩⟩⟩⟩⟩⟩⟩⟩⟩⟩⟩, hk.1.1.1.1.1.1.1.1.2.1⟩)) hg hat); replace HO_641001 := am (Kd.R_over' (by exact (Kd.R_mono (Kd.R_far (p := ⟨gb668, 4, none⟩) (Kd.R_far (p := ⟨gb668, 3, none⟩) (Kd.R_far (p := ⟨gb668, 2, none⟩) (Kd.R_far (p := ⟨gb668, 1, none⟩) (Kd.R_far (p := ⟨gb668, 0, none⟩) (Kd.R_types HO_641001.out BK668.out (by decide)) (fun _ hk => hk.2) (.int .i64 t657)) (fun _ hk => hk.2) (.slice Ao35 t658.length co35)) (fun _ hk => hk.2) (.slice Ao36 t661.length co36)) (fun _ hk => hk.2) (.slice Ao37 t664.length co37)) (fun _ hk => hk.2) (.int .i64 t667)) (fun _ h_ => h_.1))) (Kd.R_typed (by exact (Kd.R_mono (Kd.R_far (p := ⟨gb668, 4, none⟩) (Kd.R_far (p := ⟨gb668, 3, none⟩) (Kd.R_far (p := ⟨gb668, 2, none⟩) (Kd.R_far (p := ⟨gb668, 1, none⟩) (Kd.R_far (p := ⟨gb668, 0, none⟩) (Kd.R_types HO_13.out BK668.out (by decide)) (fun _ hk => hk.2) (.int .i64 t657)) (fun _ hk => hk.2) (.slice Ao35 t658.length co35)) (fun _ hk => hk.2) (.slice Ao36 t661.length co36)) (fun _ hk => hk.2) (.slice Ao37 t664.length co37)) (fun _ hk => hk.2) (.int .i64 t667)) (fun _ h_ => h_.1)))) (by decide) hg); replace HO_641002 := am (Kd.R_over' (by exact (Kd.R_mono (Kd.R_far (p := ⟨gb668, 4, none⟩) (Kd.R_far (p := ⟨gb668, 3, none⟩) (Kd.R_far (p := ⟨gb668, 2, none⟩) (Kd.R_far (p := ⟨gb668, 1, none⟩) (Kd.R_far (p := ⟨gb668, 0, none⟩) (Kd.R_types HO_641002.out BK668.out (by decide)) (fun _ hk => hk.2) (.int .i64 t657)) (fun _ hk => hk.2) (.slice Ao35 t658.length co35)) (fun _ hk => hk.2) (.slice Ao36 t661.length co36)) (fun _ hk => hk.2) (.slice Ao37 t664.length co37)) (fun _ hk => hk.2) (.int .i64 t667)) (fun _ h_ => h_.1))) (Kd.R_typed (by exact (Kd.R_mono (Kd.R_far (p := ⟨gb668, 4, none⟩) (Kd.R_far (p := ⟨gb668, 3, none⟩) (Kd.R_far (p := ⟨gb668, 2, none⟩) (Kd.R_far (p := ⟨gb668, 1, none⟩) (Kd.R_far (p := ⟨gb668, 0, none⟩) (Kd.R_types HO_13.out BK668.out (by decide)) (fun _ hk => hk.2) (.int .i64 t657)) (fun _ hk => hk.2) (.slice Ao35 t658.length co35)) (fun _ hk => hk.2) (.slice Ao36 t661.length co36)) (fun _ hk => hk.2) (.slice Ao37 t664.length co37)) (fun _ hk => hk.2) (.int .i64 t667)) (fun _ h_ => h_.1)))) (by decide) hg); replace HO_641003 := am (Kd.R_over' (by exact (Kd.R_mono (Kd.R_far (p := ⟨gb668, 4, none⟩) (Kd.R_far (p := ⟨gb668, 3, none⟩) (Kd.R_far (p := ⟨gb668, 2, none⟩) (Kd.R_far (p := ⟨gb668, 1, none⟩) (Kd.R_far (p := ⟨gb668, 0, none⟩) (Kd.R_types HO_641003.out BK668.out (by decide)) (fun _ hk => hk.2) (.int .i64 t657)) (fun _ hk => hk.2) (.slice Ao35 t658.length co35)) (fun _ hk => hk.2) (.slice Ao36 t661.length co36)) (fun _ hk => hk.2) (.slice Ao37 t664.length co37)) (fun _ hk => hk.2) (.int .i64 t667)) (fun _ h_ => h_.1))) (Kd.R_typed (by exact (Kd.R_mono (Kd.R_far (p := ⟨gb668, 4, none⟩) (Kd.R_far (p := ⟨gb668, 3, none⟩) (Kd.R_far (p := ⟨gb668, 2, none⟩) (Kd.R_far (p := ⟨gb668, 1, none⟩) (Kd.R_far (p := ⟨gb668, 0, none⟩) (Kd.R_types HO_13.out BK668.out (by decide)) (fun _ hk => hk.2) (.int .i64 t657)) (fun _ hk => hk.2) (.slice Ao35 t658.length co35)) (fun _ hk => hk.2) (.slice Ao36 t661.length co36)) (fun _ hk => hk.2) (.slice Ao37 t664.length co37)) (fun _ hk => hk.2) (.int .i64 t667)) (fun _ h_ => h_.1)))) (by decide) hg); replace BK640 := am (blk_grown (g := gb640) (o := .cells #[.int .i64 x641000_2, .slice Ao27 x641001_2.length co27, .slice Ao28 x641002_2.length co28, .slice Ao29 x641003_2.length co29, .int .i64 x641004_2] 40 (0, 0)) (by refine blk_far ?_ NB640_668.out _; refine blk_far ?_ NB640_668.out _; refine blk_far ?_ NB640_668.out _; refine blk_far ?_ NB640_668.out _; refine blk_far ?_ NB640_668.out _; exact BK640.out) hg (Kd.R_ne HO_13.out BK640.out (by decide))); replace HO651 := am (Kd.R_over' (by exact (Kd.R_mono (Kd.R_far (p := ⟨gb668, 4, none⟩) (Kd.R_far (p := ⟨gb668, 3, none⟩) (Kd.R_far (p := ⟨gb668, 2, none⟩) (Kd.R_far (p := ⟨gb668, 1, none⟩) (Kd.R_far (p := ⟨gb668, 0, none⟩) (Kd.R_types HO651.out BK668.out (by decide)) (fun _ hk => hk.2) (.int .i64 t657)) (fun _ hk => hk.2) (.slice Ao35 t658.length co35)) (fun _ hk => hk.2) (.slice Ao36 t661.length co36)) (fun _ hk => hk.2) (.slice Ao37 t664.length co37)) (fun _ hk => hk.2) (.int .i64 t667)) (fun _ h_ => h_.1))) (Kd.R_typed (by exact (Kd.R_mono (Kd.R_far (p := ⟨gb668, 4, none⟩) (Kd.R_far (p := ⟨gb668, 3, none⟩) (Kd.R_far (p := ⟨gb668, 2, none⟩) (Kd.R_far (p := ⟨gb668, 1, none⟩) (Kd.R_far (p := ⟨gb668, 0, none⟩) (Kd.R_types HO_13.out BK668.out (by decide)) (fun _ hk => hk.2) (.int .i64 t657)) (fun _ hk => hk.2) (.slice Ao35 t658.length co35)) (fun _ hk => hk.2) (.slice Ao36 t661.length co36)) (fun _ hk => hk.2) (.slice Ao37 t664.length co37)) (fun _ hk => hk.2) (.int .i64 t667)) (fun _ h_ => h_.1)))) (by decide) hg); replace HO653 := am (Kd.R_over' (by exact (Kd.R_mono (Kd.R_far (p := ⟨gb668, 4, none⟩) (Kd.R_far (p := ⟨gb668, 3, none⟩) (Kd.R_far (p := ⟨gb668, 2, none⟩) (Kd.R_far (p := ⟨gb668, 1, none⟩) (Kd.R_far (p := ⟨gb668, 0, none⟩) (Kd.R_types HO653.out BK668.out (by decide)) (fun _ hk => hk.2) (.int .i64 t657)) (fun _ hk => hk.2) (.slice Ao35 t658.length co35)) (fun _ hk => hk.2) (.slice Ao36 t661.length co36)) (fun _ hk => hk.2) (.slice Ao37 t664.length co37)) (fun _ hk => hk.2) (.int .i64 t667)) (fun _ h_ => h_.1))) (Kd.R_typed (by exact (Kd.R_mono (Kd.R_far (p := ⟨gb668, 4, none⟩) (Kd.R_far (p := ⟨gb668, 3, none⟩) (Kd.R_far (p := ⟨gb668, 2, none⟩) (Kd.R_far (p := ⟨gb668, 1, none⟩) (Kd.R_far (p := ⟨gb668, 0, none⟩) (Kd.R_types HO_13.out BK668.out (by decide)) (fun _ hk => hk.2) (.int .i64 t657)) (fun _ hk => hk.2) (.slice Ao35 t658.length co35)) (fun _ hk => hk.2) (.slice Ao36 t661.length co36)) (fun _ hk => hk.2) (.slice Ao37 t664.length co37)) (fun _ hk => hk.2) (.int .i64 t667)) (fun _ h_ => h_.1)))) (by decide) hg); replace HO656 := am (Kd.R_after (ok := (fun k_ => (w.heap.size ≤ k_))) (by exact Kd.R_mono (Kd.R_far (p := ⟨gb668, 4, none⟩) (Kd.R_far (p := ⟨gb668, 3, none⟩) (Kd.R_far (p := ⟨gb668, 2, none⟩) (Kd.R_far (p := ⟨gb668, 1, none⟩) (Kd.R_far (p := ⟨gb668, 0, none⟩) (Kd.R_types HO656.out BK668.out (by decide)) (fun _ hk => hk.2) (.int .i64 t657)) (fun _ hk => hk.2) (.slice Ao35 t658.length co35)) (fun _ hk => hk.2) (.slice Ao36 t661.length co36)) (fun _ hk => hk.2) (.slice Ao37 t664.length co37)) (fun _ hk => hk.2) (.int .i64 t667)) (fun _ hk => ⟨hk.1.1.1, hk.1.2⟩)) hg hat); replace HO660 := am (Kd.R_over' (by exact (Kd.R_mono (Kd.R_far (p := ⟨gb668, 4, none⟩) (Kd.R_far (p := ⟨gb668, 3, none⟩) (Kd.R_far (p := ⟨gb668, 2, none⟩) (Kd.R_far (p := ⟨gb668, 1, none⟩) (Kd.R_far (p := ⟨gb668, 0, none⟩) (Kd.R_types HO660.out BK668.out (by decide)) (fun _ hk => hk.2) (.int .i64 t657)) (fun _ hk => hk.2) (.slice Ao35 t658.length co35)) (fun _ hk => hk.2) (.slice Ao36 t661.length co36)) (fun _ hk => hk.2) (.slice Ao37 t664.length co37)) (fun _ hk => hk.2) (.int .i64 t667)) (fun _ h_ => h_.1))) (Kd.R_typed (by exact (Kd.R_mono (Kd.R_far (p := ⟨gb668, 4, none⟩) (Kd.R_far (p := ⟨gb668, 3, none⟩) (Kd.R_far (p := ⟨gb668, 2, none⟩) (Kd.R_far (p := ⟨gb668, 1, none⟩) (Kd.R_far (p := ⟨gb668, 0, none⟩) (Kd.R_types HO_13.out BK668.out (by decide)) (fun _ hk => hk.2) (.int .i64 t657)) (fun _ hk => hk.2) (.slice Ao35 t658.length co35)) (fun _ hk => hk.2) (.slice Ao36 t661.length co36)) (fun _ hk => hk.2) (.slice Ao37 t664.length co37)) (fun _ hk => hk.2) (.int .i64 t667)) (fun _ h_ => h_.1)))) (by decide) hg); replace HO663 := am (Kd.R_over' (by exact (Kd.R_mono (Kd.R_far (p := ⟨gb668, 4, none⟩) (Kd.R_far (p := ⟨gb668, 3, none⟩) (Kd.R_far (p := ⟨gb668, 2, none⟩) (Kd.R_far (p := ⟨gb668, 1, none⟩) (Kd.R_far (p := ⟨gb668, 0, none⟩) (Kd.R_types HO663.out BK668.out (by decide)) (fun _ hk => hk.2) (.int .i64 t657)) (fun _ hk => hk.2) (.slice Ao35 t658.length co35)) (fun _ hk => hk.2) (.slice Ao36 t661.length co36)) (fun _ hk => hk.2) (.slice Ao37 t664.length co37)) (fun _ hk => hk.2) (.int .i64 t667)) (fun _ h_ => h_.1))) (Kd.R_typed (by exact (Kd.R_mono (Kd.R_far (p := ⟨gb668, 4, none⟩) (Kd.R_far (p := ⟨gb668, 3, none⟩) (Kd.R_far (p := ⟨gb668, 2, none⟩) (Kd.R_far (p := ⟨gb668, 1, none⟩) (Kd.R_far (p := ⟨gb668, 0, none⟩) (Kd.R_types HO_13.out BK668.out (by decide)) (fun _ hk => hk.2) (.int .i64 t657)) (fun _ hk => hk.2) (.slice Ao35 t658.length co35)) (fun _ hk => hk.2) (.slice Ao36 t661.length co36)) (fun _ hk => hk.2) (.slice Ao37 t664.length co37)) (fun _ hk => hk.2) (.int .i64 t667)) (fun _ h_ => h_.1)))) (by decide) hg); replace HO666 := am (Kd.R_over' (by exact (Kd.R_mono (Kd.R_far (p := ⟨gb668, 4, none⟩) (Kd.R_far (p := ⟨gb668, 3, none⟩) (Kd.R_far (p := ⟨gb668, 2, none⟩) (Kd.R_far (p := ⟨gb668, 1, none⟩) (Kd.R_far (p := ⟨gb668, 0, none⟩) (Kd.R_types HO666.out BK668.out (by decide)) (fun _ hk => hk.2) (.int .i64 t657)) (fun _ hk => hk.2) (.slice Ao35 t658.length co35)) (fun _ hk => hk.2) (.slice Ao36 t661.length co36)) (fun _ hk => hk.2) (.slice Ao37 t664.length co37)) (fun _ hk => hk.2) (.int .i64 t667)) (fun _ h_ => h_.1))) (Kd.R_typed (by exact (Kd.R_mono (Kd.R_far (p := ⟨gb668, 4, none⟩) (Kd.R_far (p := ⟨gb668, 3, none⟩) (Kd.R_far (p := ⟨gb668, 2, none⟩) (Kd.R_far (p := ⟨gb668, 1, none⟩) (Kd.R_far (p := ⟨gb668, 0, none⟩) (Kd.R_types HO_13.out BK668.out (by decide)) (fun _ hk => hk.2) (.int .i64 t657)) (fun _ hk => hk.2) (.slice Ao35 t658.length co35)) (fun _ hk => hk.2) (.slice Ao36 t661.length co36)) (fun _ hk => hk.2) (.slice Ao37 t664.length co37)) (fun _ hk => hk.2) (.int .i64 t667)) (fun _ h_ => h_.1)))) (by decide) hg); replace BK668 := am (blk_grown (g := gb668) (o := .cells #[.int .i64 t657, .slice Ao35 t658.length co35, .slice Ao36 t661.length co36, .slice Ao37 t664.length co37, .int .i64 t667] 40 (0, 0)) (by refine blk_put (cs := #[.int .i64 t657, .slice Ao35 t658.length co35, .slice Ao36 t661.length co36, .slice Ao37 t664.length co37, .int .i64 0]) ?_ 4 _ rfl; refine blk_put (cs := #[.int .i64 t657, .slice Ao35 t658.length co35, .slice Ao36 t661.length co36, .slice none 0 0, .int .i64 0]) ?_ 3 _ rfl; refine blk_put (cs := #[.int .i64 t657, .slice Ao35 t658.length co35, .slice none 0 0, .slice none 0 0, .int .i64 0]) ?_ 2 _ rfl; refine blk_put (cs := #[.int .i64 t657, .slice none 0 0, .slice none 0 0, .slice none 0 0, .int .i64 0]) ?_ 1 _ rfl; refine blk_put (cs := #[.int .i64 0, .slice none 0 0, .slice none 0 0, .slice none 0 0, .int .i64 0]) ?_ 0 _ rfl; exact BK668.out) hg (Kd.R_ne HO_13.out BK668.out (by decide))); replace HB := am (hb); have HO671 := am (ho); clear HO_13 ho hb hg hat; obtain ⟨hcz40_0, hcz40_1, hcz40_2, hcz40_3, hcz40_4, hfz40_0, hfz40_1, hfz40_2, hfz40_3, hfz40_4⟩ := cells5_ BK668.out; obtain ⟨hcz41_0, hcz41_1, hcz41_2, hcz41_3, hcz41_4, hfz41_0, hfz41_1, hfz41_2, hfz41_3, hfz41_4⟩ := cells5_ BK640.out))
        go_roundg k2
        case measure => have := HJ5.out; have := HK2.out; omega
        case rel => exact ⟨(y669), (wrap64 (x14_2 + 1)), (t649), (t657), (t658), (t661), (t664), (t667), (.slice Ao35 t658.length co35), (.slice Ao36 t661.length co36), (.slice Ao37 t664.length co37), rfl, H', ⟨by have := HJ5.out; have := HK2.out; omega⟩, ⟨by exact Kd.R_mono (Kd.R_far (p := ⟨gb640, 4, none⟩) (Kd.R_far (p := ⟨gb640, 3, none⟩) (Kd.R_far (p := ⟨gb640, 2, none⟩) (Kd.R_far (p := ⟨gb640, 1, none⟩) (Kd.R_far (p := ⟨gb640, 0, none⟩) (Kd.R_types HO671.out BK640.out (by decide)) (fun _ hk => hk.2) (.int .i64 t657)) (fun _ hk => hk.2) (.slice Ao35 t658.length co35)) (fun _ hk => hk.2) (.slice Ao36 t661.length co36)) (fun _ hk => hk.2) (.slice Ao37 t664.length co37)) (fun _ hk => hk.2) (.int .i64 t667)) (fun _ hk => hk.1.1)⟩, ⟨Kd.V_mono (Kd.R_V (ok := fun k_ => w.heap.size ≤ k_ ∧ some k_ ≠ (v670 : Value).ownBlock ∧ some k_ ≠ (Value.slice Ao35 t658.length co35).ownBlock ∧ some k_ ≠ (Value.slice Ao36 t661.length co36).ownBlock ∧ some k_ ≠ (Value.slice Ao37 t664.length co37).ownBlock ∧ k_ ≠ gb640) (by exact Kd.R_mono (Kd.R_far (p := ⟨gb640, 4, none⟩) (Kd.R_far (p := ⟨gb640, 3, none⟩) (Kd.R_far (p := ⟨gb640, 2, none⟩) (Kd.R_far (p := ⟨gb640, 1, none⟩) (Kd.R_far (p := ⟨gb640, 0, none⟩) (Kd.R_types (Kd.R_types (Kd.R_apart' (Kd.R_apart' HO653.out (Kd.R_typed HO671.out) (by decide)) (Kd.R_typed HO666.out) (by decide)) BK640.out (by decide)) BK640.out (by decide)) (fun _ hk => hk.2) (.int .i64 t657)) (fun _ hk => hk.2) (.slice Ao35 t658.length co35)) (fun _ hk => hk.2) (.slice Ao36 t661.length co36)) (fun _ hk => hk.2) (.slice Ao37 t664.length co37)) (fun _ hk => hk.2) (.int .i64 t667)) (fun _ hk => ⟨hk.1.1.1.1.1.1.1.1.1, ⟨hk.1.1.1.2, ⟨hk.1.1.1.1.1.2, ⟨hk.1.1.1.1.2, ⟨hk.1.1.2, hk.1.2⟩⟩⟩⟩⟩))) (fun k_ hk => by exact ⟨(.inr (hk.1)), hk.2⟩)⟩, ⟨by exact Kd.R_mono (Kd.R_far (p := ⟨gb640, 4, none⟩) (Kd.R_far (p := ⟨gb640, 3, none⟩) (Kd.R_far (p := ⟨gb640, 2, none⟩) (Kd.R_far (p := ⟨gb640, 1, none⟩) (Kd.R_far (p := ⟨gb640, 0, none⟩) (Kd.R_types HO660.out BK640.out (by decide)) (fun _ hk => hk.2) (.int .i64 t657)) (fun _ hk => hk.2) (.slice Ao35 t658.length co35)) (fun _ hk => hk.2) (.slice Ao36 t661.length co36)) (fun _ hk => hk.2) (.slice Ao37 t664.length co37)) (fun _ hk => hk.2) (.int .i64 t667)) (fun _ hk => ⟨hk.1.1.1.1.1.1, hk.1.1.1.1.1.2⟩)⟩, ⟨by exact Kd.R_mono (Kd.R_far (p := ⟨gb640, 4, none⟩) (Kd.R_far (p := ⟨gb640, 3, none⟩) (Kd.R_far (p := ⟨gb640, 2, none⟩) (Kd.R_far (p := ⟨gb640, 1, none⟩) (Kd.R_far (p := ⟨gb640, 0, none⟩) (Kd.R_types HO663.out BK640.out (by decide)) (fun _ hk => hk.2) (.int .i64 t657)) (fun _ hk => hk.2) (.slice Ao35 t658.length co35)) (fun _ hk => hk.2) (.slice Ao36 t661.length co36)) (fun _ hk => hk.2) (.slice Ao37 t664.length co37)) (fun _ hk => hk.2) (.int .i64 t667)) (fun _ hk => ⟨hk.1.1.1.1.1.1, hk.1.1.1.1.1.2⟩)⟩, ⟨by exact Kd.R_mono (Kd.R_far (p := ⟨gb640, 4, none⟩) (Kd.R_far (p := ⟨gb640, 3, none⟩) (Kd.R_far (p := ⟨gb640, 2, none⟩) (Kd.R_far (p := ⟨gb640, 1, none⟩) (Kd.R_far (p := ⟨gb640, 0, none⟩) (Kd.R_types HO666.out BK640.out (by decide)) (fun _ hk => hk.2) (.int .i64 t657)) (fun _ hk => hk.2) (.slice Ao35 t658.length co35)) (fun _ hk => hk.2) (.slice Ao36 t661.length co36)) (fun _ hk => hk.2) (.slice Ao37 t664.length co37)) (fun _ hk => hk.2) (.int .i64 t667)) (fun _ hk => hk.1.1.1)⟩, ⟨by refine blk_put (cs := #[.int .i64 t657, .slice Ao35 t658.length co35, .slice Ao36 t661.length co36, .slice Ao37 t664.length co37, .int .i64 x641004_2]) ?_ 4 _ rfl; refine blk_put (cs := #[.int .i64 t657, .slice Ao35 t658.length co35, .slice Ao36 t661.length co36, .slice Ao29 x641003_2.length co29, .int .i64 x641004_2]) ?_ 3 _ rfl; refine blk_put (cs := #[.int .i64 t657, .slice Ao35 t658.length co35, .slice Ao28 x641002_2.length co28, .slice Ao29 x641003_2.length co29, .int .i64 x641004_2]) ?_ 2 _ rfl; refine blk_put (cs := #[.int .i64 t657, .slice Ao27 x641001_2.length co27, .slice Ao28 x641002_2.length co28, .slice Ao29 x641003_2.length co29, .int .i64 x641004_2]) ?_ 1 _ rfl; refine blk_put (cs := #[.int .i64 x641000_2, .slice Ao27 x641001_2.length co27, .slice Ao28 x641002_2.length co28, .slice Ao29 x641003_2.length co29, .int .i64 x641004_2]) ?_ 0 _ rfl; exact BK640.out⟩, ⟨by repeat ((with_reducible first | exact HB.out | refine below_set ?_ GE640.out))⟩⟩
       ·rw [if_neg c23] at H
        exact absurd H (by simp)
      ·rw [if_neg c20] at H
       have c20b0 : decide (0 < (x15_2.length : Int)) = false := decide_eq_false c20
       have c20b1 : decide (0 < x15_2.length) = false := decide_eq_false (by omega)
       clear c20
       replace H := Option.bind_eq_some_iff.mp H
       obtain ⟨t672, A420, H⟩ := H
       have A42 := am A420
       clear A420
       by_cases c43 : x13_2.length + t672.length < 2513169434916
       ·rw [if_pos c43] at H
        have LMc43 := am c43
        clear c43
        obtain ⟨y675, hy675⟩ : ∃ y_ : List (S128), y_ = (x13_2 ++ t672) := ⟨_, rfl⟩
        replace H : (some (y675, x14_2, true)) = some (r1, r2, r3) := by (rw [hy675]; with_reducible exact H)
        have Ny675 := am hy675
        clear hy675
        simp only [Option.some.injEq, Prod.mk.injEq] at H
        obtain ⟨rfl, rfl, rfl⟩ := H
        obtain ⟨Ao44, co44, eo44⟩ := Kd.V_slice HO_15.out
        subst eo44
        obtain ⟨hcz45_0, hcz45_1, hcz45_2, hcz45_3, hcz45_4, hfz45_0, hfz45_1, hfz45_2, hfz45_3, hfz45_4⟩ := cells5_ BK640.out
        obtain ⟨Ao46, co46, eo46⟩ := Kd.R_slice HO_641001.out
        subst eo46
        obtain ⟨Ao47, co47, eo47⟩ := Kd.R_slice HO_641002.out
        subst eo47
        obtain ⟨Ao48, co48, eo48⟩ := Kd.R_slice HO_641003.out
        subst eo48
        go_wp2_with (first | ((with_reducible refine gate_callee (f := 121) rfl ?_); refine goesL_ (some 61) rfl rfl Try.func121 (by kernel_rfl) rfl #[.agg #[.int .i64 x641000_2, .slice Ao46 x641001_2.length co46, .slice Ao47 x641002_2.length co47, .slice Ao48 x641003_2.length co48, .int .i64 x641004_2]] rfl (by (try simp only [List.map_toArray, List.map_cons, List.map_nil]); rfl) ?_; (with_reducible refine (spec_UnmatchedRows.calls k2 x641000_2 _ _ x641001_2 _ _ x641002_2 _ _ x641003_2 x641004_2 t672 _ ?side1 ?side2 ?side3 ?side4 ?side5 ?side6 A42.out).mono ?_); (case side1 => repeat (exact (Kd.R_reads' HO_641001.out).2.2)); (case side2 => exact (Kd.R_reads' HO_641001.out).2.1); (case side3 => repeat (exact (Kd.R_reads' HO_641002.out).2.2)); (case side4 => exact (Kd.R_reads' HO_641002.out).2.1); (case side5 => repeat (exact (Kd.R_reads' HO_641003.out).2.2)); (case side6 => exact (Kd.R_reads' HO_641003.out).2.1); rintro e w49 ⟨v673, rfl, ho0, hb⟩; refine ⟨_, rfl, ?_⟩; replace HO_15 := am (Kd.V_elder' HO_15.out (Kd.R_base ho0) hb); replace HO_641001 := am (Kd.R_below HO_641001.out hb); replace HO_641002 := am (Kd.R_below HO_641002.out hb); replace HO_641003 := am (Kd.R_below HO_641003.out hb); have HO674 := am (Kd.R_lower (Kd.R_new' (Kd.R_newM (M := fun k_ => (w.heap.size ≤ k_)) ho0 (below_size HB.out) (fun k_ h_ => h_)) (Kd.R_lt HO_13.out)) (below_size HB.out)); replace HO_13 := am (Kd.R_elder' HO_13.out (Kd.R_base ho0) hb); replace BK640 := am (blk_below BK640.out hb); replace HB := am (below_step HB.out hb); (try clear hb); (try clear ho0); obtain ⟨Ao51, co51, eo51⟩ := Kd.R_slice HO674.out; subst eo51) | ((with_reducible refine gate_builtin (b := .append) (xs := #[.tmp 59, .tmp 61]) rfl ?_); at_builtin; refine Kd.R_append_rows k128 (w0 := w) w.heap.size rfl (.tmp 59) (.tmp 61) 33 128 (.agg #[(.int .i64 0), (.int .i64 0), (.int .i64 0), (.int .i64 0), (.int .i64 0), (.int .i64 0), (.bool false)]) 56 rfl Try.underlying33 info128 rfl (by decide) (by omega) u13 x13_2 t672 _ _ _ (fun k_ => (w.heap.size ≤ k_) ∧ some k_ ≠ (.slice Ao51 t672.length co51 : Value).ownBlock) (fun _ => False) rfl rfl ?aO ?aR (fun _ _ h => h) (fun _ h => h.elim) ?aF ?aB ?aS ?aL ?_; (case aR => repeat (exact (Kd.R_reads' HO674.out).2.2)); (case aB => exact HB.out); (case aF => exact (fun k_ hk => ⟨(Nat.le_trans (below_size HB.out) hk), Kd.fresh' (Kd.R_lt HO674.out) k_ hk⟩)); (case aO => exact HO_13.out); (case aS => exact (below_size HB.out)); (case aL => have := LMc43.out; omega); intro v676 w50 ho hb hg hat; rw [← Ny675.out] at ho; replace HO_15 := am (Kd.V_afterv (ok := (fun k_ => (P2_ k_ ∨ w.heap.size ≤ k_) ∧ some k_ ≠ (.slice Ao46 x641001_2.length co46 : Value).ownBlock ∧ some k_ ≠ (.slice Ao47 x641002_2.length co47 : Value).ownBlock ∧ some k_ ≠ (.slice Ao48 x641003_2.length co48 : Value).ownBlock ∧ some k_ ≠ (.slice Ao51 t672.length co51 : Value).ownBlock ∧ k_ ≠ gb640)) (by exact Kd.V_mono HO_15.out (fun _ hk => ⟨⟨hk.1.1, ⟨hk.1.2.2.1, ⟨hk.1.2.2.2.1, ⟨hk.1.2.2.2.2.1, ⟨hk.2, hk.1.2.2.2.2.2⟩⟩⟩⟩⟩, hk.1.2.1⟩)) hg hat); replace HO_641001 := am (Kd.R_over' HO_641001.out (Kd.R_typed HO_13.out) (by decide) hg); replace HO_641002 := am (Kd.R_over' HO_641002.out (Kd.R_typed HO_13.out) (by decide) hg); replace HO_641003 := am (Kd.R_over' HO_641003.out (Kd.R_typed HO_13.out) (by decide) hg); replace BK640 := am (blk_grown BK640.out hg (Kd.R_ne HO_13.out BK640.out (by decide))); replace HO674 := am (Kd.R_after (ok := (fun k_ => (w.heap.size ≤ k_))) (by exact Kd.R_mono HO674.out (fun _ hk => ⟨hk.1.1, hk.2⟩)) hg hat); replace HB := am (hb); have HO677 := am (ho); clear HO_13 ho hb hg hat))
        go_ret3
        exact ⟨_, rfl, by exact Kd.R_mono HO677.out (fun _ hk => hk.1), HB.out⟩
       ·rw [if_neg c43] at H
        exact absurd H (by simp)

def spec_CompareRows.l0 : Nat → List Int → List Int → Int → Option (Int)
 | 0, _, _, _ => none
 | k + 1, x5, x6, x7 => if x7 < 3 then (if 0 ≤ x7 then (if x7 < (x5.length : Int) then (if x7 < (x6.length : Int) then (if (rd x5 x7) < (rd x6 x7) then (some (-1)) else (if (rd x5 x7) > (rd x6 x7) then (some 1) else (spec_CompareRows.l0 k x5 x6 (wrap64 (x7 + 1))))) else (none)) else (none)) else (none)) else (some 0)
def spec_CompareRows.f (k : Nat) (a0_0 : Int) (a0_1 : Int) (a0_2 : Int) (a1_0 : Int) (a1_1 : Int) (a1_2 : Int) : Option (Int) := spec_CompareRows.l0 k ([a0_0, a0_1, a0_2] : List Int) ([a1_0, a1_1, a1_2] : List Int) 0
theorem spec_CompareRows.calls (k : Nat) (a0_0 : Int) (a0_1 : Int) (a0_2 : Int) (a1_0 : Int) (a1_1 : Int) (a1_2 : Int) (r : Int) (w : World) (h : spec_CompareRows.f k a0_0 a0_1 a0_2 a1_0 a1_1 a1_2 = some r) :
  Calls Try.prog 197 #[.agg #[.int .i64 a0_0, .int .i64 a0_1, .int .i64 a0_2], .agg #[.int .i64 a1_0, .int .i64 a1_1, .int .i64 a1_2]] w fun e w' => e = .returned (.int .i64 r) ∧ Below w.heap.size w w' := by
 have hu60 := Try.underlying60
 have HB := am (Below.refl w.heap.size w)
 have H : (spec_CompareRows.l0 k ([a0_0, a0_1, a0_2] : List Int) ([a1_0, a1_1, a1_2] : List Int) 0) = some r := h
 clear h
 obtain ⟨y680, hy680⟩ : ∃ y_ : List Int, y_ = ([a0_0, a0_1, a0_2] : List Int) := ⟨_, rfl⟩
 replace H : (spec_CompareRows.l0 k y680 ([a1_0, a1_1, a1_2] : List Int) 0) = some r := by (rw [hy680]; with_reducible exact H)
 have Ny680 := am hy680
 clear hy680
 obtain ⟨y683, hy683⟩ : ∃ y_ : List Int, y_ = ([a1_0, a1_1, a1_2] : List Int) := ⟨_, rfl⟩
 replace H : (spec_CompareRows.l0 k y680 y683 0) = some r := by (rw [hy683]; with_reducible exact H)
 have Ny683 := am hy683
 clear hy683
 have H' := am H
 clear H
 go_enter Try.func197, Try.ntmps197
 go_wp2_with (first | ((with_reducible refine gate_dst (N := 2) rfl ?_); refine box_event ?hg (N := 2) ?hd (cs := #[.int .i64 a0_0, .int .i64 a0_1, .int .i64 a0_2]) (t := 60) ?hr ?_; (case hd => rfl); (case hg => rfl); (case hr => (go_simp; done)); intro gb678 hg w3 hbox hb; have BK678 := am (hbox); have GW678 := am (gw_ hg HB.out); have GE678 := am (gw_ hg HB.out); replace HB := am (below_step HB.out hb); clear hb hbox hg) | ((with_reducible refine gate_dst (N := 3) rfl ?_); refine box_event ?hg (N := 3) ?hd (cs := #[.int .i64 a1_0, .int .i64 a1_1, .int .i64 a1_2]) (t := 60) ?hr ?_; (case hd => rfl); (case hg => rfl); (case hr => (go_simp; done)); intro gb679 hg w4 hbox hb; have BK679 := am (hbox); have GW679 := am (gw_ hg HB.out); have GE679 := am (gw_ hg HB.out); replace HB := am (below_step HB.out hb); have NB678_679 := am ((by rw [hg]; exact Nat.ne_of_lt (blk_lt (g := gb678) (o := .cells #[.int .i64 a0_0, .int .i64 a0_1, .int .i64 a0_2] 60 (0, 0)) BK678.out) : gb678 ≠ gb679)); have NB679_678 := am ((by rw [hg]; exact Nat.ne_of_gt (blk_lt (g := gb678) (o := .cells #[.int .i64 a0_0, .int .i64 a0_1, .int .i64 a0_2] 60 (0, 0)) BK678.out) : gb679 ≠ gb678)); replace BK678 := am (blk_below BK678.out hb); clear hb hbox hg; have hnb5 := NB678_679.out; have hnc5 := NB679_678.out; obtain ⟨hcz6_0, hcz6_1, hcz6_2, hfz6_0, hfz6_1, hfz6_2⟩ := cells3_ BK678.out) | ((with_reducible refine gate_dst (N := 14) rfl ?_); refine Kd.R_lit (Kd.int .i64) _ 3 ?hg (N := 14) ?hd (xs := ([a0_0, a0_1, a0_2] : List Int)) (inner := [.int .i64 a0_0, .int .i64 a0_1, .int .i64 a0_2]) (ok := fun _ => True) (okp := fun _ => True) ?hr ?hp (fun _ hk => hk) trivial (Below.refl _ _) (Nat.le_refl _) (by simp) ?_; (case hd => rfl); (case hg => rfl); (case hr => (go_simp; done)); (case hp => exact (Reps.one (show Kd.M (Kd.int .i64) _ _ _ a0_0 [.int .i64 a0_0] from rfl) (Reps.one (show Kd.M (Kd.int .i64) _ _ _ a0_1 [.int .i64 a0_1] from rfl) (Reps.one (show Kd.M (Kd.int .i64) _ _ _ a0_2 [.int .i64 a0_2] from rfl) (Reps.none _ _))))); intro v681 w7 ho8 hb hg_ hnew_; clear hg_ hnew_; (rw [← Ny680.out] at ho8); have HO682 := am (Kd.R_lower ho8 (below_size HB.out)); replace BK678 := am (blk_below BK678.out hb); replace BK679 := am (blk_below BK679.out hb); replace HB := am (below_step HB.out hb); clear hb ho8; obtain ⟨hcz9_0, hcz9_1, hcz9_2, hfz9_0, hfz9_1, hfz9_2⟩ := cells3_ BK679.out) | ((with_reducible refine gate_dst (N := 21) rfl ?_); refine Kd.R_lit (Kd.int .i64) _ 3 ?hg (N := 21) ?hd (xs := ([a1_0, a1_1, a1_2] : List Int)) (inner := [.int .i64 a1_0, .int .i64 a1_1, .int .i64 a1_2]) (ok := fun _ => True) (okp := fun _ => True) ?hr ?hp (fun _ hk => hk) trivial (Below.refl _ _) (Nat.le_refl _) (by simp) ?_; (case hd => rfl); (case hg => rfl); (case hr => (go_simp; done)); (case hp => exact (Reps.one (show Kd.M (Kd.int .i64) _ _ _ a1_0 [.int .i64 a1_0] from rfl) (Reps.one (show Kd.M (Kd.int .i64) _ _ _ a1_1 [.int .i64 a1_1] from rfl) (Reps.one (show Kd.M (Kd.int .i64) _ _ _ a1_2 [.int .i64 a1_2] from rfl) (Reps.none _ _))))); intro v684 w10 ho11 hb hg_ hnew_; clear hg_ hnew_; (rw [← Ny683.out] at ho11); have HO685 := am (Kd.R_lower (Kd.R_new' ho11 (Kd.R_lt HO682.out)) (below_size HB.out)); replace HO682 := am (Kd.R_elder' HO682.out (Kd.R_base ho11) hb); replace BK678 := am (blk_below BK678.out hb); replace BK679 := am (blk_below BK679.out hb); replace HB := am (below_step HB.out hb); clear hb ho11))
 repeat (go_quiet (first | ((with_reducible refine gate_dst (N := 2) rfl ?_); refine box_event ?hg (N := 2) ?hd (cs := #[.int .i64 a0_0, .int .i64 a0_1, .int .i64 a0_2]) (t := 60) ?hr ?_; (case hd => rfl); (case hg => rfl); (case hr => first | (go_simp; done) | (go_simp; rfl)); intro gb678 hg w3 hbox hb; replace HB := am (below_step (by skip) hb); have BK678 := am (hbox); have GW678 := am ((by rw [hg]; exact (below_size (by skip)) : w.heap.size ≤ gb678)); have GE678 := am ((by rw [hg]; exact (below_size (by skip)) : w.heap.size ≤ gb678)); clear hb hbox hg) | ((with_reducible refine gate_dst (N := 3) rfl ?_); refine box_event ?hg (N := 3) ?hd (cs := #[.int .i64 a1_0, .int .i64 a1_1, .int .i64 a1_2]) (t := 60) ?hr ?_; (case hd => rfl); (case hg => rfl); (case hr => first | (go_simp; done) | (go_simp; rfl)); intro gb679 hg w4 hbox hb; replace HB := am (below_step (by skip) hb); have BK679 := am (hbox); have GW679 := am ((by rw [hg]; exact (below_size (by skip)) : w.heap.size ≤ gb679)); have GE679 := am ((by rw [hg]; exact (below_size (by skip)) : w.heap.size ≤ gb679)); have NB678_679 := am ((by rw [hg]; exact Nat.ne_of_lt (blk_lt (g := gb678) (o := .cells #[.int .i64 a0_0, .int .i64 a0_1, .int .i64 a0_2] 60 (0, 0)) BK678.out) : gb678 ≠ gb679)); have NB679_678 := am ((by rw [hg]; exact Nat.ne_of_gt (blk_lt (g := gb678) (o := .cells #[.int .i64 a0_0, .int .i64 a0_1, .int .i64 a0_2] 60 (0, 0)) BK678.out) : gb679 ≠ gb678)); replace BK678 := am (blk_below BK678.out hb); clear hb hbox hg; have hnb5 := NB678_679.out; have hnc5 := NB679_678.out; obtain ⟨hcz6_0, hcz6_1, hcz6_2, hfz6_0, hfz6_1, hfz6_2⟩ := cells3_ BK678.out) | ((with_reducible refine gate_dst (N := 14) rfl ?_); refine Kd.R_lit (Kd.int .i64) _ 3 ?hg (N := 14) ?hd (xs := ([a0_0, a0_1, a0_2] : List Int)) (inner := [.int .i64 a0_0, .int .i64 a0_1, .int .i64 a0_2]) (ok := fun _ => True) (okp := fun _ => True) ?hr ?hp (fun _ hk => hk) trivial (Below.refl _ _) (Nat.le_refl _) (by simp) ?_; (case hd => rfl); (case hg => rfl); (case hr => first | (go_simp; done) | (go_simp; rfl)); (case hp => exact (Reps.one (show Kd.M (Kd.int .i64) _ _ _ a0_0 [.int .i64 a0_0] from rfl) (Reps.one (show Kd.M (Kd.int .i64) _ _ _ a0_1 [.int .i64 a0_1] from rfl) (Reps.one (show Kd.M (Kd.int .i64) _ _ _ a0_2 [.int .i64 a0_2] from rfl) (Reps.none _ _))))); intro v681 w7 ho8 hb hg_ hnew_; clear hg_ hnew_; (first | rw [← Ny680.out] at ho8 | (simp only [Int.reduceToNat] at ho8; rw [← Ny680.out] at ho8)); have HO682 := am (Kd.R_lower ho8 (below_size (by skip))); replace BK678 := am (blk_below BK678.out hb); replace BK679 := am (blk_below BK679.out hb); replace HB := am (below_step (by skip) hb); clear hb ho8; obtain ⟨hcz9_0, hcz9_1, hcz9_2, hfz9_0, hfz9_1, hfz9_2⟩ := cells3_ BK679.out) | ((with_reducible refine gate_dst (N := 21) rfl ?_); refine Kd.R_lit (Kd.int .i64) _ 3 ?hg (N := 21) ?hd (xs := ([a1_0, a1_1, a1_2] : List Int)) (inner := [.int .i64 a1_0, .int .i64 a1_1, .int .i64 a1_2]) (ok := fun _ => True) (okp := fun _ => True) ?hr ?hp (fun _ hk => hk) trivial (Below.refl _ _) (Nat.le_refl _) (by simp) ?_; (case hd => rfl); (case hg => rfl); (case hr => first | (go_simp; done) | (go_simp; rfl)); (case hp => exact (Reps.one (show Kd.M (Kd.int .i64) _ _ _ a1_0 [.int .i64 a1_0] from rfl) (Reps.one (show Kd.M (Kd.int .i64) _ _ _ a1_1 [.int .i64 a1_1] from rfl) (Reps.one (show Kd.M (Kd.int .i64) _ _ _ a1_2 [.int .i64 a1_2] from rfl) (Reps.none _ _))))); intro v684 w10 ho11 hb hg_ hnew_; clear hg_ hnew_; (first | rw [← Ny683.out] at ho11 | (simp only [Int.reduceToNat] at ho11; rw [← Ny683.out] at ho11)); have HO685 := am (Kd.R_lower (Kd.R_new' ho11 (Kd.R_lt HO682.out)) (below_size (by skip))); replace HO682 := am (Kd.R_elder' HO682.out (Kd.R_base ho11) hb); replace BK678 := am (blk_below BK678.out hb); replace BK679 := am (blk_below BK679.out hb); replace HB := am (below_step (by skip) hb); clear hb ho11)))
 go_loopg [7] k (fun kq v7 w' => ∃ (x7_1 : Int), v7 = .int .i64 x7_1 ∧ Aside0 (spec_CompareRows.l0 kq y680 y683 x7_1 = some r) ∧ Aside0 (kq ≤ k) ∧ Aside0 (Kd.R (Kd.int .i64) 3 w' w.heap.size (fun k_ => some k_ ≠ (v684 : Value).ownBlock) v681 y680) ∧ Aside0 (Kd.R (Kd.int .i64) 3 w' w.heap.size (fun k_ => some k_ ≠ (v681 : Value).ownBlock) v684 y683) ∧ Aside0 (w'.heap[gb678]? = some (.cells #[.int .i64 a0_0, .int .i64 a0_1, .int .i64 a0_2] 60 (0, 0))) ∧ Aside0 (w'.heap[gb679]? = some (.cells #[.int .i64 a1_0, .int .i64 a1_1, .int .i64 a1_2] 60 (0, 0))) ∧ Aside0 (Below w.heap.size w w'))
 case atStart => exact ⟨(0), rfl, H', ⟨Nat.le_refl _⟩, ⟨by exact Kd.R_mono HO682.out (fun _ hk => hk.2)⟩, ⟨by exact Kd.R_mono HO685.out (fun _ hk => hk.2)⟩, ⟨BK678.out⟩, ⟨BK679.out⟩, ⟨HB.out⟩⟩
 case round =>
  clear H'
  try clear hcz6_0
  try clear hcz6_1
  try clear hcz6_2
  try clear hcz9_0
  try clear hcz9_1
  try clear hcz9_2
  try clear hfz6_0
  try clear hfz6_1
  try clear hfz6_2
  try clear hfz9_0
  try clear hfz9_1
  try clear hfz9_2
  obtain ⟨x7_1, rfl, HA, HK1, HO_5, HO_6, BK678, BK679, HB⟩ := hrel
  cases gk with
  | zero => exact absurd HA.out (by simp [spec_CompareRows.l0])
  | succ k1 =>
   have H := HA.out
   clear HA
   simp only [spec_CompareRows.l0] at H
   by_cases c12 : x7_1 < 3
   ·rw [if_pos c12] at H
    have c12b0 : decide (x7_1 < 3) = true := decide_eq_true c12
    clear c12
    by_cases c13 : 0 ≤ x7_1
    ·rw [if_pos c13] at H
     have c13b0 : decide (0 ≤ x7_1) = true := decide_eq_true c13
     clear c13
     by_cases c14 : x7_1 < (y680.length : Int)
     ·rw [if_pos c14] at H
      have c14b0 : decide (x7_1 < (y680.length : Int)) = true := decide_eq_true c14
      clear c14
      by_cases c15 : x7_1 < (y683.length : Int)
      ·rw [if_pos c15] at H
       have c15b0 : decide (x7_1 < (y683.length : Int)) = true := decide_eq_true c15
       clear c15
       by_cases c16 : (rd y680 x7_1) < (rd y683 x7_1)
       ·rw [if_pos c16] at H
        have c16b0 : decide ((rd y680 x7_1) < (rd y683 x7_1)) = true := decide_eq_true c16
        clear c16
        obtain rfl := Option.some.inj H
        obtain ⟨Ao17, co17, eo17⟩ := Kd.R_slice HO_5.out
        subst eo17
        have p686 : 0 ≤ (x7_1 : Int) := of_decide_eq_true (by (with_reducible assumption))
        have q686 : x7_1 < (y680.length : Int) := of_decide_eq_true (by (with_reducible assumption))
        obtain ⟨ad686, e686, hx686_0⟩ := Kd.at_int (Kd.R_reads' HO_5.out).2.2 x7_1 p686 q686
        cases e686
        replace p686 := eq_true p686
        replace q686 := eq_true q686
        obtain ⟨Ao18, co18, eo18⟩ := Kd.R_slice HO_6.out
        subst eo18
        have p687 : 0 ≤ (x7_1 : Int) := of_decide_eq_true (by (with_reducible assumption))
        have q687 : x7_1 < (y683.length : Int) := of_decide_eq_true (by (with_reducible assumption))
        obtain ⟨ad687, e687, hx687_0⟩ := Kd.at_int (Kd.R_reads' HO_6.out).2.2 x7_1 p687 q687
        cases e687
        replace p687 := eq_true p687
        replace q687 := eq_true q687
        go_wp2
        repeat (go_quiet (fail); try go_wp2)
        go_ret
        exact ⟨rfl, by repeat ((with_reducible first | exact HB.out | apply pw_below_drewN))⟩
       ·rw [if_neg c16] at H
        have c16b0 : decide ((rd y680 x7_1) < (rd y683 x7_1)) = false := decide_eq_false c16
        clear c16
        by_cases c19 : (rd y680 x7_1) > (rd y683 x7_1)
        ·rw [if_pos c19] at H
         have c19b0 : decide ((rd y683 x7_1) < (rd y680 x7_1)) = true := decide_eq_true c19
         clear c19
         obtain rfl := Option.some.inj H
         obtain ⟨Ao20, co20, eo20⟩ := Kd.R_slice HO_5.out
         subst eo20
         have p686 : 0 ≤ (x7_1 : Int) := of_decide_eq_true (by (with_reducible assumption))
         have q686 : x7_1 < (y680.length : Int) := of_decide_eq_true (by (with_reducible assumption))
         obtain ⟨ad686, e686, hx686_0⟩ := Kd.at_int (Kd.R_reads' HO_5.out).2.2 x7_1 p686 q686
         cases e686
         replace p686 := eq_true p686
         replace q686 := eq_true q686
         obtain ⟨Ao21, co21, eo21⟩ := Kd.R_slice HO_6.out
         subst eo21
         have p687 : 0 ≤ (x7_1 : Int) := of_decide_eq_true (by (with_reducible assumption))
         have q687 : x7_1 < (y683.length : Int) := of_decide_eq_true (by (with_reducible assumption))
         obtain ⟨ad687, e687, hx687_0⟩ := Kd.at_int (Kd.R_reads' HO_6.out).2.2 x7_1 p687 q687
         cases e687
         replace p687 := eq_true p687
         replace q687 := eq_true q687
         have p688 : 0 ≤ (x7_1 : Int) := of_decide_eq_true (by (with_reducible assumption))
         have q688 : x7_1 < (y680.length : Int) := of_decide_eq_true (by (with_reducible assumption))
         obtain ⟨ad688, e688, hx688_0⟩ := Kd.at_int (Kd.R_reads' HO_5.out).2.2 x7_1 p688 q688
         obtain rfl : ad686 = ad688 := (by injection e688)
         replace p688 := eq_true p688
         replace q688 := eq_true q688
         have p689 : 0 ≤ (x7_1 : Int) := of_decide_eq_true (by (with_reducible assumption))
         have q689 : x7_1 < (y683.length : Int) := of_decide_eq_true (by (with_reducible assumption))
         obtain ⟨ad689, e689, hx689_0⟩ := Kd.at_int (Kd.R_reads' HO_6.out).2.2 x7_1 p689 q689
         obtain rfl : ad687 = ad689 := (by injection e689)
         replace p689 := eq_true p689
         replace q689 := eq_true q689
         go_wp2
         repeat (go_quiet (fail); try go_wp2)
         go_ret
         exact ⟨rfl, by repeat ((with_reducible first | exact HB.out | apply pw_below_drewN))⟩
        ·rw [if_neg c19] at H
         have c19b0 : decide ((rd y683 x7_1) < (rd y680 x7_1)) = false := decide_eq_false c19
         clear c19
         have H' := am H
         clear H
         obtain ⟨Ao22, co22, eo22⟩ := Kd.R_slice HO_5.out
         subst eo22
         have p686 : 0 ≤ (x7_1 : Int) := of_decide_eq_true (by (with_reducible assumption))
         have q686 : x7_1 < (y680.length : Int) := of_decide_eq_true (by (with_reducible assumption))
         obtain ⟨ad686, e686, hx686_0⟩ := Kd.at_int (Kd.R_reads' HO_5.out).2.2 x7_1 p686 q686
         cases e686
         replace p686 := eq_true p686
         replace q686 := eq_true q686
         obtain ⟨Ao23, co23, eo23⟩ := Kd.R_slice HO_6.out
         subst eo23
         have p687 : 0 ≤ (x7_1 : Int) := of_decide_eq_true (by (with_reducible assumption))
         have q687 : x7_1 < (y683.length : Int) := of_decide_eq_true (by (with_reducible assumption))
         obtain ⟨ad687, e687, hx687_0⟩ := Kd.at_int (Kd.R_reads' HO_6.out).2.2 x7_1 p687 q687
         cases e687
         replace p687 := eq_true p687
         replace q687 := eq_true q687
         have p688 : 0 ≤ (x7_1 : Int) := of_decide_eq_true (by (with_reducible assumption))
         have q688 : x7_1 < (y680.length : Int) := of_decide_eq_true (by (with_reducible assumption))
         obtain ⟨ad688, e688, hx688_0⟩ := Kd.at_int (Kd.R_reads' HO_5.out).2.2 x7_1 p688 q688
         obtain rfl : ad686 = ad688 := (by injection e688)
         replace p688 := eq_true p688
         replace q688 := eq_true q688
         have p689 : 0 ≤ (x7_1 : Int) := of_decide_eq_true (by (with_reducible assumption))
         have q689 : x7_1 < (y683.length : Int) := of_decide_eq_true (by (with_reducible assumption))
         obtain ⟨ad689, e689, hx689_0⟩ := Kd.at_int (Kd.R_reads' HO_6.out).2.2 x7_1 p689 q689
         obtain rfl : ad687 = ad689 := (by injection e689)
         replace p689 := eq_true p689
         replace q689 := eq_true q689
         go_wp2
         repeat (go_quiet (fail); try go_wp2)
         go_roundg k1
         case measure => have := HK1.out; omega
         case rel => exact ⟨(wrap64 (x7_1 + 1)), rfl, H', ⟨by have := HK1.out; omega⟩, ⟨by (with_reducible repeat (apply Kd.R_drewN)); exact HO_5.out⟩, ⟨by (with_reducible repeat (apply Kd.R_drewN)); exact HO_6.out⟩, ⟨by (with_reducible repeat (refine blk_drewN ?_ _)); exact BK678.out⟩, ⟨by (with_reducible repeat (refine blk_drewN ?_ _)); exact BK679.out⟩, ⟨by repeat ((with_reducible first | exact HB.out | apply pw_below_drewN))⟩⟩
      ·rw [if_neg c15] at H
       exact absurd H (by simp)
     ·rw [if_neg c14] at H
      exact absurd H (by simp)
    ·rw [if_neg c13] at H
     exact absurd H (by simp)
   ·rw [if_neg c12] at H
    have c12b0 : decide (x7_1 < 3) = false := decide_eq_false c12
    clear c12
    obtain rfl := Option.some.inj H
    go_wp2
    repeat (go_quiet (fail))
    go_ret
    exact ⟨rfl, HB.out⟩

def spec_ComparePairs.f (k : Nat) (a0_0 : Int) (a0_1 : Int) (a0_2 : Int) (a0_3 : Int) (a0_4 : Int) (a0_5 : Int) (a0_6 : Bool) (a1_0 : Int) (a1_1 : Int) (a1_2 : Int) (a1_3 : Int) (a1_4 : Int) (a1_5 : Int) (a1_6 : Bool) : Option (Int) := (spec_CompareRows.f k a0_0 a0_1 a0_2 a1_0 a1_1 a1_2).bind fun t692 => (if t692 = 0 then (if (a0_6 != a1_6) = true then (if a1_6 = true then (some (-1)) else (some 1)) else ((spec_CompareRows.f k a0_3 a0_4 a0_5 a1_3 a1_4 a1_5).bind fun t693 => (some t693))) else (some t692))
theorem spec_ComparePairs.calls (k : Nat) (a0_0 : Int) (a0_1 : Int) (a0_2 : Int) (a0_3 : Int) (a0_4 : Int) (a0_5 : Int) (a0_6 : Bool) (a1_0 : Int) (a1_1 : Int) (a1_2 : Int) (a1_3 : Int) (a1_4 : Int) (a1_5 : Int) (a1_6 : Bool) (r : Int) (w : World) (h : spec_ComparePairs.f k a0_0 a0_1 a0_2 a0_3 a0_4 a0_5 a0_6 a1_0 a1_1 a1_2 a1_3 a1_4 a1_5 a1_6 = some r) :
  Calls Try.prog 182 #[.agg #[.int .i64 a0_0, .int .i64 a0_1, .int .i64 a0_2, .int .i64 a0_3, .int .i64 a0_4, .int .i64 a0_5, .bool a0_6], .agg #[.int .i64 a1_0, .int .i64 a1_1, .int .i64 a1_2, .int .i64 a1_3, .int .i64 a1_4, .int .i64 a1_5, .bool a1_6]] w fun e w' => e = .returned (.int .i64 r) ∧ Below w.heap.size w w' := by
 have hu128 := Try.underlying128
 have hu60 := Try.underlying60
 have HB := am (Below.refl w.heap.size w)
 have H : ((spec_CompareRows.f k a0_0 a0_1 a0_2 a1_0 a1_1 a1_2).bind fun t692 => (if t692 = 0 then (if (a0_6 != a1_6) = true then (if a1_6 = true then (some (-1)) else (some 1)) else ((spec_CompareRows.f k a0_3 a0_4 a0_5 a1_3 a1_4 a1_5).bind fun t693 => (some t693))) else (some t692))) = some r := h
 clear h
 replace H := Option.bind_eq_some_iff.mp H
 obtain ⟨t692, A30, H⟩ := H
 have A3 := am A30
 clear A30
 by_cases c4 : t692 = 0
 ·rw [if_pos c4] at H
  have c4b0 : (t692 == 0) = true := beq_iff_eq.mpr c4
  have c4b1 : (t692 != 0) = false := bne_eq_false_iff_eq.mpr c4
  clear c4
  by_cases c5 : (a0_6 != a1_6) = true
  ·rw [if_pos c5] at H
   have c5b0 : (a0_6 != a1_6) = true := c5
   (try (have c5b1 : decide (a0_6 = a1_6) = false := by simpa using c5))
   (try (have c5b2 : (a0_6 == a1_6) = false := by simpa using c5))
   (try (have c5b3 : ¬ (a0_6 = a1_6) := by simpa using c5))
   clear c5
   by_cases c6 : a1_6 = true
   ·subst c6
    rw [if_pos rfl] at H
    obtain rfl := Option.some.inj H
    go_enter Try.func182, Try.ntmps182
    go_wp2_with (first | ((with_reducible refine gate_dst (N := 2) rfl ?_); refine box_event ?hg (N := 2) ?hd (cs := #[.int .i64 a0_0, .int .i64 a0_1, .int .i64 a0_2, .int .i64 a0_3, .int .i64 a0_4, .int .i64 a0_5, .bool a0_6]) (t := 128) ?hr ?_; (case hd => rfl); (case hg => rfl); (case hr => (go_simp; done)); intro gb690 hg w7 hbox hb; have BK690 := am (hbox); have GW690 := am (gw_ hg HB.out); have GE690 := am (gw_ hg HB.out); replace HB := am (below_step HB.out hb); clear hb hbox hg) | ((with_reducible refine gate_dst (N := 3) rfl ?_); refine box_event ?hg (N := 3) ?hd (cs := #[.int .i64 a1_0, .int .i64 a1_1, .int .i64 a1_2, .int .i64 a1_3, .int .i64 a1_4, .int .i64 a1_5, .bool true]) (t := 128) ?hr ?_; (case hd => rfl); (case hg => rfl); (case hr => (go_simp; done)); intro gb691 hg w8 hbox hb; have BK691 := am (hbox); have GW691 := am (gw_ hg HB.out); have GE691 := am (gw_ hg HB.out); replace HB := am (below_step HB.out hb); have NB690_691 := am ((by rw [hg]; exact Nat.ne_of_lt (blk_lt (g := gb690) (o := .cells #[.int .i64 a0_0, .int .i64 a0_1, .int .i64 a0_2, .int .i64 a0_3, .int .i64 a0_4, .int .i64 a0_5, .bool a0_6] 128 (0, 0)) BK690.out) : gb690 ≠ gb691)); have NB691_690 := am ((by rw [hg]; exact Nat.ne_of_gt (blk_lt (g := gb690) (o := .cells #[.int .i64 a0_0, .int .i64 a0_1, .int .i64 a0_2, .int .i64 a0_3, .int .i64 a0_4, .int .i64 a0_5, .bool a0_6] 128 (0, 0)) BK690.out) : gb691 ≠ gb690)); replace BK690 := am (blk_below BK690.out hb); clear hb hbox hg; have hnb9 := NB690_691.out; have hnc9 := NB691_690.out; obtain ⟨hcz10_0, hcz10_1, hcz10_2, hcz10_3, hcz10_4, hcz10_5, hcz10_6, hfz10_0, hfz10_1, hfz10_2, hfz10_3, hfz10_4, hfz10_5, hfz10_6⟩ := cells7_ BK690.out; obtain ⟨hcz11_0, hcz11_1, hcz11_2, hcz11_3, hcz11_4, hcz11_5, hcz11_6, hfz11_0, hfz11_1, hfz11_2, hfz11_3, hfz11_4, hfz11_5, hfz11_6⟩ := cells7_ BK691.out) | ((with_reducible refine gate_callee (f := 197) rfl ?_); refine goesL_ (some 10) rfl rfl Try.func197 (by kernel_rfl) rfl #[.agg #[.int .i64 a0_0, .int .i64 a0_1, .int .i64 a0_2], .agg #[.int .i64 a1_0, .int .i64 a1_1, .int .i64 a1_2]] rfl (by (try simp only [List.map_toArray, List.map_cons, List.map_nil]); rfl) ?_; (with_reducible refine (spec_CompareRows.calls k a0_0 a0_1 a0_2 a1_0 a1_1 a1_2 t692 _ A3.out).mono ?_); rintro e w12 ⟨rfl, hb⟩; refine ⟨_, rfl, ?_⟩; replace BK690 := am (blk_below BK690.out hb); replace BK691 := am (blk_below BK691.out hb); replace HB := am (below_step HB.out hb); (try clear hb); obtain ⟨hcz13_0, hcz13_1, hcz13_2, hcz13_3, hcz13_4, hcz13_5, hcz13_6, hfz13_0, hfz13_1, hfz13_2, hfz13_3, hfz13_4, hfz13_5, hfz13_6⟩ := cells7_ BK690.out; obtain ⟨hcz14_0, hcz14_1, hcz14_2, hcz14_3, hcz14_4, hcz14_5, hcz14_6, hfz14_0, hfz14_1, hfz14_2, hfz14_3, hfz14_4, hfz14_5, hfz14_6⟩ := cells7_ BK691.out))
    go_ret
    exact ⟨rfl, HB.out⟩
   ·replace c6 := Bool.eq_false_iff.mpr c6
    subst c6
    rw [if_neg (show ¬ (false = true) by decide)] at H
    obtain rfl := Option.some.inj H
    go_enter Try.func182, Try.ntmps182
    go_wp2_with (first | ((with_reducible refine gate_dst (N := 2) rfl ?_); refine box_event ?hg (N := 2) ?hd (cs := #[.int .i64 a0_0, .int .i64 a0_1, .int .i64 a0_2, .int .i64 a0_3, .int .i64 a0_4, .int .i64 a0_5, .bool a0_6]) (t := 128) ?hr ?_; (case hd => rfl); (case hg => rfl); (case hr => (go_simp; done)); intro gb690 hg w15 hbox hb; have BK690 := am (hbox); have GW690 := am (gw_ hg HB.out); have GE690 := am (gw_ hg HB.out); replace HB := am (below_step HB.out hb); clear hb hbox hg) | ((with_reducible refine gate_dst (N := 3) rfl ?_); refine box_event ?hg (N := 3) ?hd (cs := #[.int .i64 a1_0, .int .i64 a1_1, .int .i64 a1_2, .int .i64 a1_3, .int .i64 a1_4, .int .i64 a1_5, .bool false]) (t := 128) ?hr ?_; (case hd => rfl); (case hg => rfl); (case hr => (go_simp; done)); intro gb691 hg w16 hbox hb; have BK691 := am (hbox); have GW691 := am (gw_ hg HB.out); have GE691 := am (gw_ hg HB.out); replace HB := am (below_step HB.out hb); have NB690_691 := am ((by rw [hg]; exact Nat.ne_of_lt (blk_lt (g := gb690) (o := .cells #[.int .i64 a0_0, .int .i64 a0_1, .int .i64 a0_2, .int .i64 a0_3, .int .i64 a0_4, .int .i64 a0_5, .bool a0_6] 128 (0, 0)) BK690.out) : gb690 ≠ gb691)); have NB691_690 := am ((by rw [hg]; exact Nat.ne_of_gt (blk_lt (g := gb690) (o := .cells #[.int .i64 a0_0, .int .i64 a0_1, .int .i64 a0_2, .int .i64 a0_3, .int .i64 a0_4, .int .i64 a0_5, .bool a0_6] 128 (0, 0)) BK690.out) : gb691 ≠ gb690)); replace BK690 := am (blk_below BK690.out hb); clear hb hbox hg; have hnb17 := NB690_691.out; have hnc17 := NB691_690.out; obtain ⟨hcz18_0, hcz18_1, hcz18_2, hcz18_3, hcz18_4, hcz18_5, hcz18_6, hfz18_0, hfz18_1, hfz18_2, hfz18_3, hfz18_4, hfz18_5, hfz18_6⟩ := cells7_ BK690.out; obtain ⟨hcz19_0, hcz19_1, hcz19_2, hcz19_3, hcz19_4, hcz19_5, hcz19_6, hfz19_0, hfz19_1, hfz19_2, hfz19_3, hfz19_4, hfz19_5, hfz19_6⟩ := cells7_ BK691.out) | ((with_reducible refine gate_callee (f := 197) rfl ?_); refine goesL_ (some 10) rfl rfl Try.func197 (by kernel_rfl) rfl #[.agg #[.int .i64 a0_0, .int .i64 a0_1, .int .i64 a0_2], .agg #[.int .i64 a1_0, .int .i64 a1_1, .int .i64 a1_2]] rfl (by (try simp only [List.map_toArray, List.map_cons, List.map_nil]); rfl) ?_; (with_reducible refine (spec_CompareRows.calls k a0_0 a0_1 a0_2 a1_0 a1_1 a1_2 t692 _ A3.out).mono ?_); rintro e w20 ⟨rfl, hb⟩; refine ⟨_, rfl, ?_⟩; replace BK690 := am (blk_below BK690.out hb); replace BK691 := am (blk_below BK691.out hb); replace HB := am (below_step HB.out hb); (try clear hb); obtain ⟨hcz21_0, hcz21_1, hcz21_2, hcz21_3, hcz21_4, hcz21_5, hcz21_6, hfz21_0, hfz21_1, hfz21_2, hfz21_3, hfz21_4, hfz21_5, hfz21_6⟩ := cells7_ BK690.out; obtain ⟨hcz22_0, hcz22_1, hcz22_2, hcz22_3, hcz22_4, hcz22_5, hcz22_6, hfz22_0, hfz22_1, hfz22_2, hfz22_3, hfz22_4, hfz22_5, hfz22_6⟩ := cells7_ BK691.out))
    go_ret
    exact ⟨rfl, HB.out⟩
  ·rw [if_neg c5] at H
   have c5b0 : (a0_6 != a1_6) = false := by simpa using c5
   (try (have c5b1 : decide (a0_6 = a1_6) = true := by simpa using c5))
   (try (have c5b2 : (a0_6 == a1_6) = true := by simpa using c5))
   clear c5
   replace H := Option.bind_eq_some_iff.mp H
   obtain ⟨t693, A230, H⟩ := H
   have A23 := am A230
   clear A230
   obtain rfl := Option.some.inj H
   go_enter Try.func182, Try.ntmps182
   go_wp2_with (first | ((with_reducible refine gate_dst (N := 2) rfl ?_); refine box_event ?hg (N := 2) ?hd (cs := #[.int .i64 a0_0, .int .i64 a0_1, .int .i64 a0_2, .int .i64 a0_3, .int .i64 a0_4, .int .i64 a0_5, .bool a0_6]) (t := 128) ?hr ?_; (case hd => rfl); (case hg => rfl); (case hr => (go_simp; done)); intro gb690 hg w24 hbox hb; have BK690 := am (hbox); have GW690 := am (gw_ hg HB.out); have GE690 := am (gw_ hg HB.out); replace HB := am (below_step HB.out hb); clear hb hbox hg) | ((with_reducible refine gate_dst (N := 3) rfl ?_); refine box_event ?hg (N := 3) ?hd (cs := #[.int .i64 a1_0, .int .i64 a1_1, .int .i64 a1_2, .int .i64 a1_3, .int .i64 a1_4, .int .i64 a1_5, .bool a1_6]) (t := 128) ?hr ?_; (case hd => rfl); (case hg => rfl); (case hr => (go_simp; done)); intro gb691 hg w25 hbox hb; have BK691 := am (hbox); have GW691 := am (gw_ hg HB.out); have GE691 := am (gw_ hg HB.out); replace HB := am (below_step HB.out hb); have NB690_691 := am ((by rw [hg]; exact Nat.ne_of_lt (blk_lt (g := gb690) (o := .cells #[.int .i64 a0_0, .int .i64 a0_1, .int .i64 a0_2, .int .i64 a0_3, .int .i64 a0_4, .int .i64 a0_5, .bool a0_6] 128 (0, 0)) BK690.out) : gb690 ≠ gb691)); have NB691_690 := am ((by rw [hg]; exact Nat.ne_of_gt (blk_lt (g := gb690) (o := .cells #[.int .i64 a0_0, .int .i64 a0_1, .int .i64 a0_2, .int .i64 a0_3, .int .i64 a0_4, .int .i64 a0_5, .bool a0_6] 128 (0, 0)) BK690.out) : gb691 ≠ gb690)); replace BK690 := am (blk_below BK690.out hb); clear hb hbox hg; have hnb26 := NB690_691.out; have hnc26 := NB691_690.out; obtain ⟨hcz27_0, hcz27_1, hcz27_2, hcz27_3, hcz27_4, hcz27_5, hcz27_6, hfz27_0, hfz27_1, hfz27_2, hfz27_3, hfz27_4, hfz27_5, hfz27_6⟩ := cells7_ BK690.out; obtain ⟨hcz28_0, hcz28_1, hcz28_2, hcz28_3, hcz28_4, hcz28_5, hcz28_6, hfz28_0, hfz28_1, hfz28_2, hfz28_3, hfz28_4, hfz28_5, hfz28_6⟩ := cells7_ BK691.out) | ((with_reducible refine gate_callee (f := 197) rfl ?_); refine goesL_ (some 10) rfl rfl Try.func197 (by kernel_rfl) rfl #[.agg #[.int .i64 a0_0, .int .i64 a0_1, .int .i64 a0_2], .agg #[.int .i64 a1_0, .int .i64 a1_1, .int .i64 a1_2]] rfl (by (try simp only [List.map_toArray, List.map_cons, List.map_nil]); rfl) ?_; (with_reducible refine (spec_CompareRows.calls k a0_0 a0_1 a0_2 a1_0 a1_1 a1_2 t692 _ A3.out).mono ?_); rintro e w29 ⟨rfl, hb⟩; refine ⟨_, rfl, ?_⟩; replace BK690 := am (blk_below BK690.out hb); replace BK691 := am (blk_below BK691.out hb); replace HB := am (below_step HB.out hb); (try clear hb); obtain ⟨hcz30_0, hcz30_1, hcz30_2, hcz30_3, hcz30_4, hcz30_5, hcz30_6, hfz30_0, hfz30_1, hfz30_2, hfz30_3, hfz30_4, hfz30_5, hfz30_6⟩ := cells7_ BK690.out; obtain ⟨hcz31_0, hcz31_1, hcz31_2, hcz31_3, hcz31_4, hcz31_5, hcz31_6, hfz31_0, hfz31_1, hfz31_2, hfz31_3, hfz31_4, hfz31_5, hfz31_6⟩ := cells7_ BK691.out) | ((with_reducible refine gate_callee (f := 197) rfl ?_); refine goesL_ (some 25) rfl rfl Try.func197 (by kernel_rfl) rfl #[.agg #[.int .i64 a0_3, .int .i64 a0_4, .int .i64 a0_5], .agg #[.int .i64 a1_3, .int .i64 a1_4, .int .i64 a1_5]] rfl (by (try simp only [List.map_toArray, List.map_cons, List.map_nil]); rfl) ?_; (with_reducible refine (spec_CompareRows.calls k a0_3 a0_4 a0_5 a1_3 a1_4 a1_5 t693 _ A23.out).mono ?_); rintro e w32 ⟨rfl, hb⟩; refine ⟨_, rfl, ?_⟩; replace BK690 := am (blk_below BK690.out hb); replace BK691 := am (blk_below BK691.out hb); replace HB := am (below_step HB.out hb); (try clear hb)))
   go_ret
   exact ⟨rfl, HB.out⟩
 ·rw [if_neg c4] at H
  have c4b0 : (t692 == 0) = false := beq_eq_false_iff_ne.mpr c4
  have c4b1 : (t692 != 0) = true := bne_iff_ne.mpr c4
  obtain rfl := Option.some.inj H
  go_enter Try.func182, Try.ntmps182
  go_wp2_with (first | ((with_reducible refine gate_dst (N := 2) rfl ?_); refine box_event ?hg (N := 2) ?hd (cs := #[.int .i64 a0_0, .int .i64 a0_1, .int .i64 a0_2, .int .i64 a0_3, .int .i64 a0_4, .int .i64 a0_5, .bool a0_6]) (t := 128) ?hr ?_; (case hd => rfl); (case hg => rfl); (case hr => (go_simp; done)); intro gb690 hg w33 hbox hb; have BK690 := am (hbox); have GW690 := am (gw_ hg HB.out); have GE690 := am (gw_ hg HB.out); replace HB := am (below_step HB.out hb); clear hb hbox hg) | ((with_reducible refine gate_dst (N := 3) rfl ?_); refine box_event ?hg (N := 3) ?hd (cs := #[.int .i64 a1_0, .int .i64 a1_1, .int .i64 a1_2, .int .i64 a1_3, .int .i64 a1_4, .int .i64 a1_5, .bool a1_6]) (t := 128) ?hr ?_; (case hd => rfl); (case hg => rfl); (case hr => (go_simp; done)); intro gb691 hg w34 hbox hb; have BK691 := am (hbox); have GW691 := am (gw_ hg HB.out); have GE691 := am (gw_ hg HB.out); replace HB := am (below_step HB.out hb); have NB690_691 := am ((by rw [hg]; exact Nat.ne_of_lt (blk_lt (g := gb690) (o := .cells #[.int .i64 a0_0, .int .i64 a0_1, .int .i64 a0_2, .int .i64 a0_3, .int .i64 a0_4, .int .i64 a0_5, .bool a0_6] 128 (0, 0)) BK690.out) : gb690 ≠ gb691)); have NB691_690 := am ((by rw [hg]; exact Nat.ne_of_gt (blk_lt (g := gb690) (o := .cells #[.int .i64 a0_0, .int .i64 a0_1, .int .i64 a0_2, .int .i64 a0_3, .int .i64 a0_4, .int .i64 a0_5, .bool a0_6] 128 (0, 0)) BK690.out) : gb691 ≠ gb690)); replace BK690 := am (blk_below BK690.out hb); clear hb hbox hg; have hnb35 := NB690_691.out; have hnc35 := NB691_690.out; obtain ⟨hcz36_0, hcz36_1, hcz36_2, hcz36_3, hcz36_4, hcz36_5, hcz36_6, hfz36_0, hfz36_1, hfz36_2, hfz36_3, hfz36_4, hfz36_5, hfz36_6⟩ := cells7_ BK690.out; obtain ⟨hcz37_0, hcz37_1, hcz37_2, hcz37_3, hcz37_4, hcz37_5, hcz37_6, hfz37_0, hfz37_1, hfz37_2, hfz37_3, hfz37_4, hfz37_5, hfz37_6⟩ := cells7_ BK691.out) | ((with_reducible refine gate_callee (f := 197) rfl ?_); refine goesL_ (some 10) rfl rfl Try.func197 (by kernel_rfl) rfl #[.agg #[.int .i64 a0_0, .int .i64 a0_1, .int .i64 a0_2], .agg #[.int .i64 a1_0, .int .i64 a1_1, .int .i64 a1_2]] rfl (by (try simp only [List.map_toArray, List.map_cons, List.map_nil]); rfl) ?_; (with_reducible refine (spec_CompareRows.calls k a0_0 a0_1 a0_2 a1_0 a1_1 a1_2 t692 _ A3.out).mono ?_); rintro e w38 ⟨rfl, hb⟩; refine ⟨_, rfl, ?_⟩; replace BK690 := am (blk_below BK690.out hb); replace BK691 := am (blk_below BK691.out hb); replace HB := am (below_step HB.out hb); (try clear hb)))
  go_ret
  exact ⟨rfl, HB.out⟩

mutual
def spec_l7Sorted.l0 : Nat → List (S128) → List (S128) → Int → Option ((List (S128)))
 | 0, _, _, _ => none
 | k + 1, x0, x3, x4 => if x4 < (x0.length : Int) then (spec_l7Sorted.l1 k x0 x3 x4 (x3.length : Int)) else (some x3)
def spec_l7Sorted.l1 : Nat → List (S128) → List (S128) → Int → Int → Option ((List (S128)))
 | 0, _, _, _, _ => none
 | k + 1, x0, x3, x4, x5 => if x5 > 0 then (if 0 ≤ (wrap64 (x5 - 1)) then (if (wrap64 (x5 - 1)) < (x3.length : Int) then (if 0 ≤ x4 then (if x4 < (x0.length : Int) then ((spec_ComparePairs.f k ((rd_T128 x3 (wrap64 (x5 - 1))).f0.f0) ((rd_T128 x3 (wrap64 (x5 - 1))).f0.f1) ((rd_T128 x3 (wrap64 (x5 - 1))).f0.f2) ((rd_T128 x3 (wrap64 (x5 - 1))).f1.f0) ((rd_T128 x3 (wrap64 (x5 - 1))).f1.f1) ((rd_T128 x3 (wrap64 (x5 - 1))).f1.f2) ((rd_T128 x3 (wrap64 (x5 - 1))).f2) ((rd_T128 x0 x4).f0.f0) ((rd_T128 x0 x4).f0.f1) ((rd_T128 x0 x4).f0.f2) ((rd_T128 x0 x4).f1.f0) ((rd_T128 x0 x4).f1.f1) ((rd_T128 x0 x4).f1.f2) ((rd_T128 x0 x4).f2)).bind fun t699 => (if t699 > 0 then (spec_l7Sorted.l1 k x0 x3 x4 (wrap64 (x5 - 1))) else ((some (([(⟨(⟨(rd_T128 x0 x4).f0.f0, (rd_T128 x0 x4).f0.f1, (rd_T128 x0 x4).f0.f2⟩ : S60), (⟨(rd_T128 x0 x4).f1.f0, (rd_T128 x0 x4).f1.f1, (rd_T128 x0 x4).f1.f2⟩ : S60), (rd_T128 x0 x4).f2⟩ : S128)] : List (S128)) : List (S128))).bind fun y701 => (if 0 ≤ x5 then (if x5 ≤ (x3.length : Int) then ((some (x3.drop (x5 : Int).toNat : List (S128))).bind fun y704 => (if y701.length + y704.length < 2513169434916 then ((some (y701 ++ y704 : List (S128))).bind fun y708 => ((some (([] : List (S128)) : List (S128))).bind fun y711 => ((some (x3.take (x5 : Int).toNat : List (S128))).bind fun y714 => (if y711.length + y714.length < 2513169434916 then ((some (y711 ++ y714 : List (S128))).bind fun y718 => (if y718.length + y708.length < 2513169434916 then (spec_l7Sorted.l0 k x0 (y718 ++ y708) (wrap64 (x4 + 1))) else (none))) else (none))))) else (none))) else (none)) else (none))))) else (none)) else (none)) else (none)) else (none)) else (if 0 ≤ x4 then (if x4 < (x0.length : Int) then ((some (([(⟨(⟨(rd_T128 x0 x4).f0.f0, (rd_T128 x0 x4).f0.f1, (rd_T128 x0 x4).f0.f2⟩ : S60), (⟨(rd_T128 x0 x4).f1.f0, (rd_T128 x0 x4).f1.f1, (rd_T128 x0 x4).f1.f2⟩ : S60), (rd_T128 x0 x4).f2⟩ : S128)] : List (S128)) : List (S128))).bind fun y725 => (if 0 ≤ x5 then (if x5 ≤ (x3.length : Int) then ((some (x3.drop (x5 : Int).toNat : List (S128))).bind fun y728 => (if y725.length + y728.length < 2513169434916 then ((some (y725 ++ y728 : List (S128))).bind fun y732 => ((some (([] : List (S128)) : List (S128))).bind fun y735 => ((some (x3.take (x5 : Int).toNat : List (S128))).bind fun y738 => (if y735.length + y738.length < 2513169434916 then ((some (y735 ++ y738 : List (S128))).bind fun y742 => (if y742.length + y732.length < 2513169434916 then (spec_l7Sorted.l0 k x0 (y742 ++ y732) (wrap64 (x4 + 1))) else (none))) else (none))))) else (none))) else (none)) else (none))) else (none)) else (none))
end
def spec_l7Sorted.f (k : Nat) (l0 : List (S128)) : Option ((List (S128))) := spec_l7Sorted.l0 k l0 (([] : List (S128))) 0
def spec_l7Sorted.T6 : Bool × List (List Nat × List Nat) := (true, [([], []), ([0], [0]), ([1], [1]), ([2], [2]), ([2], [2]), ([4, 2], [2, 4]), ([3, 5, 2], [2, 3, 5]), ([6, 2], [2, 6]), ([2], [2]), ([2], [2]), ([8, 9, 2], [2, 8, 9]), ([10, 2], [2, 10]), ([7, 11, 2, 2], [2, 7, 11]), ([12, 2], [2, 12]), ([2, 13], [2, 13])])
def spec_l7Sorted.B6 : List Nat := [0, 1, 3, 7, 7, 23, 63, 127, 7, 7, 775, 1799, 4095, 8191, 16383]
theorem spec_l7Sorted.tab6 : rtab .any (opsOf Try.f122 6) = spec_l7Sorted.T6 := by kernel_rfl
theorem spec_l7Sorted.bits6 : waitsOk spec_l7Sorted.T6.2 spec_l7Sorted.B6 = true := by kernel_rfl
def spec_l7Sorted.T8 : Bool × List (List Nat × List Nat) := (true, [([], []), ([], []), ([0, 1], [0, 1]), ([2], [2]), ([3], [3]), ([], []), ([], []), ([5, 6], [5, 6]), ([4, 7], [4, 7]), ([8, 8, 0, 1, 2, 3, 4, 5, 6, 7, 8], [8])])
def spec_l7Sorted.B8 : List Nat := [0, 0, 3, 7, 15, 0, 0, 96, 255, 511]
theorem spec_l7Sorted.tab8 : rtab .any (opsOf Try.f122 8) = spec_l7Sorted.T8 := by kernel_rfl
theorem spec_l7Sorted.bits8 : waitsOk spec_l7Sorted.T8.2 spec_l7Sorted.B8 = true := by kernel_rfl
theorem spec_l7Sorted.calls (k : Nat) (A0 : Option Addr) (c0 : Nat) (l0 : List (S128)) (r : List (S128)) (w : World) (hr0 : Kd.C k128 w A0 l0.length l0) (hc0 : l0.length ≤ c0) (h : spec_l7Sorted.f k l0 = some r) :
  Calls Try.prog 122 #[.slice A0 l0.length c0] w fun e w' => ∃ v0_ : Value, e = .returned (v0_) ∧ Kd.R k128 128 w' w.heap.size (fun _ => True) v0_ r ∧ Below w.heap.size w w' := by
 have hu128 := Try.underlying128
 have HR0 := am hr0
 have HC0 := am hc0
 clear hr0 hc0
 have HB := am (Below.refl w.heap.size w)
 have H : (spec_l7Sorted.l0 k l0 (([] : List (S128))) 0) = some r := h
 clear h
 obtain ⟨y694, hy694⟩ : ∃ y_ : List (S128), y_ = (([] : List (S128))) := ⟨_, rfl⟩
 replace H : (spec_l7Sorted.l0 k l0 y694 0) = some r := by (rw [hy694]; with_reducible exact H)
 have Ny694 := am hy694
 clear hy694
 have H' := am H
 clear H
 go_enter Try.func122, Try.ntmps122
 go_wp2_with (((with_reducible refine gate_dst (N := 7) rfl ?_); refine Kd.R_lit k128 _ 128 ?hg (N := 7) ?hd (xs := ([] : List (S128))) (inner := []) (ok := fun _ => True) (okp := fun _ => True) ?hr ?hp (fun _ hk => hk) trivial (Below.refl _ _) (Nat.le_refl _) (by simp) ?_; (case hd => rfl); (case hg => rfl); (case hr => (go_simp; done)); (case hp => exact (Reps.none _ _)); intro v695 w2 ho3 hb hg_ hnew_; clear hg_ hnew_; (rw [← Ny694.out] at ho3); have HO696 := am (Kd.R_lower ho3 (below_size HB.out)); replace HB := am (below_step HB.out hb); clear hb ho3))
 go_loopg [3, 4] k (fun kq v3 v4 w' => ∃ (x3_1 : List (S128)) (x4_1 : Int), v4 = .int .i64 x4_1 ∧ Aside0 (spec_l7Sorted.l0 kq l0 x3_1 x4_1 = some r) ∧ Aside0 (kq ≤ k) ∧ Aside0 (Kd.R k128 128 w' w.heap.size (fun _ => True) v3 x3_1) ∧ Aside0 (Below w.heap.size w w'))
 case atStart => exact ⟨(y694), (0), rfl, H', ⟨Nat.le_refl _⟩, ⟨HO696.out⟩, ⟨HB.out⟩⟩
 case round =>
  clear H'
  obtain ⟨x3_1, x4_1, rfl, HA, HK1, HO_3, HB⟩ := hrel
  cases gk with
  | zero => exact absurd HA.out (by simp [spec_l7Sorted.l0])
  | succ k1 =>
   have H := HA.out
   clear HA
   simp only [spec_l7Sorted.l0] at H
   by_cases c4 : x4_1 < (l0.length : Int)
   ·rw [if_pos c4] at H
    have c4b0 : decide (x4_1 < (l0.length : Int)) = true := decide_eq_true c4
    clear c4
    have H' := am H
    clear H
    obtain ⟨Ao5, co5, eo5⟩ := Kd.R_slice HO_3.out
    subst eo5
    go_wp2
    go_loopg [5] k1 (fun kq v5 w' => ∃ (x5_2 : Int), v5 = .int .i64 x5_2 ∧ Aside0 (spec_l7Sorted.l1 kq l0 x3_1 x4_1 x5_2 = some r) ∧ Aside0 (kq ≤ k1) ∧ Aside0 (Kd.R k128 128 w' w.heap.size (fun _ => True) (.slice Ao5 x3_1.length co5) x3_1) ∧ Aside0 (Below w.heap.size w w'))
    case atStart => exact ⟨((x3_1.length : Int)), rfl, H', ⟨Nat.le_refl _⟩, ⟨HO_3.out⟩, ⟨HB.out⟩⟩
    case round =>
     clear H'
     try clear c4b0
     obtain ⟨x5_2, rfl, HA, HK2, HO_3, HB⟩ := hrel
     cases gk with
     | zero => exact absurd HA.out (by simp [spec_l7Sorted.l1])
     | succ k2 =>
      have H := HA.out
      clear HA
      simp only [spec_l7Sorted.l1] at H
      by_cases c6 : x5_2 > 0
      ·rw [if_pos c6] at H
       have c6b0 : decide (0 < x5_2) = true := decide_eq_true c6
       clear c6
       obtain ⟨ji7, hji7⟩ : ∃ j_ : Int, (wrap64 (x5_2 - 1)) = j_ := ⟨_, rfl⟩
       replace H : (if 0 ≤ (ji7) then (if (ji7) < (x3_1.length : Int) then (if 0 ≤ x4_1 then (if x4_1 < (l0.length : Int) then ((spec_ComparePairs.f k2 ((rd_T128 x3_1 (ji7)).f0.f0) ((rd_T128 x3_1 (ji7)).f0.f1) ((rd_T128 x3_1 (ji7)).f0.f2) ((rd_T128 x3_1 (ji7)).f1.f0) ((rd_T128 x3_1 (ji7)).f1.f1) ((rd_T128 x3_1 (ji7)).f1.f2) ((rd_T128 x3_1 (ji7)).f2) ((rd_T128 l0 x4_1).f0.f0) ((rd_T128 l0 x4_1).f0.f1) ((rd_T128 l0 x4_1).f0.f2) ((rd_T128 l0 x4_1).f1.f0) ((rd_T128 l0 x4_1).f1.f1) ((rd_T128 l0 x4_1).f1.f2) ((rd_T128 l0 x4_1).f2)).bind fun t699 => (if t699 > 0 then (spec_l7Sorted.l1 k2 l0 x3_1 x4_1 ji7) else ((some (([(⟨(⟨(rd_T128 l0 x4_1).f0.f0, (rd_T128 l0 x4_1).f0.f1, (rd_T128 l0 x4_1).f0.f2⟩ : S60), (⟨(rd_T128 l0 x4_1).f1.f0, (rd_T128 l0 x4_1).f1.f1, (rd_T128 l0 x4_1).f1.f2⟩ : S60), (rd_T128 l0 x4_1).f2⟩ : S128)] : List (S128)) : List (S128))).bind fun y701 => (if 0 ≤ x5_2 then (if x5_2 ≤ (x3_1.length : Int) then ((some (x3_1.drop (x5_2 : Int).toNat : List (S128))).bind fun y704 => (if y701.length + y704.length < 2513169434916 then ((some (y701 ++ y704 : List (S128))).bind fun y708 => ((some (([] : List (S128)) : List (S128))).bind fun y711 => ((some (x3_1.take (x5_2 : Int).toNat : List (S128))).bind fun y714 => (if y711.length + y714.length < 2513169434916 then ((some (y711 ++ y714 : List (S128))).bind fun y718 => (if y718.length + y708.length < 2513169434916 then (spec_l7Sorted.l0 k2 l0 (y718 ++ y708) (wrap64 (x4_1 + 1))) else (none))) else (none))))) else (none))) else (none)) else (none))))) else (none)) else (none)) else (none)) else (none)) = some r := by (rw [hji7] at H; exact H)
       have hji7w : (IntKind.i64.wrap (x5_2 - 1)) = ji7 := (i64_w _).trans hji7
       by_cases c8 : 0 ≤ (ji7)
       ·rw [if_pos c8] at H
        have c8b0 : decide (0 ≤ (ji7)) = true := decide_eq_true c8
        clear c8
        by_cases c9 : (ji7) < (x3_1.length : Int)
        ·rw [if_pos c9] at H
         have c9b0 : decide ((ji7) < (x3_1.length : Int)) = true := decide_eq_true c9
         clear c9
         by_cases c10 : 0 ≤ x4_1
         ·rw [if_pos c10] at H
          have c10b0 : decide (0 ≤ x4_1) = true := decide_eq_true c10
          clear c10
          by_cases c11 : x4_1 < (l0.length : Int)
          ·rw [if_pos c11] at H
           have c11b0 : decide (x4_1 < (l0.length : Int)) = true := decide_eq_true c11
           clear c11
           replace H := Option.bind_eq_some_iff.mp H
           obtain ⟨t699, A120, H⟩ := H
           have A12 := am A120
           clear A120
           by_cases c13 : t699 > 0
           ·rw [if_pos c13] at H
            have c13b0 : decide (0 < t699) = true := decide_eq_true c13
            clear c13
            have H' := am H
            clear H
            try go_wp2
            replace HO_3 := am (Kd.R_drew HO_3.out)
            replace HB := am (below_drew1 HB.out)
            have p697 : 0 ≤ ((ji7) : Int) := of_decide_eq_true (by (with_reducible assumption))
            have q697 : (ji7) < (x3_1.length : Int) := of_decide_eq_true (by (with_reducible assumption))
            obtain ⟨ad697, e697, hx697_0, hx697_1, hx697_2, hx697_3, hx697_4, hx697_5, hx697_6⟩ := at_T128 (Kd.R_reads' HO_3.out).2.2 (ji7) p697 q697
            cases e697
            replace p697 := eq_true p697
            replace q697 := eq_true q697
            have p698 : 0 ≤ (x4_1 : Int) := of_decide_eq_true (by (with_reducible assumption))
            have q698 : x4_1 < (l0.length : Int) := of_decide_eq_true (by (with_reducible assumption))
            obtain ⟨ad698, e698, hx698_0, hx698_1, hx698_2, hx698_3, hx698_4, hx698_5, hx698_6⟩ := at_T128 HR0.out x4_1 p698 q698
            have hw698_6 := hx698_6
            have hw698_5 := hx698_5
            have hw698_4 := hx698_4
            have hw698_3 := hx698_3
            have hw698_2 := hx698_2
            have hw698_1 := hx698_1
            have hw698_0 := hx698_0
            cases e698
            replace hx698_0 := bc_ HB.out hx698_0
            replace hx698_1 := bc_ HB.out hx698_1
            replace hx698_2 := bc_ HB.out hx698_2
            replace hx698_3 := bc_ HB.out hx698_3
            replace hx698_4 := bc_ HB.out hx698_4
            replace hx698_5 := bc_ HB.out hx698_5
            replace hx698_6 := bc_ HB.out hx698_6
            replace p698 := eq_true p698
            replace q698 := eq_true q698
            refine start_ (n := 15) (S := fun w' => w'.cell? (ad697.add (((ji7)).toNat * 7)) = some (.int .i64 ((rd_T128 x3_1 (ji7)).f0.f0)) ∧ w'.cell? ⟨(ad697.add (((ji7)).toNat * 7)).block, (ad697.add (((ji7)).toNat * 7)).off + 1, none⟩ = some (.int .i64 ((rd_T128 x3_1 (ji7)).f0.f1)) ∧ w'.cell? ⟨(ad697.add (((ji7)).toNat * 7)).block, (ad697.add (((ji7)).toNat * 7)).off + 2, none⟩ = some (.int .i64 ((rd_T128 x3_1 (ji7)).f0.f2)) ∧ w'.cell? ⟨(ad697.add (((ji7)).toNat * 7)).block, (ad697.add (((ji7)).toNat * 7)).off + 3, none⟩ = some (.int .i64 ((rd_T128 x3_1 (ji7)).f1.f0)) ∧ w'.cell? ⟨(ad697.add (((ji7)).toNat * 7)).block, (ad697.add (((ji7)).toNat * 7)).off + 4, none⟩ = some (.int .i64 ((rd_T128 x3_1 (ji7)).f1.f1)) ∧ w'.cell? ⟨(ad697.add (((ji7)).toNat * 7)).block, (ad697.add (((ji7)).toNat * 7)).off + 5, none⟩ = some (.int .i64 ((rd_T128 x3_1 (ji7)).f1.f2)) ∧ w'.cell? ⟨(ad697.add (((ji7)).toNat * 7)).block, (ad697.add (((ji7)).toNat * 7)).off + 6, none⟩ = some (.bool ((rd_T128 x3_1 (ji7)).f2)) ∧ w'.cell? (ad698.add ((x4_1).toNat * 7)) = some (.int .i64 ((rd_T128 l0 x4_1).f0.f0)) ∧ w'.cell? ⟨(ad698.add ((x4_1).toNat * 7)).block, (ad698.add ((x4_1).toNat * 7)).off + 1, none⟩ = some (.int .i64 ((rd_T128 l0 x4_1).f0.f1)) ∧ w'.cell? ⟨(ad698.add ((x4_1).toNat * 7)).block, (ad698.add ((x4_1).toNat * 7)).off + 2, none⟩ = some (.int .i64 ((rd_T128 l0 x4_1).f0.f2)) ∧ w'.cell? ⟨(ad698.add ((x4_1).toNat * 7)).block, (ad698.add ((x4_1).toNat * 7)).off + 3, none⟩ = some (.int .i64 ((rd_T128 l0 x4_1).f1.f0)) ∧ w'.cell? ⟨(ad698.add ((x4_1).toNat * 7)).block, (ad698.add ((x4_1).toNat * 7)).off + 4, none⟩ = some (.int .i64 ((rd_T128 l0 x4_1).f1.f1)) ∧ w'.cell? ⟨(ad698.add ((x4_1).toNat * 7)).block, (ad698.add ((x4_1).toNat * 7)).off + 5, none⟩ = some (.int .i64 ((rd_T128 l0 x4_1).f1.f2)) ∧ w'.cell? ⟨(ad698.add ((x4_1).toNat * 7)).block, (ad698.add ((x4_1).toNat * 7)).off + 6, none⟩ = some (.bool ((rd_T128 l0 x4_1).f2))) (ds := []) #[false, false, false, false, false, false, false, false, false, false, false, false, false, false, false] (by kernel_rfl) rfl rfl ⟨hx697_0, hx697_1, hx697_2, hx697_3, hx697_4, hx697_5, hx697_6, (bc_ HB.out hw698_0), (bc_ HB.out hw698_1), (bc_ HB.out hw698_2), (bc_ HB.out hw698_3), (bc_ HB.out hw698_4), (bc_ HB.out hw698_5), (bc_ HB.out hw698_6)⟩ (fun hHeld => ?_); refine with_tabW spec_l7Sorted.tab6 spec_l7Sorted.bits6 (fun HT_ HW_ => ?_)
            generalize wr.drew = w14 at HO_3 HB hx697_0 hx697_1 hx697_2 hx697_3 hx697_4 hx697_5 hx697_6 hx698_0 hx698_1 hx698_2 hx698_3 hx698_4 hx698_5 hx698_6 hHeld ⊢
            refine pure_ (i := 0) (N := some 16) (v := ?_) (a' := ?_) #[true, false, false, false, false, false, false, false, false, false, false, false, false, false, false] rfl rfl (any_of HT_.out (by kernel_rfl)) (fun _ _ _ h => h) (Or.inl ⟨rfl, ?_⟩) ?_ ?_
            rotate_left
            ·intro w'
             go_simp
             with_reducible rfl
            rotate_left
            ·simp only [Act.put, s2_, s0_, s1_, i64_w, i32_w]
             rfl
            refine pure_ (i := 1) (N := some 17) (v := ?_) (a' := ?_) #[true, true, false, false, false, false, false, false, false, false, false, false, false, false, false] rfl rfl (any_of HT_.out (by kernel_rfl)) (fun _ _ _ h => h) (Or.inl ⟨rfl, ?_⟩) ?_ ?_
            rotate_left
            ·intro w'
             go_simp
             with_reducible rfl
            rotate_left
            ·simp only [Act.put, s2_, s0_, s1_, i64_w, i32_w]
             rfl
            refine pure_ (i := 2) (N := some 18) (v := ?_) (a' := ?_) #[true, true, true, false, false, false, false, false, false, false, false, false, false, false, false] rfl rfl (any_of HT_.out (by kernel_rfl)) (fun _ _ _ h => h) (Or.inl ⟨rfl, ?_⟩) ?_ ?_
            rotate_left
            ·intro w'
             go_simp
             with_reducible rfl
            rotate_left
            ·simp only [Act.put, s2_, s0_, s1_, i64_w, i32_w]
             rfl
            refine pure_ (i := 3) (N := some 19) (v := ?_) (a' := ?_) #[true, true, true, true, false, false, false, false, false, false, false, false, false, false, false] rfl rfl (any_of HT_.out (by kernel_rfl)) (fun _ _ _ h => h) (Or.inl ⟨rfl, ?_⟩) ?_ ?_
            rotate_left
            ·intro w'
             go_simp
             with_reducible rfl
            rotate_left
            ·simp only [Act.put, s2_, s0_, s1_, i64_w, i32_w]
             rfl
            refine pure_ (i := 4) (N := some 20) (v := ?_) (a' := ?_) #[true, true, true, true, true, false, false, false, false, false, false, false, false, false, false] rfl rfl (any_of HT_.out (by kernel_rfl)) (fun _ _ _ h => h) (Or.inl ⟨rfl, ?_⟩) ?_ ?_
            rotate_left
            ·intro w'
             go_simp
             with_reducible rfl
            rotate_left
            ·simp only [Act.put, s2_, s0_, s1_, i64_w, i32_w]
             rfl
            refine pure_ (i := 5) (N := some 21) (v := ?_) (a' := ?_) #[true, true, true, true, true, true, false, false, false, false, false, false, false, false, false] rfl rfl (any_of HT_.out (by kernel_rfl)) (fun _ _ _ h => h) (Or.inl ⟨rfl, ?_⟩) ?_ ?_
            rotate_left
            ·intro w'
             go_simp
             with_reducible rfl
            rotate_left
            ·simp only [Act.put, s2_, s0_, s1_, i64_w, i32_w]
             rfl
            refine pure_ (i := 6) (N := some 22) (v := ?_) (a' := ?_) #[true, true, true, true, true, true, true, false, false, false, false, false, false, false, false] rfl rfl (any_of HT_.out (by kernel_rfl)) (fun _ _ _ h => h) (Or.inl ⟨rfl, ?_⟩) ?_ ?_
            rotate_left
            ·intro w'
             go_simp
             with_reducible rfl
            rotate_left
            ·simp only [Act.put, s2_, s0_, s1_, i64_w, i32_w]
             rfl
            refine pure_ (i := 8) (N := some 24) (v := ?_) (a' := ?_) #[true, true, true, true, true, true, true, false, true, false, false, false, false, false, false] rfl rfl (any_of HT_.out (by kernel_rfl)) (fun _ _ _ h => h) (Or.inl ⟨rfl, ?_⟩) ?_ ?_
            rotate_left
            ·intro w'
             go_simp
             with_reducible rfl
            rotate_left
            ·simp only [Act.put, s2_, s0_, s1_, i64_w, i32_w]
             rfl
            refine pure_ (i := 9) (N := some 25) (v := ?_) (a' := ?_) #[true, true, true, true, true, true, true, false, true, true, false, false, false, false, false] rfl rfl (any_of HT_.out (by kernel_rfl)) (fun _ _ _ h => h) (Or.inl ⟨rfl, ?_⟩) ?_ ?_
            rotate_left
            ·intro w'
             go_simp
             with_reducible rfl
            rotate_left
            ·simp only [Act.put, s2_, s0_, s1_, i64_w, i32_w]
             rfl
            refine pure_ (i := 10) (N := some 26) (v := ?_) (a' := ?_) #[true, true, true, true, true, true, true, false, true, true, true, false, false, false, false] rfl rfl (any_of HT_.out (by kernel_rfl)) (fun _ _ _ h => h) (Or.inl ⟨rfl, ?_⟩) ?_ ?_
            rotate_left
            ·intro w'
             go_simp
             with_reducible rfl
            rotate_left
            ·simp only [Act.put, s2_, s0_, s1_, i64_w, i32_w]
             rfl
            refine take_ (i := 7) (N := some 23) (v := ?_) (a' := ?_) #[true, true, true, true, true, true, true, true, true, true, true, false, false, false, false] rfl rfl (take_ofW HT_.out HW_.out (by kernel_rfl)) (fun _ _ _ h => h) (Or.inl ⟨rfl, ?_⟩) hHeld ?_ ?_
            rotate_left
            ·rintro w' ⟨s0, s1, s2, s3, s4, s5, s6, s7, s8, s9, s10, s11, s12, s13⟩
             go_simp
             with_reducible rfl
            rotate_left
            ·simp only [Act.put, s2_, s0_, s1_, i64_w, i32_w]
             rfl
            refine take_ (i := 11) (N := some 27) (v := ?_) (a' := ?_) #[true, true, true, true, true, true, true, true, true, true, true, true, false, false, false] rfl rfl (take_ofW HT_.out HW_.out (by kernel_rfl)) (fun _ _ _ h => h) (Or.inl ⟨rfl, ?_⟩) hHeld ?_ ?_
            rotate_left
            ·rintro w' ⟨s0, s1, s2, s3, s4, s5, s6, s7, s8, s9, s10, s11, s12, s13⟩
             go_simp
             with_reducible rfl
            rotate_left
            ·simp only [Act.put, s2_, s0_, s1_, i64_w, i32_w]
             rfl
            refine one_ (i := 12) (N := some 28) #[true, true, true, true, true, true, true, true, true, true, true, true, true, false, false] rfl rfl (one_of HT_.out (by kernel_rfl)) (by decide) (fun K hK => ?_)
            refine goes_ Try.func182 (by kernel_rfl) rfl #[.agg #[.int .i64 ((rd_T128 x3_1 (ji7)).f0.f0), .int .i64 ((rd_T128 x3_1 (ji7)).f0.f1), .int .i64 ((rd_T128 x3_1 (ji7)).f0.f2), .int .i64 ((rd_T128 x3_1 (ji7)).f1.f0), .int .i64 ((rd_T128 x3_1 (ji7)).f1.f1), .int .i64 ((rd_T128 x3_1 (ji7)).f1.f2), .bool ((rd_T128 x3_1 (ji7)).f2)], .agg #[.int .i64 ((rd_T128 l0 x4_1).f0.f0), .int .i64 ((rd_T128 l0 x4_1).f0.f1), .int .i64 ((rd_T128 l0 x4_1).f0.f2), .int .i64 ((rd_T128 l0 x4_1).f1.f0), .int .i64 ((rd_T128 l0 x4_1).f1.f1), .int .i64 ((rd_T128 l0 x4_1).f1.f2), .bool ((rd_T128 l0 x4_1).f2)]] rfl rfl rfl (by (try simp only [List.map_toArray, List.map_cons, List.map_nil]); rfl) ?_
            with_reducible refine (spec_ComparePairs.calls k2 ((rd_T128 x3_1 (ji7)).f0.f0) ((rd_T128 x3_1 (ji7)).f0.f1) ((rd_T128 x3_1 (ji7)).f0.f2) ((rd_T128 x3_1 (ji7)).f1.f0) ((rd_T128 x3_1 (ji7)).f1.f1) ((rd_T128 x3_1 (ji7)).f1.f2) ((rd_T128 x3_1 (ji7)).f2) ((rd_T128 l0 x4_1).f0.f0) ((rd_T128 l0 x4_1).f0.f1) ((rd_T128 l0 x4_1).f0.f2) ((rd_T128 l0 x4_1).f1.f0) ((rd_T128 l0 x4_1).f1.f1) ((rd_T128 l0 x4_1).f1.f2) ((rd_T128 l0 x4_1).f2) t699 _ A12.out).mono ?_
            rintro e w15 ⟨rfl, hb⟩
            have HS0_ := (hb.cell (World.block_lt_of_cell? _ _ (hHeld.1))).trans (hHeld.1)
            have HS1_ := (hb.cell (World.block_lt_of_cell? _ _ (hHeld.2.1))).trans (hHeld.2.1)
            have HS2_ := (hb.cell (World.block_lt_of_cell? _ _ (hHeld.2.2.1))).trans (hHeld.2.2.1)
            have HS3_ := (hb.cell (World.block_lt_of_cell? _ _ (hHeld.2.2.2.1))).trans (hHeld.2.2.2.1)
            have HS4_ := (hb.cell (World.block_lt_of_cell? _ _ (hHeld.2.2.2.2.1))).trans (hHeld.2.2.2.2.1)
            have HS5_ := (hb.cell (World.block_lt_of_cell? _ _ (hHeld.2.2.2.2.2.1))).trans (hHeld.2.2.2.2.2.1)
            have HS6_ := (hb.cell (World.block_lt_of_cell? _ _ (hHeld.2.2.2.2.2.2.1))).trans (hHeld.2.2.2.2.2.2.1)
            refine ⟨_, rfl, ?_⟩
            replace HO_3 := am (Kd.R_below HO_3.out hb)
            replace HB := am (below_step HB.out hb)
            (try clear hb)
            (try clear hb2)
            (try clear hk)
            (try clear hi)
            refine hK.out _ _ ⟨HS0_, HS1_, HS2_, HS3_, HS4_, HS5_, HS6_, (bc_ HB.out hw698_0), (bc_ HB.out hw698_1), (bc_ HB.out hw698_2), (bc_ HB.out hw698_3), (bc_ HB.out hw698_4), (bc_ HB.out hw698_5), (bc_ HB.out hw698_6)⟩ (fun hHeld => ?_)
            clear hK K
            refine norm_ (a' := ?_) ?_ ?_
            rotate_left
            ·show Act.put _ (some 28) _ = _
             simp only [Act.put, s2_, s0_, s1_, i64_w, i32_w]
             rfl
            refine pure_ (i := 13) (N := some 29) (v := ?_) (a' := ?_) #[true, true, true, true, true, true, true, true, true, true, true, true, true, true, false] rfl rfl (any_of HT_.out (by kernel_rfl)) (fun _ _ _ h => h) (Or.inl ⟨rfl, ?_⟩) ?_ ?_
            rotate_left
            ·intro w'
             go_simp
             with_reducible rfl
            rotate_left
            ·simp only [Act.put, s2_, s0_, s1_, i64_w, i32_w]
             rfl
            refine pure_ (i := 14) (N := some 30) (v := ?_) (a' := ?_) #[true, true, true, true, true, true, true, true, true, true, true, true, true, true, true] rfl rfl (any_of HT_.out (by kernel_rfl)) (fun _ _ _ h => h) (Or.inl ⟨rfl, ?_⟩) ?_ ?_
            rotate_left
            ·intro w'
             go_simp
             with_reducible rfl
            rotate_left
            ·simp only [Act.put, s2_, s0_, s1_, i64_w, i32_w]
             rfl
            refine done_ (done_of HT_.out (by kernel_rfl)) ?_
            try go_wp2
            go_roundg k2
            case measure => have := HK1.out; have := HK2.out; omega
            case rel => exact ⟨(ji7), rfl, H', ⟨by have := HK1.out; have := HK2.out; omega⟩, ⟨HO_3.out⟩, ⟨HB.out⟩⟩
           ·rw [if_neg c13] at H
            have c13b0 : decide (0 < t699) = false := decide_eq_false c13
            clear c13
            obtain ⟨y701, hy701, H⟩ := bindO_ H
            have Ny701 := am hy701
            clear hy701
            by_cases c16 : 0 ≤ x5_2
            ·rw [if_pos c16] at H
             have c16b0 := eq_true c16
             have c16b1 : decide (0 ≤ x5_2) = true := decide_eq_true c16
             clear c16
             by_cases c17 : x5_2 ≤ (x3_1.length : Int)
             ·rw [if_pos c17] at H
              have c17b0 := eq_true c17
              have c17b1 : decide (x5_2 ≤ (x3_1.length : Int)) = true := decide_eq_true c17
              clear c17
              obtain ⟨y704, hy704, H⟩ := bindO_ H
              have Ny704 := am hy704
              clear hy704
              by_cases c18 : y701.length + y704.length < 2513169434916
              ·rw [if_pos c18] at H
               have LMc18 := am c18
               clear c18
               obtain ⟨y708, hy708, H⟩ := bindO_ H
               have Ny708 := am hy708
               clear hy708
               obtain ⟨y711, hy711, H⟩ := bindO_ H
               have Ny711 := am hy711
               clear hy711
               have c19b0 := eq_true (of_decide_eq_true (by (with_reducible assumption)) : 0 ≤ x5_2)
               have c20b0 := eq_true (of_decide_eq_true (by (with_reducible assumption)) : x5_2 ≤ (x3_1.length : Int))
               obtain ⟨y714, hy714, H⟩ := bindO_ H
               have Ny714 := am hy714
               clear hy714
               by_cases c21 : y711.length + y714.length < 2513169434916
               ·rw [if_pos c21] at H
                have LMc21 := am c21
                clear c21
                obtain ⟨y718, hy718, H⟩ := bindO_ H
                have Ny718 := am hy718
                clear hy718
                by_cases c22 : y718.length + y708.length < 2513169434916
                ·rw [if_pos c22] at H
                 have LMc22 := am c22
                 clear c22
                 obtain ⟨y721, hy721⟩ : ∃ y_ : List (S128), y_ = (y718 ++ y708) := ⟨_, rfl⟩
                 replace H : (spec_l7Sorted.l0 k2 l0 y721 (wrap64 (x4_1 + 1))) = some r := by (rw [hy721]; with_reducible exact H)
                 have Ny721 := am hy721
                 clear hy721
                 have H' := am H
                 clear H
                 try go_wp2
                 replace HO_3 := am (Kd.R_drew HO_3.out)
                 replace HB := am (below_drew1 HB.out)
                 have p697 : 0 ≤ ((ji7) : Int) := of_decide_eq_true (by (with_reducible assumption))
                 have q697 : (ji7) < (x3_1.length : Int) := of_decide_eq_true (by (with_reducible assumption))
                 obtain ⟨ad697, e697, hx697_0, hx697_1, hx697_2, hx697_3, hx697_4, hx697_5, hx697_6⟩ := at_T128 (Kd.R_reads' HO_3.out).2.2 (ji7) p697 q697
                 cases e697
                 replace p697 := eq_true p697
                 replace q697 := eq_true q697
                 have p698 : 0 ≤ (x4_1 : Int) := of_decide_eq_true (by (with_reducible assumption))
                 have q698 : x4_1 < (l0.length : Int) := of_decide_eq_true (by (with_reducible assumption))
                 obtain ⟨ad698, e698, hx698_0, hx698_1, hx698_2, hx698_3, hx698_4, hx698_5, hx698_6⟩ := at_T128 HR0.out x4_1 p698 q698
                 have hw698_6 := hx698_6
                 have hw698_5 := hx698_5
                 have hw698_4 := hx698_4
                 have hw698_3 := hx698_3
                 have hw698_2 := hx698_2
                 have hw698_1 := hx698_1
                 have hw698_0 := hx698_0
                 cases e698
                 replace hx698_0 := bc_ HB.out hx698_0
                 replace hx698_1 := bc_ HB.out hx698_1
                 replace hx698_2 := bc_ HB.out hx698_2
                 replace hx698_3 := bc_ HB.out hx698_3
                 replace hx698_4 := bc_ HB.out hx698_4
                 replace hx698_5 := bc_ HB.out hx698_5
                 replace hx698_6 := bc_ HB.out hx698_6
                 replace p698 := eq_true p698
                 replace q698 := eq_true q698
                 refine start_ (n := 15) (S := fun w' => w'.cell? (ad697.add (((ji7)).toNat * 7)) = some (.int .i64 ((rd_T128 x3_1 (ji7)).f0.f0)) ∧ w'.cell? ⟨(ad697.add (((ji7)).toNat * 7)).block, (ad697.add (((ji7)).toNat * 7)).off + 1, none⟩ = some (.int .i64 ((rd_T128 x3_1 (ji7)).f0.f1)) ∧ w'.cell? ⟨(ad697.add (((ji7)).toNat * 7)).block, (ad697.add (((ji7)).toNat * 7)).off + 2, none⟩ = some (.int .i64 ((rd_T128 x3_1 (ji7)).f0.f2)) ∧ w'.cell? ⟨(ad697.add (((ji7)).toNat * 7)).block, (ad697.add (((ji7)).toNat * 7)).off + 3, none⟩ = some (.int .i64 ((rd_T128 x3_1 (ji7)).f1.f0)) ∧ w'.cell? ⟨(ad697.add (((ji7)).toNat * 7)).block, (ad697.add (((ji7)).toNat * 7)).off + 4, none⟩ = some (.int .i64 ((rd_T128 x3_1 (ji7)).f1.f1)) ∧ w'.cell? ⟨(ad697.add (((ji7)).toNat * 7)).block, (ad697.add (((ji7)).toNat * 7)).off + 5, none⟩ = some (.int .i64 ((rd_T128 x3_1 (ji7)).f1.f2)) ∧ w'.cell? ⟨(ad697.add (((ji7)).toNat * 7)).block, (ad697.add (((ji7)).toNat * 7)).off + 6, none⟩ = some (.bool ((rd_T128 x3_1 (ji7)).f2)) ∧ w'.cell? (ad698.add ((x4_1).toNat * 7)) = some (.int .i64 ((rd_T128 l0 x4_1).f0.f0)) ∧ w'.cell? ⟨(ad698.add ((x4_1).toNat * 7)).block, (ad698.add ((x4_1).toNat * 7)).off + 1, none⟩ = some (.int .i64 ((rd_T128 l0 x4_1).f0.f1)) ∧ w'.cell? ⟨(ad698.add ((x4_1).toNat * 7)).block, (ad698.add ((x4_1).toNat * 7)).off + 2, none⟩ = some (.int .i64 ((rd_T128 l0 x4_1).f0.f2)) ∧ w'.cell? ⟨(ad698.add ((x4_1).toNat * 7)).block, (ad698.add ((x4_1).toNat * 7)).off + 3, none⟩ = some (.int .i64 ((rd_T128 l0 x4_1).f1.f0)) ∧ w'.cell? ⟨(ad698.add ((x4_1).toNat * 7)).block, (ad698.add ((x4_1).toNat * 7)).off + 4, none⟩ = some (.int .i64 ((rd_T128 l0 x4_1).f1.f1)) ∧ w'.cell? ⟨(ad698.add ((x4_1).toNat * 7)).block, (ad698.add ((x4_1).toNat * 7)).off + 5, none⟩ = some (.int .i64 ((rd_T128 l0 x4_1).f1.f2)) ∧ w'.cell? ⟨(ad698.add ((x4_1).toNat * 7)).block, (ad698.add ((x4_1).toNat * 7)).off + 6, none⟩ = some (.bool ((rd_T128 l0 x4_1).f2))) (ds := []) #[false, false, false, false, false, false, false, false, false, false, false, false, false, false, false] (by kernel_rfl) rfl rfl ⟨hx697_0, hx697_1, hx697_2, hx697_3, hx697_4, hx697_5, hx697_6, (bc_ HB.out hw698_0), (bc_ HB.out hw698_1), (bc_ HB.out hw698_2), (bc_ HB.out hw698_3), (bc_ HB.out hw698_4), (bc_ HB.out hw698_5), (bc_ HB.out hw698_6)⟩ (fun hHeld => ?_); refine with_tabW spec_l7Sorted.tab6 spec_l7Sorted.bits6 (fun HT_ HW_ => ?_)
                 generalize wr.drew = w23 at HO_3 HB hx697_0 hx697_1 hx697_2 hx697_3 hx697_4 hx697_5 hx697_6 hx698_0 hx698_1 hx698_2 hx698_3 hx698_4 hx698_5 hx698_6 hHeld ⊢
                 refine pure_ (i := 0) (N := some 16) (v := ?_) (a' := ?_) #[true, false, false, false, false, false, false, false, false, false, false, false, false, false, false] rfl rfl (any_of HT_.out (by kernel_rfl)) (fun _ _ _ h => h) (Or.inl ⟨rfl, ?_⟩) ?_ ?_
                 rotate_left
                 ·intro w'
                  go_simp
                  with_reducible rfl
                 rotate_left
                 ·simp only [Act.put, s2_, s0_, s1_, i64_w, i32_w]
                  rfl
                 refine pure_ (i := 1) (N := some 17) (v := ?_) (a' := ?_) #[true, true, false, false, false, false, false, false, false, false, false, false, false, false, false] rfl rfl (any_of HT_.out (by kernel_rfl)) (fun _ _ _ h => h) (Or.inl ⟨rfl, ?_⟩) ?_ ?_
                 rotate_left
                 ·intro w'
                  go_simp
                  with_reducible rfl
                 rotate_left
                 ·simp only [Act.put, s2_, s0_, s1_, i64_w, i32_w]
                  rfl
                 refine pure_ (i := 2) (N := some 18) (v := ?_) (a' := ?_) #[true, true, true, false, false, false, false, false, false, false, false, false, false, false, false] rfl rfl (any_of HT_.out (by kernel_rfl)) (fun _ _ _ h => h) (Or.inl ⟨rfl, ?_⟩) ?_ ?_
                 rotate_left
                 ·intro w'
                  go_simp
                  with_reducible rfl
                 rotate_left
                 ·simp only [Act.put, s2_, s0_, s1_, i64_w, i32_w]
                  rfl
                 refine pure_ (i := 3) (N := some 19) (v := ?_) (a' := ?_) #[true, true, true, true, false, false, false, false, false, false, false, false, false, false, false] rfl rfl (any_of HT_.out (by kernel_rfl)) (fun _ _ _ h => h) (Or.inl ⟨rfl, ?_⟩) ?_ ?_
                 rotate_left
                 ·intro w'
                  go_simp
                  with_reducible rfl
                 rotate_left
                 ·simp only [Act.put, s2_, s0_, s1_, i64_w, i32_w]
                  rfl
                 refine pure_ (i := 4) (N := some 20) (v := ?_) (a' := ?_) #[true, true, true, true, true, false, false, false, false, false, false, false, false, false, false] rfl rfl (any_of HT_.out (by kernel_rfl)) (fun _ _ _ h => h) (Or.inl ⟨rfl, ?_⟩) ?_ ?_
                 rotate_left
                 ·intro w'
                  go_simp
                  with_reducible rfl
                 rotate_left
                 ·simp only [Act.put, s2_, s0_, s1_, i64_w, i32_w]
                  rfl
                 refine pure_ (i := 5) (N := some 21) (v := ?_) (a' := ?_) #[true, true, true, true, true, true, false, false, false, false, false, false, false, false, false] rfl rfl (any_of HT_.out (by kernel_rfl)) (fun _ _ _ h => h) (Or.inl ⟨rfl, ?_⟩) ?_ ?_
                 rotate_left
                 ·intro w'
                  go_simp
                  with_reducible rfl
                 rotate_left
                 ·simp only [Act.put, s2_, s0_, s1_, i64_w, i32_w]
                  rfl
                 refine pure_ (i := 6) (N := some 22) (v := ?_) (a' := ?_) #[true, true, true, true, true, true, true, false, false, false, false, false, false, false, false] rfl rfl (any_of HT_.out (by kernel_rfl)) (fun _ _ _ h => h) (Or.inl ⟨rfl, ?_⟩) ?_ ?_
                 rotate_left
                 ·intro w'
                  go_simp
                  with_reducible rfl
                 rotate_left
                 ·simp only [Act.put, s2_, s0_, s1_, i64_w, i32_w]
                  rfl
                 refine pure_ (i := 8) (N := some 24) (v := ?_) (a' := ?_) #[true, true, true, true, true, true, true, false, true, false, false, false, false, false, false] rfl rfl (any_of HT_.out (by kernel_rfl)) (fun _ _ _ h => h) (Or.inl ⟨rfl, ?_⟩) ?_ ?_
                 rotate_left
                 ·intro w'
                  go_simp
                  with_reducible rfl
                 rotate_left
                 ·simp only [Act.put, s2_, s0_, s1_, i64_w, i32_w]
                  rfl
                 refine pure_ (i := 9) (N := some 25) (v := ?_) (a' := ?_) #[true, true, true, true, true, true, true, false, true, true, false, false, false, false, false] rfl rfl (any_of HT_.out (by kernel_rfl)) (fun _ _ _ h => h) (Or.inl ⟨rfl, ?_⟩) ?_ ?_
                 rotate_left
                 ·intro w'
                  go_simp
                  with_reducible rfl
                 rotate_left
                 ·simp only [Act.put, s2_, s0_, s1_, i64_w, i32_w]
                  rfl
                 refine pure_ (i := 10) (N := some 26) (v := ?_) (a' := ?_) #[true, true, true, true, true, true, true, false, true, true, true, false, false, false, false] rfl rfl (any_of HT_.out (by kernel_rfl)) (fun _ _ _ h => h) (Or.inl ⟨rfl, ?_⟩) ?_ ?_
                 rotate_left
                 ·intro w'
                  go_simp
                  with_reducible rfl
                 rotate_left
                 ·simp only [Act.put, s2_, s0_, s1_, i64_w, i32_w]
                  rfl
                 refine take_ (i := 7) (N := some 23) (v := ?_) (a' := ?_) #[true, true, true, true, true, true, true, true, true, true, true, false, false, false, false] rfl rfl (take_ofW HT_.out HW_.out (by kernel_rfl)) (fun _ _ _ h => h) (Or.inl ⟨rfl, ?_⟩) hHeld ?_ ?_
                 rotate_left
                 ·rintro w' ⟨s0, s1, s2, s3, s4, s5, s6, s7, s8, s9, s10, s11, s12, s13⟩
                  go_simp
                  with_reducible rfl
                 rotate_left
                 ·simp only [Act.put, s2_, s0_, s1_, i64_w, i32_w]
                  rfl
                 refine take_ (i := 11) (N := some 27) (v := ?_) (a' := ?_) #[true, true, true, true, true, true, true, true, true, true, true, true, false, false, false] rfl rfl (take_ofW HT_.out HW_.out (by kernel_rfl)) (fun _ _ _ h => h) (Or.inl ⟨rfl, ?_⟩) hHeld ?_ ?_
                 rotate_left
                 ·rintro w' ⟨s0, s1, s2, s3, s4, s5, s6, s7, s8, s9, s10, s11, s12, s13⟩
                  go_simp
                  with_reducible rfl
                 rotate_left
                 ·simp only [Act.put, s2_, s0_, s1_, i64_w, i32_w]
                  rfl
                 refine one_ (i := 12) (N := some 28) #[true, true, true, true, true, true, true, true, true, true, true, true, true, false, false] rfl rfl (one_of HT_.out (by kernel_rfl)) (by decide) (fun K hK => ?_)
                 refine goes_ Try.func182 (by kernel_rfl) rfl #[.agg #[.int .i64 ((rd_T128 x3_1 (ji7)).f0.f0), .int .i64 ((rd_T128 x3_1 (ji7)).f0.f1), .int .i64 ((rd_T128 x3_1 (ji7)).f0.f2), .int .i64 ((rd_T128 x3_1 (ji7)).f1.f0), .int .i64 ((rd_T128 x3_1 (ji7)).f1.f1), .int .i64 ((rd_T128 x3_1 (ji7)).f1.f2), .bool ((rd_T128 x3_1 (ji7)).f2)], .agg #[.int .i64 ((rd_T128 l0 x4_1).f0.f0), .int .i64 ((rd_T128 l0 x4_1).f0.f1), .int .i64 ((rd_T128 l0 x4_1).f0.f2), .int .i64 ((rd_T128 l0 x4_1).f1.f0), .int .i64 ((rd_T128 l0 x4_1).f1.f1), .int .i64 ((rd_T128 l0 x4_1).f1.f2), .bool ((rd_T128 l0 x4_1).f2)]] rfl rfl rfl (by (try simp only [List.map_toArray, List.map_cons, List.map_nil]); rfl) ?_
                 with_reducible refine (spec_ComparePairs.calls k2 ((rd_T128 x3_1 (ji7)).f0.f0) ((rd_T128 x3_1 (ji7)).f0.f1) ((rd_T128 x3_1 (ji7)).f0.f2) ((rd_T128 x3_1 (ji7)).f1.f0) ((rd_T128 x3_1 (ji7)).f1.f1) ((rd_T128 x3_1 (ji7)).f1.f2) ((rd_T128 x3_1 (ji7)).f2) ((rd_T128 l0 x4_1).f0.f0) ((rd_T128 l0 x4_1).f0.f1) ((rd_T128 l0 x4_1).f0.f2) ((rd_T128 l0 x4_1).f1.f0) ((rd_T128 l0 x4_1).f1.f1) ((rd_T128 l0 x4_1).f1.f2) ((rd_T128 l0 x4_1).f2) t699 _ A12.out).mono ?_
                 rintro e w24 ⟨rfl, hb⟩
                 have HS0_ := (hb.cell (World.block_lt_of_cell? _ _ (hHeld.1))).trans (hHeld.1)
                 have HS1_ := (hb.cell (World.block_lt_of_cell? _ _ (hHeld.2.1))).trans (hHeld.2.1)
                 have HS2_ := (hb.cell (World.block_lt_of_cell? _ _ (hHeld.2.2.1))).trans (hHeld.2.2.1)
                 have HS3_ := (hb.cell (World.block_lt_of_cell? _ _ (hHeld.2.2.2.1))).trans (hHeld.2.2.2.1)
                 have HS4_ := (hb.cell (World.block_lt_of_cell? _ _ (hHeld.2.2.2.2.1))).trans (hHeld.2.2.2.2.1)
                 have HS5_ := (hb.cell (World.block_lt_of_cell? _ _ (hHeld.2.2.2.2.2.1))).trans (hHeld.2.2.2.2.2.1)
                 have HS6_ := (hb.cell (World.block_lt_of_cell? _ _ (hHeld.2.2.2.2.2.2.1))).trans (hHeld.2.2.2.2.2.2.1)
                 refine ⟨_, rfl, ?_⟩
                 replace HO_3 := am (Kd.R_below HO_3.out hb)
                 replace HB := am (below_step HB.out hb)
                 (try clear hb)
                 (try clear hb2)
                 (try clear hk)
                 (try clear hi)
                 refine hK.out _ _ ⟨HS0_, HS1_, HS2_, HS3_, HS4_, HS5_, HS6_, (bc_ HB.out hw698_0), (bc_ HB.out hw698_1), (bc_ HB.out hw698_2), (bc_ HB.out hw698_3), (bc_ HB.out hw698_4), (bc_ HB.out hw698_5), (bc_ HB.out hw698_6)⟩ (fun hHeld => ?_)
                 clear hK K
                 refine norm_ (a' := ?_) ?_ ?_
                 rotate_left
                 ·show Act.put _ (some 28) _ = _
                  simp only [Act.put, s2_, s0_, s1_, i64_w, i32_w]
                  rfl
                 refine pure_ (i := 13) (N := some 29) (v := ?_) (a' := ?_) #[true, true, true, true, true, true, true, true, true, true, true, true, true, true, false] rfl rfl (any_of HT_.out (by kernel_rfl)) (fun _ _ _ h => h) (Or.inl ⟨rfl, ?_⟩) ?_ ?_
                 rotate_left
                 ·intro w'
                  go_simp
                  with_reducible rfl
                 rotate_left
                 ·simp only [Act.put, s2_, s0_, s1_, i64_w, i32_w]
                  rfl
                 refine pure_ (i := 14) (N := some 30) (v := ?_) (a' := ?_) #[true, true, true, true, true, true, true, true, true, true, true, true, true, true, true] rfl rfl (any_of HT_.out (by kernel_rfl)) (fun _ _ _ h => h) (Or.inl ⟨rfl, ?_⟩) ?_ ?_
                 rotate_left
                 ·intro w'
                  go_simp
                  with_reducible rfl
                 rotate_left
                 ·simp only [Act.put, s2_, s0_, s1_, i64_w, i32_w]
                  rfl
                 refine done_ (done_of HT_.out (by kernel_rfl)) ?_
                 try go_wp2
                 replace HO_3 := am (Kd.R_drew HO_3.out)
                 replace HB := am (below_drew1 HB.out)
                 have p700 : 0 ≤ (x4_1 : Int) := of_decide_eq_true (by (with_reducible assumption))
                 have q700 : x4_1 < (l0.length : Int) := of_decide_eq_true (by (with_reducible assumption))
                 obtain ⟨ad700, e700, hx700_0, hx700_1, hx700_2, hx700_3, hx700_4, hx700_5, hx700_6⟩ := at_T128 HR0.out x4_1 p700 q700
                 have hw700_6 := hx700_6
                 have hw700_5 := hx700_5
                 have hw700_4 := hx700_4
                 have hw700_3 := hx700_3
                 have hw700_2 := hx700_2
                 have hw700_1 := hx700_1
                 have hw700_0 := hx700_0
                 obtain rfl : ad698 = ad700 := (by injection e700)
                 replace hx700_0 := bc_ HB.out hx700_0
                 replace hx700_1 := bc_ HB.out hx700_1
                 replace hx700_2 := bc_ HB.out hx700_2
                 replace hx700_3 := bc_ HB.out hx700_3
                 replace hx700_4 := bc_ HB.out hx700_4
                 replace hx700_5 := bc_ HB.out hx700_5
                 replace hx700_6 := bc_ HB.out hx700_6
                 replace p700 := eq_true p700
                 replace q700 := eq_true q700
                 have q26 : (x5_2 : Int) ≤ ((x3_1.length : Int) : Int) := of_decide_eq_true (by (with_reducible assumption))
                 obtain ⟨i026, hi026, _, hsz26, _⟩ := info_parts info128
                 have hroom26 : x3_1.length ≤ co5 := (Kd.R_reads' HO_3.out).2.1
                 have hC26 : Kd.C k128 _ (some ad697) x3_1.length x3_1 := (Kd.R_reads' HO_3.out).2.2
                 have q026 : (0 : Int) ≤ (x5_2 : Int) := of_decide_eq_true (by (with_reducible assumption))
                 have hcut26 := cut_from (P := Try.prog) 33 128 .i64 Try.underlying33 hi026 7 hsz26 (some ad697) x3_1.length co5 x5_2 q026 q26
                 have hr26 := Kd.C_drop (m := (x5_2 : Int).toNat) (c := co5) hC26 (by omega) hroom26
                 obtain ⟨A26, hA26⟩ : ∃ A1, A1 = (if co5 = (x5_2 : Int).toNat then (some ad697) else ((some ad697) : Option Addr).map (·.add ((x5_2 : Int).toNat * 7))) := ⟨_, rfl⟩
                 obtain ⟨c26, hc26⟩ : ∃ c1, c1 = co5 - (x5_2 : Int).toNat := ⟨_, rfl⟩
                 have hy26 : y704.length = x3_1.length - (x5_2 : Int).toNat := (by rw [Ny704.out, List.length_drop] <;> omega)
                 rw [show (x3_1).drop (x5_2 : Int).toNat = y704 from Ny704.out.symm] at hr26
                 replace hr26 : Kd.C k128 _ A26 y704.length y704 := (by rw [hA26]; exact hr26)
                 rw [← hy26, ← hA26, ← hc26] at hcut26
                 have HR707 := am hr26
                 have HC707 := am (show y704.length ≤ c26 from by rw [hy26, hc26]; exact Nat.sub_le_sub_right hroom26 _)
                 clear hr26 hC26 hroom26 hi026 hsz26 hc26
                 have KY26 := am hy26
                 have KA26 := am hA26
                 clear hy26 hA26
                 have KL26 := am (show (x5_2 : Int).toNat ≤ x3_1.length from by omega)
                 replace q26 := eq_true q26
                 refine start_ (n := 10) (S := fun w' => w'.cell? (ad698.add ((x4_1).toNat * 7)) = some (.int .i64 ((rd_T128 l0 x4_1).f0.f0)) ∧ w'.cell? ⟨(ad698.add ((x4_1).toNat * 7)).block, (ad698.add ((x4_1).toNat * 7)).off + 1, none⟩ = some (.int .i64 ((rd_T128 l0 x4_1).f0.f1)) ∧ w'.cell? ⟨(ad698.add ((x4_1).toNat * 7)).block, (ad698.add ((x4_1).toNat * 7)).off + 2, none⟩ = some (.int .i64 ((rd_T128 l0 x4_1).f0.f2)) ∧ w'.cell? ⟨(ad698.add ((x4_1).toNat * 7)).block, (ad698.add ((x4_1).toNat * 7)).off + 3, none⟩ = some (.int .i64 ((rd_T128 l0 x4_1).f1.f0)) ∧ w'.cell? ⟨(ad698.add ((x4_1).toNat * 7)).block, (ad698.add ((x4_1).toNat * 7)).off + 4, none⟩ = some (.int .i64 ((rd_T128 l0 x4_1).f1.f1)) ∧ w'.cell? ⟨(ad698.add ((x4_1).toNat * 7)).block, (ad698.add ((x4_1).toNat * 7)).off + 5, none⟩ = some (.int .i64 ((rd_T128 l0 x4_1).f1.f2)) ∧ w'.cell? ⟨(ad698.add ((x4_1).toNat * 7)).block, (ad698.add ((x4_1).toNat * 7)).off + 6, none⟩ = some (.bool ((rd_T128 l0 x4_1).f2))) (ds := []) #[false, false, false, false, false, false, false, false, false, false] (by kernel_rfl) rfl rfl ⟨(bc_ HB.out hw700_0), (bc_ HB.out hw700_1), (bc_ HB.out hw700_2), (bc_ HB.out hw700_3), (bc_ HB.out hw700_4), (bc_ HB.out hw700_5), (bc_ HB.out hw700_6)⟩ (fun hHeld => ?_); refine with_tabW spec_l7Sorted.tab8 spec_l7Sorted.bits8 (fun HT_ HW_ => ?_)
                 generalize w24.drew = w25 at HO_3 HB HR707 hx700_0 hx700_1 hx700_2 hx700_3 hx700_4 hx700_5 hx700_6 hHeld ⊢
                 refine pure_ (i := 0) (N := some 33) (v := ?_) (a' := ?_) #[true, false, false, false, false, false, false, false, false, false] rfl rfl (any_of HT_.out (by kernel_rfl)) (fun _ _ _ h => h) (Or.inl ⟨rfl, ?_⟩) ?_ ?_
                 rotate_left
                 ·intro w'
                  go_simp
                  with_reducible rfl
                 rotate_left
                 ·simp only [Act.put, s2_, s0_, s1_, i64_w, i32_w]
                  rfl
                 refine pure_ (i := 1) (N := some 34) (v := ?_) (a' := ?_) #[true, true, false, false, false, false, false, false, false, false] rfl rfl (any_of HT_.out (by kernel_rfl)) (fun _ _ _ h => h) (Or.inl ⟨rfl, ?_⟩) ?_ ?_
                 rotate_left
                 ·intro w'
                  go_simp
                  with_reducible rfl
                 rotate_left
                 ·simp only [Act.put, s2_, s0_, s1_, i64_w, i32_w]
                  rfl
                 refine pure_ (i := 2) (N := some 35) (v := ?_) (a' := ?_) #[true, true, true, false, false, false, false, false, false, false] rfl rfl (any_of HT_.out (by kernel_rfl)) (fun _ _ _ h => h) (Or.inl ⟨rfl, ?_⟩) ?_ ?_
                 rotate_left
                 ·intro w'
                  go_simp
                  with_reducible rfl
                 rotate_left
                 ·simp only [Act.put, s2_, s0_, s1_, i64_w, i32_w]
                  rfl
                 refine pure_ (i := 5) (N := some 38) (v := ?_) (a' := ?_) #[true, true, true, false, false, true, false, false, false, false] rfl rfl (any_of HT_.out (by kernel_rfl)) (fun _ _ _ h => h) (Or.inl ⟨rfl, ?_⟩) ?_ ?_
                 rotate_left
                 ·intro w'
                  go_simp
                  with_reducible rfl
                 rotate_left
                 ·simp only [Act.put, s2_, s0_, s1_, i64_w, i32_w]
                  rfl
                 refine pure_ (i := 6) (N := some 39) (v := ?_) (a' := ?_) #[true, true, true, false, false, true, true, false, false, false] rfl rfl (any_of HT_.out (by kernel_rfl)) (fun _ _ _ h => h) (Or.inl ⟨rfl, ?_⟩) ?_ ?_
                 rotate_left
                 ·intro w'
                  go_simp
                  with_reducible rfl
                 rotate_left
                 ·simp only [Act.put, s2_, s0_, s1_, i64_w, i32_w]
                  rfl
                 refine pure_ (i := 7) (N := some 40) (v := ?_) (a' := ?_) #[true, true, true, false, false, true, true, true, false, false] rfl rfl (any_of HT_.out (by kernel_rfl)) (fun _ _ _ h => h) (Or.inl ⟨rfl, ?_⟩) ?_ ?_
                 rotate_left
                 ·intro w'
                  go_simp
                  with_reducible rfl
                 rotate_left
                 ·simp only [Act.put, s2_, s0_, s1_, i64_w, i32_w]
                  rfl
                 refine take_ (i := 3) (N := some 36) (v := ?_) (a' := ?_) #[true, true, true, true, false, true, true, true, false, false] rfl rfl (take_ofW HT_.out HW_.out (by kernel_rfl)) (fun _ _ _ h => h) (Or.inl ⟨rfl, ?_⟩) hHeld ?_ ?_
                 rotate_left
                 ·rintro w' ⟨s0, s1, s2, s3, s4, s5, s6⟩
                  go_simp
                  with_reducible rfl
                 rotate_left
                 ·simp only [Act.put, s2_, s0_, s1_, i64_w, i32_w]
                  rfl
                 refine one_ (i := 4) (N := some 37) #[true, true, true, true, true, true, true, true, false, false] rfl rfl (one_of HT_.out (by kernel_rfl)) (by decide) (fun K hK => ?_)
                 refine Kd.R_lit_step k128 _ 128 ?hg (N := 37) ?hd (xs := ([(⟨(⟨(rd_T128 l0 x4_1).f0.f0, (rd_T128 l0 x4_1).f0.f1, (rd_T128 l0 x4_1).f0.f2⟩ : S60), (⟨(rd_T128 l0 x4_1).f1.f0, (rd_T128 l0 x4_1).f1.f1, (rd_T128 l0 x4_1).f1.f2⟩ : S60), (rd_T128 l0 x4_1).f2⟩ : S128)] : List (S128))) (inner := [.int .i64 ((rd_T128 l0 x4_1).f0.f0), .int .i64 ((rd_T128 l0 x4_1).f0.f1), .int .i64 ((rd_T128 l0 x4_1).f0.f2), .int .i64 ((rd_T128 l0 x4_1).f1.f0), .int .i64 ((rd_T128 l0 x4_1).f1.f1), .int .i64 ((rd_T128 l0 x4_1).f1.f2), .bool ((rd_T128 l0 x4_1).f2)]) (ok := fun _ => True) (okp := fun _ => True) ?hr ?hp (fun _ hk => hk) trivial (Below.refl _ _) (Nat.le_refl _) (by simp) ?_; (case hd => rfl); (case hg => rfl); (case hr => (go_simp; done)); (case hp => exact (Reps.c7 (show Kd.M k128 _ _ _ (⟨(⟨(rd_T128 l0 x4_1).f0.f0, (rd_T128 l0 x4_1).f0.f1, (rd_T128 l0 x4_1).f0.f2⟩ : S60), (⟨(rd_T128 l0 x4_1).f1.f0, (rd_T128 l0 x4_1).f1.f1, (rd_T128 l0 x4_1).f1.f2⟩ : S60), (rd_T128 l0 x4_1).f2⟩ : S128) [.int .i64 ((rd_T128 l0 x4_1).f0.f0), .int .i64 ((rd_T128 l0 x4_1).f0.f1), .int .i64 ((rd_T128 l0 x4_1).f0.f2), .int .i64 ((rd_T128 l0 x4_1).f1.f0), .int .i64 ((rd_T128 l0 x4_1).f1.f1), .int .i64 ((rd_T128 l0 x4_1).f1.f2), .bool ((rd_T128 l0 x4_1).f2)] from (k128_mkM _ _ _ (⟨(⟨(rd_T128 l0 x4_1).f0.f0, (rd_T128 l0 x4_1).f0.f1, (rd_T128 l0 x4_1).f0.f2⟩ : S60), (⟨(rd_T128 l0 x4_1).f1.f0, (rd_T128 l0 x4_1).f1.f1, (rd_T128 l0 x4_1).f1.f2⟩ : S60), (rd_T128 l0 x4_1).f2⟩ : S128))) (Reps.none _ _)))
                 intro v702 w27 ho28 hb hg_ hnew_
                 clear hg_ hnew_
                 (rw [← Ny701.out] at ho28)
                 have HO703 := am (Kd.R_lower (Kd.R_new' ho28 (Kd.R_lt HO_3.out)) (below_size HB.out))
                 replace HO_3 := am (Kd.R_elder' HO_3.out (Kd.R_base ho28) hb)
                 replace HR707 := am (Kd.C_below HR707.out hb)
                 replace HB := am (below_step HB.out hb)
                 clear hb ho28
                 refine hK.out _ _ ⟨(bc_ HB.out hw700_0), (bc_ HB.out hw700_1), (bc_ HB.out hw700_2), (bc_ HB.out hw700_3), (bc_ HB.out hw700_4), (bc_ HB.out hw700_5), (bc_ HB.out hw700_6)⟩ (fun hHeld => ?_)
                 clear hK K
                 refine norm_ (a' := ?_) ?_ ?_
                 rotate_left
                 ·show Act.put _ (some 37) _ = _
                  simp only [Act.put, s2_, s0_, s1_, i64_w, i32_w]
                  rfl
                 refine one_ (i := 8) (N := some 41) #[true, true, true, true, true, true, true, true, true, false] rfl rfl (one_of HT_.out (by kernel_rfl)) (by decide) (fun K hK => ?_)
                 refine Kd.R_append_rows_step k128 (w0 := w) w.heap.size rfl (.tmp 37) (.tmp 40) 33 128 (.agg #[(.int .i64 0), (.int .i64 0), (.int .i64 0), (.int .i64 0), (.int .i64 0), (.int .i64 0), (.bool false)]) 56 rfl Try.underlying33 info128 rfl (by decide) (by omega) v702 y701 y704 _ _ _ (fun k_ => some k_ ≠ (.slice (some ad697) x3_1.length co5 : Value).ownBlock) (fun _ => False) rfl rfl ?aO ?aR (fun _ _ h => h) (fun _ h => h.elim) ?aF ?aB ?aS ?aL ?_
                 (case aR => repeat (exact HR707.out))
                 (case aB => exact HB.out)
                 (case aF => exact (fun k_ hk => Kd.fresh' (Kd.R_lt HO_3.out) k_ hk))
                 (case aO => exact (by exact Kd.R_mono HO703.out (fun _ hk => hk.2)))
                 (case aS => exact (below_size HB.out))
                 (case aL => have := LMc18.out; omega)
                 intro v709 w29 ho hb hg hat
                 rw [← Ny708.out] at ho
                 replace HB := am (hb)
                 replace HR707 := am ((show Kd.C k128 w29 A26 y704.length y704 from by rw [Ny704.out, KA26.out]; exact Kd.C_drop (m := (x5_2 : Int).toNat) (c := co5) ((Kd.R_reads' (Kd.R_after (ok := (fun _ => True)) HO_3.out hg hat)).2.2) KL26.out ((Kd.R_reads' (Kd.R_after (ok := (fun _ => True)) HO_3.out hg hat)).2.1)))
                 replace HO_3 := am (Kd.R_after (ok := (fun _ => True)) HO_3.out hg hat)
                 have HO710 := am (ho)
                 clear HO703 ho hb hg hat
                 refine hK.out _ _ ⟨(bc_ HB.out hw700_0), (bc_ HB.out hw700_1), (bc_ HB.out hw700_2), (bc_ HB.out hw700_3), (bc_ HB.out hw700_4), (bc_ HB.out hw700_5), (bc_ HB.out hw700_6)⟩ (fun hHeld => ?_)
                 clear hK K
                 refine norm_ (a' := ?_) ?_ ?_
                 rotate_left
                 ·show Act.put _ (some 41) _ = _
                  simp only [Act.put, s2_, s0_, s1_, i64_w, i32_w]
                  rfl
                 refine pure_ (i := 9) (N := some 6) (v := ?_) (a' := ?_) #[true, true, true, true, true, true, true, true, true, true] rfl rfl (any_of HT_.out (by kernel_rfl)) (fun _ _ _ h => h) (Or.inl ⟨rfl, ?_⟩) ?_ ?_
                 rotate_left
                 ·intro w'
                  go_simp
                  with_reducible rfl
                 rotate_left
                 ·simp only [Act.put, s2_, s0_, s1_, i64_w, i32_w]
                  rfl
                 refine done_ (done_of HT_.out (by kernel_rfl)) ?_
                 try go_wp2_with (first | ((with_reducible refine gate_dst (N := 42) rfl ?_); refine Kd.R_lit k128 _ 128 ?hg (N := 42) ?hd (xs := ([] : List (S128))) (inner := []) (ok := fun _ => True) (okp := fun _ => True) ?hr ?hp (fun _ hk => hk) trivial (Below.refl _ _) (Nat.le_refl _) (by simp) ?_; (case hd => rfl); (case hg => rfl); (case hr => (go_simp; done)); (case hp => exact (Reps.none _ _)); intro v712 w30 ho31 hb hg_ hnew_; clear hg_ hnew_; (rw [← Ny711.out] at ho31); have HO713 := am (Kd.R_lower (Kd.R_new' (Kd.R_new' ho31 (Kd.R_lt HO_3.out)) (Kd.R_lt HO710.out)) (below_size HB.out)); replace HO_3 := am (Kd.R_elder' HO_3.out (Kd.R_base ho31) hb); replace HO710 := am (Kd.R_elder' HO710.out (Kd.R_base ho31) hb); replace HR707 := am (Kd.C_below HR707.out hb); replace HB := am (below_step HB.out hb); clear hb ho31; have q32 : (x5_2 : Int) ≤ ((x3_1.length : Int) : Int) := of_decide_eq_true (by (with_reducible assumption)); obtain ⟨i032, hi032, _, hsz32, _⟩ := info_parts info128; have hroom32 : x3_1.length ≤ co5 := (Kd.R_reads' HO_3.out).2.1; have hC32 : Kd.C k128 _ (some ad697) x3_1.length x3_1 := (Kd.R_reads' HO_3.out).2.2; have hcut32 := cut_to (P := Try.prog) 33 128 .i64 Try.underlying33 hi032 (some ad697) x3_1.length co5 x5_2 (of_decide_eq_true (by (with_reducible assumption))) q32 hroom32; have hr32 := Kd.C_take (m := (x5_2 : Int).toNat) hC32 (by omega); have hy32 : y714.length = (x5_2 : Int).toNat := (by rw [Ny714.out, List.length_take]; omega); rw [← Ny714.out] at hr32; rw [← hy32] at hcut32; have HR717 := am hr32; have HC717 := am (show y714.length ≤ co5 from by omega); clear hr32 hC32 hroom32 hi032 hsz32; have KY32 := am hy32; clear hy32; have KL32 := am (show (x5_2 : Int).toNat ≤ x3_1.length from by omega); replace q32 := eq_true q32) | ((with_reducible refine gate_builtin (b := .append) (xs := #[.tmp 42, .tmp 45]) rfl ?_); at_builtin; refine Kd.R_append_rows k128 (w0 := w) w.heap.size rfl (.tmp 42) (.tmp 45) 33 128 (.agg #[(.int .i64 0), (.int .i64 0), (.int .i64 0), (.int .i64 0), (.int .i64 0), (.int .i64 0), (.bool false)]) 56 rfl Try.underlying33 info128 rfl (by decide) (by omega) v712 y711 y714 _ _ _ (fun k_ => some k_ ≠ (.slice (some ad697) x3_1.length co5 : Value).ownBlock ∧ some k_ ≠ (v709 : Value).ownBlock) (fun _ => False) rfl rfl ?aO ?aR (fun _ _ h => h) (fun _ h => h.elim) ?aF ?aB ?aS ?aL ?_; (case aR => repeat (exact HR717.out)); (case aB => exact HB.out); (case aF => exact (fun k_ hk => ⟨Kd.fresh' (Kd.R_lt HO_3.out) k_ hk, Kd.fresh' (Kd.R_lt HO710.out) k_ hk⟩)); (case aO => exact (by exact Kd.R_mono HO713.out (fun _ hk => ⟨hk.1.2, hk.2⟩))); (case aS => exact (below_size HB.out)); (case aL => have := LMc21.out; omega); intro v719 w33 ho hb hg hat; rw [← Ny718.out] at ho; replace HO710 := am (Kd.R_after (ok := (fun k_ => some k_ ≠ (.slice (some ad697) x3_1.length co5 : Value).ownBlock)) HO710.out hg hat); replace HB := am (hb); replace HR707 := am ((show Kd.C k128 w33 A26 y704.length y704 from by rw [Ny704.out, KA26.out]; exact Kd.C_drop (m := (x5_2 : Int).toNat) (c := co5) ((Kd.R_reads' (Kd.R_after (ok := (fun k_ => some k_ ≠ (v709 : Value).ownBlock)) (by exact Kd.R_mono HO_3.out (fun _ hk => ⟨hk.1.2, hk.2⟩)) hg hat)).2.2) KL26.out ((Kd.R_reads' (Kd.R_after (ok := (fun k_ => some k_ ≠ (v709 : Value).ownBlock)) (by exact Kd.R_mono HO_3.out (fun _ hk => ⟨hk.1.2, hk.2⟩)) hg hat)).2.1))); replace HR717 := am ((show Kd.C k128 w33 (some ad697) y714.length y714 from by rw [Ny714.out]; exact Kd.C_take (m := (x5_2 : Int).toNat) ((Kd.R_reads' (Kd.R_after (ok := (fun k_ => some k_ ≠ (v709 : Value).ownBlock)) (by exact Kd.R_mono HO_3.out (fun _ hk => ⟨hk.1.2, hk.2⟩)) hg hat)).2.2) KL32.out)); replace HO_3 := am (Kd.R_after (ok := (fun k_ => some k_ ≠ (v709 : Value).ownBlock)) (by exact Kd.R_mono HO_3.out (fun _ hk => ⟨hk.1.2, hk.2⟩)) hg hat); have HO720 := am (ho); clear HO713 ho hb hg hat; obtain ⟨Ao35, co35, eo35⟩ := Kd.R_slice HO710.out; subst eo35) | ((with_reducible refine gate_builtin (b := .append) (xs := #[.tmp 46, .tmp 47]) rfl ?_); at_builtin; refine Kd.R_append_rows k128 (w0 := w) w.heap.size rfl (.tmp 46) (.tmp 47) 33 128 (.agg #[(.int .i64 0), (.int .i64 0), (.int .i64 0), (.int .i64 0), (.int .i64 0), (.int .i64 0), (.bool false)]) 56 rfl Try.underlying33 info128 rfl (by decide) (by omega) v719 y718 y708 _ _ _ (fun k_ => some k_ ≠ (.slice (some ad697) x3_1.length co5 : Value).ownBlock ∧ some k_ ≠ (.slice Ao35 y708.length co35 : Value).ownBlock) (fun _ => False) rfl rfl ?aO ?aR (fun _ _ h => h) (fun _ h => h.elim) ?aF ?aB ?aS ?aL ?_; (case aR => repeat (exact (Kd.R_reads' HO710.out).2.2)); (case aB => exact HB.out); (case aF => exact (fun k_ hk => ⟨Kd.fresh' (Kd.R_lt HO_3.out) k_ hk, Kd.fresh' (Kd.R_lt HO710.out) k_ hk⟩)); (case aO => exact HO720.out); (case aS => exact (below_size HB.out)); (case aL => have := LMc22.out; omega); intro v722 w34 ho hb hg hat; rw [← Ny721.out] at ho; replace HO710 := am (Kd.R_after (ok := (fun k_ => some k_ ≠ (.slice (some ad697) x3_1.length co5 : Value).ownBlock)) HO710.out hg hat); replace HB := am (hb); replace HR707 := am ((show Kd.C k128 w34 A26 y704.length y704 from by rw [Ny704.out, KA26.out]; exact Kd.C_drop (m := (x5_2 : Int).toNat) (c := co5) ((Kd.R_reads' (Kd.R_after (ok := (fun k_ => some k_ ≠ (.slice Ao35 y708.length co35 : Value).ownBlock)) HO_3.out hg hat)).2.2) KL26.out ((Kd.R_reads' (Kd.R_after (ok := (fun k_ => some k_ ≠ (.slice Ao35 y708.length co35 : Value).ownBlock)) HO_3.out hg hat)).2.1))); replace HR717 := am ((show Kd.C k128 w34 (some ad697) y714.length y714 from by rw [Ny714.out]; exact Kd.C_take (m := (x5_2 : Int).toNat) ((Kd.R_reads' (Kd.R_after (ok := (fun k_ => some k_ ≠ (.slice Ao35 y708.length co35 : Value).ownBlock)) HO_3.out hg hat)).2.2) KL32.out)); replace HO_3 := am (Kd.R_after (ok := (fun k_ => some k_ ≠ (.slice Ao35 y708.length co35 : Value).ownBlock)) HO_3.out hg hat); have HO723 := am (ho); clear HO720 ho hb hg hat))
                 go_roundg k2
                 case measure => have := HK1.out; have := HK2.out; omega
                 case rel => exact ⟨(y721), (wrap64 (x4_1 + 1)), rfl, H', ⟨by have := HK1.out; have := HK2.out; omega⟩, ⟨by exact Kd.R_mono HO723.out (fun _ hk => trivial)⟩, ⟨HB.out⟩⟩
                ·rw [if_neg c22] at H
                 exact absurd H (by simp)
               ·rw [if_neg c21] at H
                exact absurd H (by simp)
              ·rw [if_neg c18] at H
               exact absurd H (by simp)
             ·rw [if_neg c17] at H
              exact absurd H (by simp)
            ·rw [if_neg c16] at H
             exact absurd H (by simp)
          ·rw [if_neg c11] at H
           exact absurd H (by simp)
         ·rw [if_neg c10] at H
          exact absurd H (by simp)
        ·rw [if_neg c9] at H
         exact absurd H (by simp)
       ·rw [if_neg c8] at H
        exact absurd H (by simp)
      ·rw [if_neg c6] at H
       have c6b0 : decide (0 < x5_2) = false := decide_eq_false c6
       clear c6
       by_cases c36 : 0 ≤ x4_1
       ·rw [if_pos c36] at H
        have c36b0 : decide (0 ≤ x4_1) = true := decide_eq_true c36
        clear c36
        by_cases c37 : x4_1 < (l0.length : Int)
        ·rw [if_pos c37] at H
         have c37b0 : decide (x4_1 < (l0.length : Int)) = true := decide_eq_true c37
         clear c37
         obtain ⟨y725, hy725, H⟩ := bindO_ H
         have Ny725 := am hy725
         clear hy725
         by_cases c38 : 0 ≤ x5_2
         ·rw [if_pos c38] at H
          have c38b0 := eq_true c38
          have c38b1 : decide (0 ≤ x5_2) = true := decide_eq_true c38
          clear c38
          by_cases c39 : x5_2 ≤ (x3_1.length : Int)
          ·rw [if_pos c39] at H
           have c39b0 := eq_true c39
           have c39b1 : decide (x5_2 ≤ (x3_1.length : Int)) = true := decide_eq_true c39
           clear c39
           obtain ⟨y728, hy728, H⟩ := bindO_ H
           have Ny728 := am hy728
           clear hy728
           by_cases c40 : y725.length + y728.length < 2513169434916
           ·rw [if_pos c40] at H
            have LMc40 := am c40
            clear c40
            obtain ⟨y732, hy732, H⟩ := bindO_ H
            have Ny732 := am hy732
            clear hy732
            obtain ⟨y735, hy735, H⟩ := bindO_ H
            have Ny735 := am hy735
            clear hy735
            have c41b0 := eq_true (of_decide_eq_true (by (with_reducible assumption)) : 0 ≤ x5_2)
            have c42b0 := eq_true (of_decide_eq_true (by (with_reducible assumption)) : x5_2 ≤ (x3_1.length : Int))
            obtain ⟨y738, hy738, H⟩ := bindO_ H
            have Ny738 := am hy738
            clear hy738
            by_cases c43 : y735.length + y738.length < 2513169434916
            ·rw [if_pos c43] at H
             have LMc43 := am c43
             clear c43
             obtain ⟨y742, hy742, H⟩ := bindO_ H
             have Ny742 := am hy742
             clear hy742
             by_cases c44 : y742.length + y732.length < 2513169434916
             ·rw [if_pos c44] at H
              have LMc44 := am c44
              clear c44
              obtain ⟨y745, hy745⟩ : ∃ y_ : List (S128), y_ = (y742 ++ y732) := ⟨_, rfl⟩
              replace H : (spec_l7Sorted.l0 k2 l0 y745 (wrap64 (x4_1 + 1))) = some r := by (rw [hy745]; with_reducible exact H)
              have Ny745 := am hy745
              clear hy745
              have H' := am H
              clear H
              try go_wp2
              replace HO_3 := am (Kd.R_drew HO_3.out)
              replace HB := am (below_drew1 HB.out)
              refine start_ (n := 15) (S := fun w' => True) (ds := []) #[false, false, false, false, false, false, false, false, false, false, false, false, false, false, false] (by kernel_rfl) rfl rfl trivial (fun hHeld => ?_); refine with_tabW spec_l7Sorted.tab6 spec_l7Sorted.bits6 (fun HT_ HW_ => ?_)
              generalize wr.drew = w45 at HO_3 HB hHeld ⊢
              refine pure_ (i := 0) (N := some 16) (v := ?_) (a' := ?_) #[true, false, false, false, false, false, false, false, false, false, false, false, false, false, false] rfl rfl (any_of HT_.out (by kernel_rfl)) (fun _ _ _ h => h) (Or.inl ⟨rfl, ?_⟩) ?_ ?_
              rotate_left
              ·intro w'
               go_simp
               with_reducible rfl
              rotate_left
              ·simp only [Act.put, s2_, s0_, s1_, i64_w, i32_w]
               rfl
              refine pure_ (i := 1) (N := some 17) (v := ?_) (a' := ?_) #[true, true, false, false, false, false, false, false, false, false, false, false, false, false, false] rfl rfl (any_of HT_.out (by kernel_rfl)) (fun _ _ _ h => h) (Or.inl ⟨rfl, ?_⟩) ?_ ?_
              rotate_left
              ·intro w'
               go_simp
               with_reducible rfl
              rotate_left
              ·simp only [Act.put, s2_, s0_, s1_, i64_w, i32_w]
               rfl
              refine pure_ (i := 2) (N := some 18) (v := ?_) (a' := ?_) #[true, true, true, false, false, false, false, false, false, false, false, false, false, false, false] rfl rfl (any_of HT_.out (by kernel_rfl)) (fun _ _ _ h => h) (Or.inl ⟨rfl, ?_⟩) ?_ ?_
              rotate_left
              ·intro w'
               go_simp
               with_reducible rfl
              rotate_left
              ·simp only [Act.put, s2_, s0_, s1_, i64_w, i32_w]
               rfl
              refine pure_ (i := 3) (N := some 19) (v := undef) (a' := ?_) #[true, true, true, true, false, false, false, false, false, false, false, false, false, false, false] rfl rfl (any_of HT_.out (by kernel_rfl)) (fun _ _ _ h => h) (Or.inr ⟨rfl, rfl⟩) ?_ ?_
              rotate_left
              ·simp only [Act.put, s2_, s0_, s1_, i64_w, i32_w]
               rfl
              refine pure_ (i := 4) (N := some 20) (v := undef) (a' := ?_) #[true, true, true, true, true, false, false, false, false, false, false, false, false, false, false] rfl rfl (any_of HT_.out (by kernel_rfl)) (fun _ _ _ h => h) (Or.inr ⟨rfl, rfl⟩) ?_ ?_
              rotate_left
              ·simp only [Act.put, s2_, s0_, s1_, i64_w, i32_w]
               rfl
              refine pure_ (i := 5) (N := some 21) (v := undef) (a' := ?_) #[true, true, true, true, true, true, false, false, false, false, false, false, false, false, false] rfl rfl (any_of HT_.out (by kernel_rfl)) (fun _ _ _ h => h) (Or.inr ⟨rfl, rfl⟩) ?_ ?_
              rotate_left
              ·simp only [Act.put, s2_, s0_, s1_, i64_w, i32_w]
               rfl
              refine pure_ (i := 6) (N := some 22) (v := undef) (a' := ?_) #[true, true, true, true, true, true, true, false, false, false, false, false, false, false, false] rfl rfl (any_of HT_.out (by kernel_rfl)) (fun _ _ _ h => h) (Or.inr ⟨rfl, rfl⟩) ?_ ?_
              rotate_left
              ·simp only [Act.put, s2_, s0_, s1_, i64_w, i32_w]
               rfl
              refine pure_ (i := 7) (N := some 23) (v := undef) (a' := ?_) #[true, true, true, true, true, true, true, true, false, false, false, false, false, false, false] rfl rfl (any_of HT_.out (by kernel_rfl)) (fun _ _ _ h => h) (Or.inr ⟨rfl, rfl⟩) ?_ ?_
              rotate_left
              ·simp only [Act.put, s2_, s0_, s1_, i64_w, i32_w]
               rfl
              refine pure_ (i := 8) (N := some 24) (v := undef) (a' := ?_) #[true, true, true, true, true, true, true, true, true, false, false, false, false, false, false] rfl rfl (any_of HT_.out (by kernel_rfl)) (fun _ _ _ h => h) (Or.inr ⟨rfl, rfl⟩) ?_ ?_
              rotate_left
              ·simp only [Act.put, s2_, s0_, s1_, i64_w, i32_w]
               rfl
              refine pure_ (i := 9) (N := some 25) (v := undef) (a' := ?_) #[true, true, true, true, true, true, true, true, true, true, false, false, false, false, false] rfl rfl (any_of HT_.out (by kernel_rfl)) (fun _ _ _ h => h) (Or.inr ⟨rfl, rfl⟩) ?_ ?_
              rotate_left
              ·simp only [Act.put, s2_, s0_, s1_, i64_w, i32_w]
               rfl
              refine pure_ (i := 10) (N := some 26) (v := undef) (a' := ?_) #[true, true, true, true, true, true, true, true, true, true, true, false, false, false, false] rfl rfl (any_of HT_.out (by kernel_rfl)) (fun _ _ _ h => h) (Or.inr ⟨rfl, rfl⟩) ?_ ?_
              rotate_left
              ·simp only [Act.put, s2_, s0_, s1_, i64_w, i32_w]
               rfl
              refine pure_ (i := 11) (N := some 27) (v := undef) (a' := ?_) #[true, true, true, true, true, true, true, true, true, true, true, true, false, false, false] rfl rfl (any_of HT_.out (by kernel_rfl)) (fun _ _ _ h => h) (Or.inr ⟨rfl, rfl⟩) ?_ ?_
              rotate_left
              ·simp only [Act.put, s2_, s0_, s1_, i64_w, i32_w]
               rfl
              refine pure_ (i := 12) (N := some 28) (v := undef) (a' := ?_) #[true, true, true, true, true, true, true, true, true, true, true, true, true, false, false] rfl rfl (any_of HT_.out (by kernel_rfl)) (fun _ _ _ h => h) (Or.inr ⟨rfl, rfl⟩) ?_ ?_
              rotate_left
              ·simp only [Act.put, s2_, s0_, s1_, i64_w, i32_w]
               rfl
              refine pure_ (i := 13) (N := some 29) (v := undef) (a' := ?_) #[true, true, true, true, true, true, true, true, true, true, true, true, true, true, false] rfl rfl (any_of HT_.out (by kernel_rfl)) (fun _ _ _ h => h) (Or.inr ⟨rfl, rfl⟩) ?_ ?_
              rotate_left
              ·simp only [Act.put, s2_, s0_, s1_, i64_w, i32_w]
               rfl
              refine pure_ (i := 14) (N := some 30) (v := ?_) (a' := ?_) #[true, true, true, true, true, true, true, true, true, true, true, true, true, true, true] rfl rfl (any_of HT_.out (by kernel_rfl)) (fun _ _ _ h => h) (Or.inl ⟨rfl, ?_⟩) ?_ ?_
              rotate_left
              ·intro w'
               go_simp
               with_reducible rfl
              rotate_left
              ·simp only [Act.put, s2_, s0_, s1_, i64_w, i32_w]
               rfl
              refine done_ (done_of HT_.out (by kernel_rfl)) ?_
              try go_wp2
              replace HO_3 := am (Kd.R_drew HO_3.out)
              replace HB := am (below_drew1 HB.out)
              have p724 : 0 ≤ (x4_1 : Int) := of_decide_eq_true (by (with_reducible assumption))
              have q724 : x4_1 < (l0.length : Int) := of_decide_eq_true (by (with_reducible assumption))
              obtain ⟨ad724, e724, hx724_0, hx724_1, hx724_2, hx724_3, hx724_4, hx724_5, hx724_6⟩ := at_T128 HR0.out x4_1 p724 q724
              have hw724_6 := hx724_6
              have hw724_5 := hx724_5
              have hw724_4 := hx724_4
              have hw724_3 := hx724_3
              have hw724_2 := hx724_2
              have hw724_1 := hx724_1
              have hw724_0 := hx724_0
              cases e724
              replace hx724_0 := bc_ HB.out hx724_0
              replace hx724_1 := bc_ HB.out hx724_1
              replace hx724_2 := bc_ HB.out hx724_2
              replace hx724_3 := bc_ HB.out hx724_3
              replace hx724_4 := bc_ HB.out hx724_4
              replace hx724_5 := bc_ HB.out hx724_5
              replace hx724_6 := bc_ HB.out hx724_6
              replace p724 := eq_true p724
              replace q724 := eq_true q724
              have q47 : (x5_2 : Int) ≤ ((x3_1.length : Int) : Int) := of_decide_eq_true (by (with_reducible assumption))
              obtain ⟨i047, hi047, _, hsz47, _⟩ := info_parts info128
              have hroom47 : x3_1.length ≤ co5 := (Kd.R_reads' HO_3.out).2.1
              have hC47 : Kd.C k128 _ Ao5 x3_1.length x3_1 := (Kd.R_reads' HO_3.out).2.2
              have q047 : (0 : Int) ≤ (x5_2 : Int) := of_decide_eq_true (by (with_reducible assumption))
              have hcut47 := cut_from (P := Try.prog) 33 128 .i64 Try.underlying33 hi047 7 hsz47 Ao5 x3_1.length co5 x5_2 q047 q47
              have hr47 := Kd.C_drop (m := (x5_2 : Int).toNat) (c := co5) hC47 (by omega) hroom47
              obtain ⟨A47, hA47⟩ : ∃ A1, A1 = (if co5 = (x5_2 : Int).toNat then Ao5 else (Ao5 : Option Addr).map (·.add ((x5_2 : Int).toNat * 7))) := ⟨_, rfl⟩
              obtain ⟨c47, hc47⟩ : ∃ c1, c1 = co5 - (x5_2 : Int).toNat := ⟨_, rfl⟩
              have hy47 : y728.length = x3_1.length - (x5_2 : Int).toNat := (by rw [Ny728.out, List.length_drop] <;> omega)
              rw [show (x3_1).drop (x5_2 : Int).toNat = y728 from Ny728.out.symm] at hr47
              replace hr47 : Kd.C k128 _ A47 y728.length y728 := (by rw [hA47]; exact hr47)
              rw [← hy47, ← hA47, ← hc47] at hcut47
              have HR731 := am hr47
              have HC731 := am (show y728.length ≤ c47 from by rw [hy47, hc47]; exact Nat.sub_le_sub_right hroom47 _)
              clear hr47 hC47 hroom47 hi047 hsz47 hc47
              have KY47 := am hy47
              have KA47 := am hA47
              clear hy47 hA47
              have KL47 := am (show (x5_2 : Int).toNat ≤ x3_1.length from by omega)
              replace q47 := eq_true q47
              refine start_ (n := 10) (S := fun w' => w'.cell? (ad724.add ((x4_1).toNat * 7)) = some (.int .i64 ((rd_T128 l0 x4_1).f0.f0)) ∧ w'.cell? ⟨(ad724.add ((x4_1).toNat * 7)).block, (ad724.add ((x4_1).toNat * 7)).off + 1, none⟩ = some (.int .i64 ((rd_T128 l0 x4_1).f0.f1)) ∧ w'.cell? ⟨(ad724.add ((x4_1).toNat * 7)).block, (ad724.add ((x4_1).toNat * 7)).off + 2, none⟩ = some (.int .i64 ((rd_T128 l0 x4_1).f0.f2)) ∧ w'.cell? ⟨(ad724.add ((x4_1).toNat * 7)).block, (ad724.add ((x4_1).toNat * 7)).off + 3, none⟩ = some (.int .i64 ((rd_T128 l0 x4_1).f1.f0)) ∧ w'.cell? ⟨(ad724.add ((x4_1).toNat * 7)).block, (ad724.add ((x4_1).toNat * 7)).off + 4, none⟩ = some (.int .i64 ((rd_T128 l0 x4_1).f1.f1)) ∧ w'.cell? ⟨(ad724.add ((x4_1).toNat * 7)).block, (ad724.add ((x4_1).toNat * 7)).off + 5, none⟩ = some (.int .i64 ((rd_T128 l0 x4_1).f1.f2)) ∧ w'.cell? ⟨(ad724.add ((x4_1).toNat * 7)).block, (ad724.add ((x4_1).toNat * 7)).off + 6, none⟩ = some (.bool ((rd_T128 l0 x4_1).f2))) (ds := []) #[false, false, false, false, false, false, false, false, false, false] (by kernel_rfl) rfl rfl ⟨(bc_ HB.out hw724_0), (bc_ HB.out hw724_1), (bc_ HB.out hw724_2), (bc_ HB.out hw724_3), (bc_ HB.out hw724_4), (bc_ HB.out hw724_5), (bc_ HB.out hw724_6)⟩ (fun hHeld => ?_); refine with_tabW spec_l7Sorted.tab8 spec_l7Sorted.bits8 (fun HT_ HW_ => ?_)
              generalize w45.drew = w46 at HO_3 HB HR731 hx724_0 hx724_1 hx724_2 hx724_3 hx724_4 hx724_5 hx724_6 hHeld ⊢
              refine pure_ (i := 0) (N := some 33) (v := ?_) (a' := ?_) #[true, false, false, false, false, false, false, false, false, false] rfl rfl (any_of HT_.out (by kernel_rfl)) (fun _ _ _ h => h) (Or.inl ⟨rfl, ?_⟩) ?_ ?_
              rotate_left
              ·intro w'
               go_simp
               with_reducible rfl
              rotate_left
              ·simp only [Act.put, s2_, s0_, s1_, i64_w, i32_w]
               rfl
              refine pure_ (i := 1) (N := some 34) (v := ?_) (a' := ?_) #[true, true, false, false, false, false, false, false, false, false] rfl rfl (any_of HT_.out (by kernel_rfl)) (fun _ _ _ h => h) (Or.inl ⟨rfl, ?_⟩) ?_ ?_
              rotate_left
              ·intro w'
               go_simp
               with_reducible rfl
              rotate_left
              ·simp only [Act.put, s2_, s0_, s1_, i64_w, i32_w]
               rfl
              refine pure_ (i := 2) (N := some 35) (v := ?_) (a' := ?_) #[true, true, true, false, false, false, false, false, false, false] rfl rfl (any_of HT_.out (by kernel_rfl)) (fun _ _ _ h => h) (Or.inl ⟨rfl, ?_⟩) ?_ ?_
              rotate_left
              ·intro w'
               go_simp
               with_reducible rfl
              rotate_left
              ·simp only [Act.put, s2_, s0_, s1_, i64_w, i32_w]
               rfl
              refine pure_ (i := 5) (N := some 38) (v := ?_) (a' := ?_) #[true, true, true, false, false, true, false, false, false, false] rfl rfl (any_of HT_.out (by kernel_rfl)) (fun _ _ _ h => h) (Or.inl ⟨rfl, ?_⟩) ?_ ?_
              rotate_left
              ·intro w'
               go_simp
               with_reducible rfl
              rotate_left
              ·simp only [Act.put, s2_, s0_, s1_, i64_w, i32_w]
               rfl
              refine pure_ (i := 6) (N := some 39) (v := ?_) (a' := ?_) #[true, true, true, false, false, true, true, false, false, false] rfl rfl (any_of HT_.out (by kernel_rfl)) (fun _ _ _ h => h) (Or.inl ⟨rfl, ?_⟩) ?_ ?_
              rotate_left
              ·intro w'
               go_simp
               with_reducible rfl
              rotate_left
              ·simp only [Act.put, s2_, s0_, s1_, i64_w, i32_w]
               rfl
              refine pure_ (i := 7) (N := some 40) (v := ?_) (a' := ?_) #[true, true, true, false, false, true, true, true, false, false] rfl rfl (any_of HT_.out (by kernel_rfl)) (fun _ _ _ h => h) (Or.inl ⟨rfl, ?_⟩) ?_ ?_
              rotate_left
              ·intro w'
               go_simp
               with_reducible rfl
              rotate_left
              ·simp only [Act.put, s2_, s0_, s1_, i64_w, i32_w]
               rfl
              refine take_ (i := 3) (N := some 36) (v := ?_) (a' := ?_) #[true, true, true, true, false, true, true, true, false, false] rfl rfl (take_ofW HT_.out HW_.out (by kernel_rfl)) (fun _ _ _ h => h) (Or.inl ⟨rfl, ?_⟩) hHeld ?_ ?_
              rotate_left
              ·rintro w' ⟨s0, s1, s2, s3, s4, s5, s6⟩
               go_simp
               with_reducible rfl
              rotate_left
              ·simp only [Act.put, s2_, s0_, s1_, i64_w, i32_w]
               rfl
              refine one_ (i := 4) (N := some 37) #[true, true, true, true, true, true, true, true, false, false] rfl rfl (one_of HT_.out (by kernel_rfl)) (by decide) (fun K hK => ?_)
              refine Kd.R_lit_step k128 _ 128 ?hg (N := 37) ?hd (xs := ([(⟨(⟨(rd_T128 l0 x4_1).f0.f0, (rd_T128 l0 x4_1).f0.f1, (rd_T128 l0 x4_1).f0.f2⟩ : S60), (⟨(rd_T128 l0 x4_1).f1.f0, (rd_T128 l0 x4_1).f1.f1, (rd_T128 l0 x4_1).f1.f2⟩ : S60), (rd_T128 l0 x4_1).f2⟩ : S128)] : List (S128))) (inner := [.int .i64 ((rd_T128 l0 x4_1).f0.f0), .int .i64 ((rd_T128 l0 x4_1).f0.f1), .int .i64 ((rd_T128 l0 x4_1).f0.f2), .int .i64 ((rd_T128 l0 x4_1).f1.f0), .int .i64 ((rd_T128 l0 x4_1).f1.f1), .int .i64 ((rd_T128 l0 x4_1).f1.f2), .bool ((rd_T128 l0 x4_1).f2)]) (ok := fun _ => True) (okp := fun _ => True) ?hr ?hp (fun _ hk => hk) trivial (Below.refl _ _) (Nat.le_refl _) (by simp) ?_; (case hd => rfl); (case hg => rfl); (case hr => (go_simp; done)); (case hp => exact (Reps.c7 (show Kd.M k128 _ _ _ (⟨(⟨(rd_T128 l0 x4_1).f0.f0, (rd_T128 l0 x4_1).f0.f1, (rd_T128 l0 x4_1).f0.f2⟩ : S60), (⟨(rd_T128 l0 x4_1).f1.f0, (rd_T128 l0 x4_1).f1.f1, (rd_T128 l0 x4_1).f1.f2⟩ : S60), (rd_T128 l0 x4_1).f2⟩ : S128) [.int .i64 ((rd_T128 l0 x4_1).f0.f0), .int .i64 ((rd_T128 l0 x4_1).f0.f1), .int .i64 ((rd_T128 l0 x4_1).f0.f2), .int .i64 ((rd_T128 l0 x4_1).f1.f0), .int .i64 ((rd_T128 l0 x4_1).f1.f1), .int .i64 ((rd_T128 l0 x4_1).f1.f2), .bool ((rd_T128 l0 x4_1).f2)] from (k128_mkM _ _ _ (⟨(⟨(rd_T128 l0 x4_1).f0.f0, (rd_T128 l0 x4_1).f0.f1, (rd_T128 l0 x4_1).f0.f2⟩ : S60), (⟨(rd_T128 l0 x4_1).f1.f0, (rd_T128 l0 x4_1).f1.f1, (rd_T128 l0 x4_1).f1.f2⟩ : S60), (rd_T128 l0 x4_1).f2⟩ : S128))) (Reps.none _ _)))
              intro v726 w48 ho49 hb hg_ hnew_
              clear hg_ hnew_
              (rw [← Ny725.out] at ho49)
              have HO727 := am (Kd.R_lower (Kd.R_new' ho49 (Kd.R_lt HO_3.out)) (below_size HB.out))
              replace HO_3 := am (Kd.R_elder' HO_3.out (Kd.R_base ho49) hb)
              replace HR731 := am (Kd.C_below HR731.out hb)
              replace HB := am (below_step HB.out hb)
              clear hb ho49
              refine hK.out _ _ ⟨(bc_ HB.out hw724_0), (bc_ HB.out hw724_1), (bc_ HB.out hw724_2), (bc_ HB.out hw724_3), (bc_ HB.out hw724_4), (bc_ HB.out hw724_5), (bc_ HB.out hw724_6)⟩ (fun hHeld => ?_)
              clear hK K
              refine norm_ (a' := ?_) ?_ ?_
              rotate_left
              ·show Act.put _ (some 37) _ = _
               simp only [Act.put, s2_, s0_, s1_, i64_w, i32_w]
               rfl
              refine one_ (i := 8) (N := some 41) #[true, true, true, true, true, true, true, true, true, false] rfl rfl (one_of HT_.out (by kernel_rfl)) (by decide) (fun K hK => ?_)
              refine Kd.R_append_rows_step k128 (w0 := w) w.heap.size rfl (.tmp 37) (.tmp 40) 33 128 (.agg #[(.int .i64 0), (.int .i64 0), (.int .i64 0), (.int .i64 0), (.int .i64 0), (.int .i64 0), (.bool false)]) 56 rfl Try.underlying33 info128 rfl (by decide) (by omega) v726 y725 y728 _ _ _ (fun k_ => some k_ ≠ (.slice Ao5 x3_1.length co5 : Value).ownBlock) (fun _ => False) rfl rfl ?aO ?aR (fun _ _ h => h) (fun _ h => h.elim) ?aF ?aB ?aS ?aL ?_
              (case aR => repeat (exact HR731.out))
              (case aB => exact HB.out)
              (case aF => exact (fun k_ hk => Kd.fresh' (Kd.R_lt HO_3.out) k_ hk))
              (case aO => exact (by exact Kd.R_mono HO727.out (fun _ hk => hk.2)))
              (case aS => exact (below_size HB.out))
              (case aL => have := LMc40.out; omega)
              intro v733 w50 ho hb hg hat
              rw [← Ny732.out] at ho
              replace HB := am (hb)
              replace HR731 := am ((show Kd.C k128 w50 A47 y728.length y728 from by rw [Ny728.out, KA47.out]; exact Kd.C_drop (m := (x5_2 : Int).toNat) (c := co5) ((Kd.R_reads' (Kd.R_after (ok := (fun _ => True)) HO_3.out hg hat)).2.2) KL47.out ((Kd.R_reads' (Kd.R_after (ok := (fun _ => True)) HO_3.out hg hat)).2.1)))
              replace HO_3 := am (Kd.R_after (ok := (fun _ => True)) HO_3.out hg hat)
              have HO734 := am (ho)
              clear HO727 ho hb hg hat
              refine hK.out _ _ ⟨(bc_ HB.out hw724_0), (bc_ HB.out hw724_1), (bc_ HB.out hw724_2), (bc_ HB.out hw724_3), (bc_ HB.out hw724_4), (bc_ HB.out hw724_5), (bc_ HB.out hw724_6)⟩ (fun hHeld => ?_)
              clear hK K
              refine norm_ (a' := ?_) ?_ ?_
              rotate_left
              ·show Act.put _ (some 41) _ = _
               simp only [Act.put, s2_, s0_, s1_, i64_w, i32_w]
               rfl
              refine pure_ (i := 9) (N := some 6) (v := ?_) (a' := ?_) #[true, true, true, true, true, true, true, true, true, true] rfl rfl (any_of HT_.out (by kernel_rfl)) (fun _ _ _ h => h) (Or.inl ⟨rfl, ?_⟩) ?_ ?_
              rotate_left
              ·intro w'
               go_simp
               with_reducible rfl
              rotate_left
              ·simp only [Act.put, s2_, s0_, s1_, i64_w, i32_w]
               rfl
              refine done_ (done_of HT_.out (by kernel_rfl)) ?_
              try go_wp2_with (first | ((with_reducible refine gate_dst (N := 42) rfl ?_); refine Kd.R_lit k128 _ 128 ?hg (N := 42) ?hd (xs := ([] : List (S128))) (inner := []) (ok := fun _ => True) (okp := fun _ => True) ?hr ?hp (fun _ hk => hk) trivial (Below.refl _ _) (Nat.le_refl _) (by simp) ?_; (case hd => rfl); (case hg => rfl); (case hr => (go_simp; done)); (case hp => exact (Reps.none _ _)); intro v736 w51 ho52 hb hg_ hnew_; clear hg_ hnew_; (rw [← Ny735.out] at ho52); have HO737 := am (Kd.R_lower (Kd.R_new' (Kd.R_new' ho52 (Kd.R_lt HO_3.out)) (Kd.R_lt HO734.out)) (below_size HB.out)); replace HO_3 := am (Kd.R_elder' HO_3.out (Kd.R_base ho52) hb); replace HO734 := am (Kd.R_elder' HO734.out (Kd.R_base ho52) hb); replace HR731 := am (Kd.C_below HR731.out hb); replace HB := am (below_step HB.out hb); clear hb ho52; have q53 : (x5_2 : Int) ≤ ((x3_1.length : Int) : Int) := of_decide_eq_true (by (with_reducible assumption)); obtain ⟨i053, hi053, _, hsz53, _⟩ := info_parts info128; have hroom53 : x3_1.length ≤ co5 := (Kd.R_reads' HO_3.out).2.1; have hC53 : Kd.C k128 _ Ao5 x3_1.length x3_1 := (Kd.R_reads' HO_3.out).2.2; have hcut53 := cut_to (P := Try.prog) 33 128 .i64 Try.underlying33 hi053 Ao5 x3_1.length co5 x5_2 (of_decide_eq_true (by (with_reducible assumption))) q53 hroom53; have hr53 := Kd.C_take (m := (x5_2 : Int).toNat) hC53 (by omega); have hy53 : y738.length = (x5_2 : Int).toNat := (by rw [Ny738.out, List.length_take]; omega); rw [← Ny738.out] at hr53; rw [← hy53] at hcut53; have HR741 := am hr53; have HC741 := am (show y738.length ≤ co5 from by omega); clear hr53 hC53 hroom53 hi053 hsz53; have KY53 := am hy53; clear hy53; have KL53 := am (show (x5_2 : Int).toNat ≤ x3_1.length from by omega); replace q53 := eq_true q53) | ((with_reducible refine gate_builtin (b := .append) (xs := #[.tmp 42, .tmp 45]) rfl ?_); at_builtin; refine Kd.R_append_rows k128 (w0 := w) w.heap.size rfl (.tmp 42) (.tmp 45) 33 128 (.agg #[(.int .i64 0), (.int .i64 0), (.int .i64 0), (.int .i64 0), (.int .i64 0), (.int .i64 0), (.bool false)]) 56 rfl Try.underlying33 info128 rfl (by decide) (by omega) v736 y735 y738 _ _ _ (fun k_ => some k_ ≠ (.slice Ao5 x3_1.length co5 : Value).ownBlock ∧ some k_ ≠ (v733 : Value).ownBlock) (fun _ => False) rfl rfl ?aO ?aR (fun _ _ h => h) (fun _ h => h.elim) ?aF ?aB ?aS ?aL ?_; (case aR => repeat (exact HR741.out)); (case aB => exact HB.out); (case aF => exact (fun k_ hk => ⟨Kd.fresh' (Kd.R_lt HO_3.out) k_ hk, Kd.fresh' (Kd.R_lt HO734.out) k_ hk⟩)); (case aO => exact (by exact Kd.R_mono HO737.out (fun _ hk => ⟨hk.1.2, hk.2⟩))); (case aS => exact (below_size HB.out)); (case aL => have := LMc43.out; omega); intro v743 w54 ho hb hg hat; rw [← Ny742.out] at ho; replace HO734 := am (Kd.R_after (ok := (fun k_ => some k_ ≠ (.slice Ao5 x3_1.length co5 : Value).ownBlock)) HO734.out hg hat); replace HB := am (hb); replace HR731 := am ((show Kd.C k128 w54 A47 y728.length y728 from by rw [Ny728.out, KA47.out]; exact Kd.C_drop (m := (x5_2 : Int).toNat) (c := co5) ((Kd.R_reads' (Kd.R_after (ok := (fun k_ => some k_ ≠ (v733 : Value).ownBlock)) (by exact Kd.R_mono HO_3.out (fun _ hk => ⟨hk.1.2, hk.2⟩)) hg hat)).2.2) KL47.out ((Kd.R_reads' (Kd.R_after (ok := (fun k_ => some k_ ≠ (v733 : Value).ownBlock)) (by exact Kd.R_mono HO_3.out (fun _ hk => ⟨hk.1.2, hk.2⟩)) hg hat)).2.1))); replace HR741 := am ((show Kd.C k128 w54 Ao5 y738.length y738 from by rw [Ny738.out]; exact Kd.C_take (m := (x5_2 : Int).toNat) ((Kd.R_reads' (Kd.R_after (ok := (fun k_ => some k_ ≠ (v733 : Value).ownBlock)) (by exact Kd.R_mono HO_3.out (fun _ hk => ⟨hk.1.2, hk.2⟩)) hg hat)).2.2) KL53.out)); replace HO_3 := am (Kd.R_after (ok := (fun k_ => some k_ ≠ (v733 : Value).ownBlock)) (by exact Kd.R_mono HO_3.out (fun _ hk => ⟨hk.1.2, hk.2⟩)) hg hat); have HO744 := am (ho); clear HO737 ho hb hg hat; obtain ⟨Ao56, co56, eo56⟩ := Kd.R_slice HO734.out; subst eo56) | ((with_reducible refine gate_builtin (b := .append) (xs := #[.tmp 46, .tmp 47]) rfl ?_); at_builtin; refine Kd.R_append_rows k128 (w0 := w) w.heap.size rfl (.tmp 46) (.tmp 47) 33 128 (.agg #[(.int .i64 0), (.int .i64 0), (.int .i64 0), (.int .i64 0), (.int .i64 0), (.int .i64 0), (.bool false)]) 56 rfl Try.underlying33 info128 rfl (by decide) (by omega) v743 y742 y732 _ _ _ (fun k_ => some k_ ≠ (.slice Ao5 x3_1.length co5 : Value).ownBlock ∧ some k_ ≠ (.slice Ao56 y732.length co56 : Value).ownBlock) (fun _ => False) rfl rfl ?aO ?aR (fun _ _ h => h) (fun _ h => h.elim) ?aF ?aB ?aS ?aL ?_; (case aR => repeat (exact (Kd.R_reads' HO734.out).2.2)); (case aB => exact HB.out); (case aF => exact (fun k_ hk => ⟨Kd.fresh' (Kd.R_lt HO_3.out) k_ hk, Kd.fresh' (Kd.R_lt HO734.out) k_ hk⟩)); (case aO => exact HO744.out); (case aS => exact (below_size HB.out)); (case aL => have := LMc44.out; omega); intro v746 w55 ho hb hg hat; rw [← Ny745.out] at ho; replace HO734 := am (Kd.R_after (ok := (fun k_ => some k_ ≠ (.slice Ao5 x3_1.length co5 : Value).ownBlock)) HO734.out hg hat); replace HB := am (hb); replace HR731 := am ((show Kd.C k128 w55 A47 y728.length y728 from by rw [Ny728.out, KA47.out]; exact Kd.C_drop (m := (x5_2 : Int).toNat) (c := co5) ((Kd.R_reads' (Kd.R_after (ok := (fun k_ => some k_ ≠ (.slice Ao56 y732.length co56 : Value).ownBlock)) HO_3.out hg hat)).2.2) KL47.out ((Kd.R_reads' (Kd.R_after (ok := (fun k_ => some k_ ≠ (.slice Ao56 y732.length co56 : Value).ownBlock)) HO_3.out hg hat)).2.1))); replace HR741 := am ((show Kd.C k128 w55 Ao5 y738.length y738 from by rw [Ny738.out]; exact Kd.C_take (m := (x5_2 : Int).toNat) ((Kd.R_reads' (Kd.R_after (ok := (fun k_ => some k_ ≠ (.slice Ao56 y732.length co56 : Value).ownBlock)) HO_3.out hg hat)).2.2) KL53.out)); replace HO_3 := am (Kd.R_after (ok := (fun k_ => some k_ ≠ (.slice Ao56 y732.length co56 : Value).ownBlock)) HO_3.out hg hat); have HO747 := am (ho); clear HO744 ho hb hg hat))
              go_roundg k2
              case measure => have := HK1.out; have := HK2.out; omega
              case rel => exact ⟨(y745), (wrap64 (x4_1 + 1)), rfl, H', ⟨by have := HK1.out; have := HK2.out; omega⟩, ⟨by exact Kd.R_mono HO747.out (fun _ hk => trivial)⟩, ⟨HB.out⟩⟩
             ·rw [if_neg c44] at H
              exact absurd H (by simp)
            ·rw [if_neg c43] at H
             exact absurd H (by simp)
           ·rw [if_neg c40] at H
            exact absurd H (by simp)
          ·rw [if_neg c39] at H
           exact absurd H (by simp)
         ·rw [if_neg c38] at H
          exact absurd H (by simp)
        ·rw [if_neg c37] at H
         exact absurd H (by simp)
       ·rw [if_neg c36] at H
        exact absurd H (by simp)
   ·rw [if_neg c4] at H
    have c4b0 : decide (x4_1 < (l0.length : Int)) = false := decide_eq_false c4
    clear c4
    obtain rfl := Option.some.inj H
    go_wp2
    go_ret
    exact ⟨_, rfl, HO_3.out, HB.out⟩

end Go.Proofs.Ytobndcjmjhehjaa.P
