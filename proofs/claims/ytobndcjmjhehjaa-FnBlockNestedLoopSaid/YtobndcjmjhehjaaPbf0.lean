/- For every code the law FnBlockNestedLoop of the given program returns true and leaves its argument as it was; no condition. -/
import Derived.Test.YtobndcjmjhehjaaPbb
namespace Go.Proofs.Ytobndcjmjhehjaa.P
open Go.RowKit Go.Proofs.YtobndcjmjhehjaaW.PrintWords Go.Proofs.YtobndcjmjhehjaaW.PrintLast Go.Proofs.YtobndcjmjhehjaaW.PrintMore
attribute [local go_sem] max2_int min2_int max_two min_two max_three min_three max_four min_four   -- for this text's walks alone
set_option linter.unusedVariables false
set_option linter.unusedSimpArgs false
set_option maxHeartbeats 8000000
set_option maxRecDepth 100000
def laws_big.f (l0 : List Int) : Option (Bool) := some (decide ((l0.length : Int) > 1048576))
theorem laws_big.calls (A0 : Option Addr) (c0 : Nat) (l0 : List Int) (r : Bool) (w : World) (hr0 : Kd.C (Kd.int .u8) w A0 l0.length l0) (hc0 : l0.length ≤ c0) (h : laws_big.f l0 = some r) :
  Calls Try.prog 16 #[.slice A0 l0.length c0] w fun e w' => e = .returned (.bool r) ∧ Drawn0 w w' := by
 have HR0 := am hr0
 have HC0 := am hc0
 clear hr0 hc0
 have H : (some (decide ((l0.length : Int) > 1048576))) = some r := h
 clear h
 obtain rfl := Option.some.inj H
 go_enter Try.func16, Try.ntmps16
 go_wp2
 go_ret
 exact ⟨rfl, by repeat (exact Drawn0.refl _)⟩

end Go.Proofs.Ytobndcjmjhehjaa.P
namespace Go.Proofs.Ytobndcjmjhehjaa.P
open Go.RowKit Go.Proofs.YtobndcjmjhehjaaW.PrintWords Go.Proofs.YtobndcjmjhehjaaW.PrintLast Go.Proofs.YtobndcjmjhehjaaW.PrintMore
attribute [local go_sem] max2_int min2_int max_two min_two max_three min_three max_four min_four   -- for this text's walks alone
set_option linter.unusedVariables false
set_option linter.unusedSimpArgs false

/-- A state of type 163 at block g of W; what its slices lead to came in by w0. -/
def IsS163 (w0 W : World) (g : Nat) (f0 : List Int) (f1 : Int) (f2 : Int) : Prop := ∃ A0 c0, W.heap[g]? = some (.cells #[.slice A0 f0.length c0, .int .i64 f1, .int .i64 f2] 163 (0, 0)) ∧ w0.heap.size ≤ g ∧ Kd.C (Kd.int .u8) w0 A0 f0.length f0
theorem IsS163.grown {w0 W : World} {g : Nat} {f0 : List Int} {f1 : Int} {f2 : Int} {W1 : World} {row : Option Nat} (h : IsS163 w0 W g f0 f1 f2) (hw : W.grownBy W1 row) (hne : some g ≠ row) : IsS163 w0 W1 g f0 f1 f2 := by
 obtain ⟨A0, c0, hb, hg, hr0⟩ := h
 exact ⟨A0, c0, blk_grown hb hw hne, hg, hr0⟩
theorem IsS163.own_neN {w0 W : World} {g : Nat} {f0 : List Int} {f1 : Int} {f2 : Int} {α : Type} {d : Kd α} {e : Nat} {base : Nat} {ok : Nat → Prop} {v : Value} {xs : List α} (h : IsS163 w0 W g f0 f1 f2) (ho : Kd.N d e W base ok v xs) (ht : e ≠ 163) : some g ≠ v.ownBlock := by
 obtain ⟨A0, c0, hb, hg, hr0⟩ := h
 exact Kd.N_ne ho hb ht
theorem IsS163.fresh {w0 W : World} {g : Nat} {f0 : List Int} {f1 : Int} {f2 : Int} (h : IsS163 w0 W g f0 f1 f2) : ∀ k, W.heap.size ≤ k → k ≠ g := by
 obtain ⟨A0, c0, hb, hg, hr0⟩ := h
 exact Kd.freshB hb
theorem IsS163.kept {w0 W : World} {g : Nat} {f0 : List Int} {f1 : Int} {f2 : Int} {W1 : World} {S : Nat → Prop} (h : IsS163 w0 W g f0 f1 f2) (hk : Kept W W1 S) (hne : ¬ S g) : IsS163 w0 W1 g f0 f1 f2 := by
 obtain ⟨A0, c0, hb, hg, hr0⟩ := h
 exact ⟨A0, c0, blk_kept hb hk hne, hg, hr0⟩
theorem IsS163.below {w0 W : World} {g : Nat} {f0 : List Int} {f1 : Int} {f2 : Int} {W1 : World} (h : IsS163 w0 W g f0 f1 f2) (hw : Below W.heap.size W W1) : IsS163 w0 W1 g f0 f1 f2 := h.grown (grown_of_below hw none) (by simp)
theorem IsS163.alloc {w0 W : World} {g : Nat} {f0 : List Int} {f1 : Int} {f2 : Int} (h : IsS163 w0 W g f0 f1 f2) (o : Obj) : IsS163 w0 (W.alloc o) g f0 f1 f2 := h.below (below_alloc (Below.refl _ _) o)
theorem IsS163.drewN {w0 W : World} {g : Nat} {f0 : List Int} {f1 : Int} {f2 : Int} (h : IsS163 w0 W g f0 f1 f2) (m : Nat) : IsS163 w0 (W.drewN m) g f0 f1 f2 := h
theorem IsS163.drew {w0 W : World} {g : Nat} {f0 : List Int} {f1 : Int} {f2 : Int} (h : IsS163 w0 W g f0 f1 f2) : IsS163 w0 W.drew g f0 f1 f2 := h
theorem IsS163.at_ {w0 W : World} {g : Nat} {f0 : List Int} {f1 : Int} {f2 : Int} {w' : World} {m : Nat} (hq : W.drewN m = w') (h : IsS163 w0 W g f0 f1 f2) : IsS163 w0 w' g f0 f1 f2 := by subst hq; exact IsS163.drewN h m
theorem IsS163.apart {w0 W : World} {g : Nat} {f0 : List Int} {f1 : Int} {f2 : Int} {α : Type} {d : Kd α} {e : Nat} {base : Nat} {ok : Nat → Prop} {v : Value} {xs : List α} (h : IsS163 w0 W g f0 f1 f2) (ho : d.R e W base ok v xs) (ht : ∀ q, q ∈ e :: d.E → q ≠ 163) : d.R e W base (fun k => ok k ∧ k ≠ g) v xs := by
 obtain ⟨A0, c0, hb, hg, hr0⟩ := h
 exact Kd.R_types ho hb ht
theorem IsS163.own_ne {w0 W : World} {g : Nat} {f0 : List Int} {f1 : Int} {f2 : Int} {α : Type} {d : Kd α} {e : Nat} {base : Nat} {ok : Nat → Prop} {v : Value} {xs : List α} (h : IsS163 w0 W g f0 f1 f2) (ho : d.R e W base ok v xs) (ht : e ≠ 163) : some g ≠ v.ownBlock := by
 obtain ⟨A0, c0, hb, hg, hr0⟩ := h
 exact Kd.R_ne ho hb ht
theorem IsS163.apartQ {w0 W : World} {g : Nat} {f0 : List Int} {f1 : Int} {f2 : Int} {α : Type} {d : Kd α} {e : Nat} {base : Nat} {ok : Nat → Prop} {v : Value} {xs : List α} (h : IsS163 w0 W g f0 f1 f2) (ho : d.Q e W base ok v xs) (ht : ∀ q, q ∈ e :: d.E → q ≠ 163) : d.Q e W base (fun k => ok k ∧ k ≠ g) v xs := by
 obtain ⟨A0, c0, hb, hg, hr0⟩ := h
 exact Kd.Q_types ho hb ht
theorem IsS163.own_neQ {w0 W : World} {g : Nat} {f0 : List Int} {f1 : Int} {f2 : Int} {α : Type} {d : Kd α} {e : Nat} {base : Nat} {ok : Nat → Prop} {v : Value} {xs : List α} (h : IsS163 w0 W g f0 f1 f2) (ho : d.Q e W base ok v xs) (ht : e ≠ 163) : some g ≠ v.ownBlock := by
 obtain ⟨A0, c0, hb, hg, hr0⟩ := h
 exact Kd.Q_ne ho hb ht
theorem IsS163.apartS {w0 W : World} {g : Nat} {f0 : List Int} {f1 : Int} {f2 : Int} {α : Type} {d : Kd α} {e : Nat} {base : Nat} {ok : Nat → Prop} {v : Value} {xs : List α} (h : IsS163 w0 W g f0 f1 f2) (ho : d.S e W base ok v xs) (ht : ∀ q, q ∈ e :: d.E → q ≠ 163) : d.S e W base (fun k => ok k ∧ k ≠ g) v xs := by
 obtain ⟨A0, c0, hb, hg, hr0⟩ := h
 exact Kd.S_types ho hb ht
theorem IsS163.own_neS {w0 W : World} {g : Nat} {f0 : List Int} {f1 : Int} {f2 : Int} {α : Type} {d : Kd α} {e : Nat} {base : Nat} {ok : Nat → Prop} {v : Value} {xs : List α} (h : IsS163 w0 W g f0 f1 f2) (ho : d.S e W base ok v xs) (ht : e ≠ 163) : some g ≠ v.ownBlock := by
 obtain ⟨A0, c0, hb, hg, hr0⟩ := h
 exact Kd.S_ne ho hb ht
theorem IsS163.lt {w0 W : World} {g : Nat} {f0 : List Int} {f1 : Int} {f2 : Int} (h : IsS163 w0 W g f0 f1 f2) : g < W.heap.size := by
 obtain ⟨A0, c0, hb, hg, hr0⟩ := h
 exact blk_lt hb
theorem IsS163.ge {w0 W : World} {g : Nat} {f0 : List Int} {f1 : Int} {f2 : Int} (h : IsS163 w0 W g f0 f1 f2) : w0.heap.size ≤ g := by
 obtain ⟨A0, c0, hb, hg, hr0⟩ := h
 exact hg
theorem IsS163.ne_blk {w0 W : World} {g : Nat} {f0 : List Int} {f1 : Int} {f2 : Int} {a : Nat} {cs : Array Value} {t : TypeId} {fr : Nat × Nat} (h : IsS163 w0 W g f0 f1 f2) (hb2 : W.heap[a]? = some (.cells cs t fr)) (ht : t ≠ 163) : g ≠ a := by
 obtain ⟨A0, c0, hb, hg, hr0⟩ := h
 rintro rfl
 rw [hb] at hb2
 injection hb2 with hb2
 injection hb2 with _ ht2
 exact ht ht2.symm
theorem IsS163.far {w0 W : World} {g : Nat} {f0 : List Int} {f1 : Int} {f2 : Int} {p : Addr} (h : IsS163 w0 W g f0 f1 f2) (hne : g ≠ p.block) (u : Value) : IsS163 w0 (W.setCell p u) g f0 f1 f2 := by
 obtain ⟨A0, c0, hb, hg, hr0⟩ := h
 exact ⟨A0, c0, blk_far hb hne u, hg, hr0⟩
theorem cellS163_0 {W : World} {g : Nat} {A0 : Option Addr} {c0 : Nat} {f0 : List Int} {f1 : Int} {f2 : Int} (h : W.heap[g]? = some (.cells #[.slice A0 f0.length c0, .int .i64 f1, .int .i64 f2] 163 (0, 0))) : W.cell? ⟨g, 0, none⟩ = some (.slice A0 f0.length c0) := (blk_cell h 0).trans rfl
theorem cellS163_1 {W : World} {g : Nat} {A0 : Option Addr} {c0 : Nat} {f0 : List Int} {f1 : Int} {f2 : Int} (h : W.heap[g]? = some (.cells #[.slice A0 f0.length c0, .int .i64 f1, .int .i64 f2] 163 (0, 0))) : W.cell? ⟨g, 1, none⟩ = some (.int .i64 f1) := (blk_cell h 1).trans rfl
theorem IsS163.set_1 {w0 W : World} {g : Nat} {f0 : List Int} {f1 : Int} {f2 : Int} (h : IsS163 w0 W g f0 f1 f2) (x : Int) : IsS163 w0 (W.setCell ⟨g, 1, none⟩ (.int .i64 x)) g f0 x f2 := by
 obtain ⟨A0, c0, hb, hg, hr0⟩ := h
 exact ⟨A0, c0, by simpa using blk_set hb 1 (.int .i64 x), hg, hr0⟩
theorem cellS163_2 {W : World} {g : Nat} {A0 : Option Addr} {c0 : Nat} {f0 : List Int} {f1 : Int} {f2 : Int} (h : W.heap[g]? = some (.cells #[.slice A0 f0.length c0, .int .i64 f1, .int .i64 f2] 163 (0, 0))) : W.cell? ⟨g, 2, none⟩ = some (.int .i64 f2) := (blk_cell h 2).trans rfl
theorem IsS163.set_2 {w0 W : World} {g : Nat} {f0 : List Int} {f1 : Int} {f2 : Int} (h : IsS163 w0 W g f0 f1 f2) (x : Int) : IsS163 w0 (W.setCell ⟨g, 2, none⟩ (.int .i64 x)) g f0 f1 x := by
 obtain ⟨A0, c0, hb, hg, hr0⟩ := h
 exact ⟨A0, c0, by simpa using blk_set hb 2 (.int .i64 x), hg, hr0⟩
theorem IsS163.new (w0 W : World) (A0 : Option Addr) (c0 : Nat) (f0 : List Int) (f1 : Int) (f2 : Int) (hB : Below w0.heap.size w0 W) (hr0 : Kd.C (Kd.int .u8) w0 A0 f0.length f0) : IsS163 w0 (W.alloc (.cells #[.slice A0 f0.length c0, .int .i64 f1, .int .i64 f2] 163)) W.heap.size f0 f1 f2 := ⟨A0, c0, by simpa using heap_alloc_new W _, hB.size, hr0⟩
set_option maxHeartbeats 8000000
set_option maxRecDepth 100000
def spec_l1New.l0 : Nat → List Int → Int → Int → Option (List Int × Int × Int)
 | 0, _, _, _ => none
 | k + 1, x0, x3, x4 => if x4 < (x0.length : Int) then (if x4 < 4000 then (if 0 ≤ x4 then (spec_l1New.l0 k x0 (Go.bits .and .i64 (wrap64 ((wrap64 ((wrap64 (x3 * 131)) + (wrap64 (rd x0 x4)))) + 7)) 1073741823) (wrap64 (x4 + 1))) else (none)) else (some (x0, 0, x3))) else (some (x0, 0, x3))
def spec_l1New.f (k : Nat) (l0 : List Int) : Option (List Int × Int × Int) := spec_l1New.l0 k l0 (wrap64 (10101 + (l0.length : Int))) 0
theorem spec_l1New.calls (k : Nat) (A0 : Option Addr) (c0 : Nat) (l0 : List Int) (r1 : List Int) (r2 : Int) (r3 : Int) (w0 w : World) (hB : Below w0.heap.size w0 w) (hr0 : Kd.C (Kd.int .u8) w0 A0 l0.length l0) (hc0 : l0.length ≤ c0) (h : spec_l1New.f k l0 = some (r1, r2, r3)) :
  Calls Try.prog 108 #[.slice A0 l0.length c0] w fun e w' => ∃ g_ : Nat, e = .returned (.pointer (some ⟨g_, 0, none⟩)) ∧ IsS163 w0 w' g_ r1 r2 r3 ∧ Below w0.heap.size w0 w' ∧ Below w.heap.size w w' := by
 have hu163 := Try.underlying163
 have HR0 := am hr0
 have HC0 := am hc0
 clear hr0 hc0
 have HBW := am (Below.refl w.heap.size w)
 have HW0 := am hB.size
 have HB := am hB
 clear hB
 have H : (spec_l1New.l0 k l0 (wrap64 (10101 + (l0.length : Int))) 0) = some (r1, r2, r3) := h
 clear h
 have H' := am H
 clear H
 go_enter Try.func108, Try.ntmps108
 go_wp2
 go_loopg [3, 4] k (fun kq v3 v4 w' => ∃ (x3_1 : Int) (x4_1 : Int), v3 = .int .i64 x3_1 ∧ v4 = .int .i64 x4_1 ∧ Aside0 (spec_l1New.l0 kq l0 x3_1 x4_1 = some (r1, r2, r3)) ∧ Aside0 (kq ≤ k) ∧ Aside0 (Below w0.heap.size w0 w') ∧ Aside0 (Below w.heap.size w w'))
 case atStart => exact ⟨(wrap64 (10101 + (l0.length : Int))), (0), rfl, rfl, H', ⟨Nat.le_refl _⟩, ⟨HB.out⟩, ⟨HBW.out⟩⟩
 case round =>
  clear H'
  obtain ⟨x3_1, x4_1, rfl, rfl, HA, HK1, HB, HBW⟩ := hrel
  cases gk with
  | zero => exact absurd HA.out (by simp [spec_l1New.l0])
  | succ k1 =>
   have H := HA.out
   clear HA
   simp only [spec_l1New.l0] at H
   by_cases c2 : x4_1 < (l0.length : Int)
   ·rw [if_pos c2] at H
    have c2b0 : decide (x4_1 < (l0.length : Int)) = true := decide_eq_true c2
    clear c2
    by_cases c3 : x4_1 < 4000
    ·rw [if_pos c3] at H
     have c3b0 : decide (x4_1 < 4000) = true := decide_eq_true c3
     clear c3
     by_cases c4 : 0 ≤ x4_1
     ·rw [if_pos c4] at H
      have c4b0 : decide (0 ≤ x4_1) = true := decide_eq_true c4
      clear c4
      have H' := am H
      clear H
      have p101 : 0 ≤ (x4_1 : Int) := of_decide_eq_true (by (with_reducible assumption))
      have q101 : x4_1 < (l0.length : Int) := of_decide_eq_true (by (with_reducible assumption))
      obtain ⟨ad101, e101, hx101_0⟩ := Kd.at_int HR0.out x4_1 p101 q101
      cases e101
      replace hx101_0 := pw_cell_below HB.out hx101_0
      replace p101 := eq_true p101
      replace q101 := eq_true q101
      go_wp2
      go_roundg k1
      case measure => have := HK1.out; omega
      case rel => exact ⟨(Go.bits .and .i64 (wrap64 ((wrap64 ((wrap64 (x3_1 * 131)) + (wrap64 (rd l0 x4_1)))) + 7)) 1073741823), (wrap64 (x4_1 + 1)), rfl, rfl, H', ⟨by have := HK1.out; omega⟩, ⟨HB.out⟩, ⟨HBW.out⟩⟩
     ·rw [if_neg c4] at H
      exact absurd H (by simp)
    ·rw [if_neg c3] at H
     have c3b0 : decide (x4_1 < 4000) = false := decide_eq_false c3
     clear c3
     simp only [Option.some.injEq, Prod.mk.injEq] at H
     obtain ⟨rfl, rfl, rfl⟩ := H
     go_wp2_with (((with_reducible refine gate_dst (N := 31) rfl ?_); refine box_event ?hg (N := 31) ?hd (cs := #[.slice A0 l0.length c0, .int .i64 0, .int .i64 x3_1]) (t := 163) ?hr ?_; (case hd => rfl); (case hg => rfl); (case hr => (go_simp; done)); intro gb102 hg w5 hbox hb; replace HB := am (below_step HB.out hb); have BK102 := am (hbox); have GW102 := am ((by rw [hg]; exact (below_size HBW.out) : w.heap.size ≤ gb102)); have GE102 := am ((Nat.le_trans HW0.out (by rw [hg]; exact (below_size HBW.out) : w.heap.size ≤ gb102) : w0.heap.size ≤ gb102)); replace HBW := am (below_step HBW.out hb); clear hb hbox hg))
     go_ret
     exact ⟨_, rfl, (show IsS163 w0 _ gb102 l0 0 x3_1 from ⟨_, _, BK102.out, GE102.out, HR0.out⟩), HB.out, HBW.out⟩
   ·rw [if_neg c2] at H
    have c2b0 : decide (x4_1 < (l0.length : Int)) = false := decide_eq_false c2
    clear c2
    simp only [Option.some.injEq, Prod.mk.injEq] at H
    obtain ⟨rfl, rfl, rfl⟩ := H
    go_wp2_with (((with_reducible refine gate_dst (N := 31) rfl ?_); refine box_event ?hg (N := 31) ?hd (cs := #[.slice A0 l0.length c0, .int .i64 0, .int .i64 x3_1]) (t := 163) ?hr ?_; (case hd => rfl); (case hg => rfl); (case hr => (go_simp; done)); intro gb103 hg w6 hbox hb; replace HB := am (below_step HB.out hb); have BK103 := am (hbox); have GW103 := am ((by rw [hg]; exact (below_size HBW.out) : w.heap.size ≤ gb103)); have GE103 := am ((Nat.le_trans HW0.out (by rw [hg]; exact (below_size HBW.out) : w.heap.size ≤ gb103) : w0.heap.size ≤ gb103)); replace HBW := am (below_step HBW.out hb); clear hb hbox hg))
    go_ret
    exact ⟨_, rfl, (show IsS163 w0 _ gb103 l0 0 x3_1 from ⟨_, _, BK103.out, GE103.out, HR0.out⟩), HB.out, HBW.out⟩

end Go.Proofs.Ytobndcjmjhehjaa.P
namespace Go.Proofs.Ytobndcjmjhehjaa.P
open Go.RowKit Go.Proofs.YtobndcjmjhehjaaW.PrintWords Go.Proofs.YtobndcjmjhehjaaW.PrintLast Go.Proofs.YtobndcjmjhehjaaW.PrintMore
attribute [local go_sem] max2_int min2_int max_two min_two max_three min_three max_four min_four   -- for this text's walks alone
set_option linter.unusedVariables false
set_option linter.unusedSimpArgs false
set_option maxHeartbeats 8000000
set_option maxRecDepth 100000
def spec_l1Byte.f (s0_0 : List Int) (s0_1 : Int) (s0_2 : Int) : Option (Int × Int × Int) := if s0_1 < (s0_0.length : Int) then (if 0 ≤ s0_1 then (some (Go.bits .and .i64 (wrap64 ((Go.bits .and .i64 (Go.bits .xor .i64 ((wrap64 ((wrap64 (s0_2 * 6364136223846793005)) + 1442695040888963407)) / 8589934592) ((wrap64 ((wrap64 (s0_2 * 6364136223846793005)) + 1442695040888963407)) / 35184372088832)) 255) + (wrap64 (rd s0_0 s0_1)))) 255, wrap64 (s0_1 + 1), wrap64 ((wrap64 (s0_2 * 6364136223846793005)) + 1442695040888963407))) else (none)) else (some (Go.bits .and .i64 (Go.bits .xor .i64 ((wrap64 ((wrap64 (s0_2 * 6364136223846793005)) + 1442695040888963407)) / 8589934592) ((wrap64 ((wrap64 (s0_2 * 6364136223846793005)) + 1442695040888963407)) / 35184372088832)) 255, s0_1, wrap64 ((wrap64 (s0_2 * 6364136223846793005)) + 1442695040888963407)))
theorem spec_l1Byte.calls (g : Nat) (s0_0 : List Int) (s0_1 : Int) (s0_2 : Int) (r1 : Int) (r2 : Int) (r3 : Int) (w0 w : World) (hI : IsS163 w0 w g s0_0 s0_1 s0_2) (hB : Below w0.heap.size w0 w) (h : spec_l1Byte.f s0_0 s0_1 s0_2 = some (r1, r2, r3)) :
  Calls Try.prog 191 #[.pointer (some ⟨g, 0, none⟩)] w fun e w' => e = .returned (.int .i64 r1) ∧ IsS163 w0 w' g s0_0 r2 r3 ∧ Below w0.heap.size w0 w' ∧ KeepBut w w' g none := by
 have HI0 := am hI
 have HK := am (KeepBut.refl w g none)
 have HL := am hB.size
 clear hI
 have HW0 := am hB.size
 have HB := am hB
 clear hB
 have H : (if s0_1 < (s0_0.length : Int) then (if 0 ≤ s0_1 then (some (Go.bits .and .i64 (wrap64 ((Go.bits .and .i64 (Go.bits .xor .i64 ((wrap64 ((wrap64 (s0_2 * 6364136223846793005)) + 1442695040888963407)) / 8589934592) ((wrap64 ((wrap64 (s0_2 * 6364136223846793005)) + 1442695040888963407)) / 35184372088832)) 255) + (wrap64 (rd s0_0 s0_1)))) 255, wrap64 (s0_1 + 1), wrap64 ((wrap64 (s0_2 * 6364136223846793005)) + 1442695040888963407))) else (none)) else (some (Go.bits .and .i64 (Go.bits .xor .i64 ((wrap64 ((wrap64 (s0_2 * 6364136223846793005)) + 1442695040888963407)) / 8589934592) ((wrap64 ((wrap64 (s0_2 * 6364136223846793005)) + 1442695040888963407)) / 35184372088832)) 255, s0_1, wrap64 ((wrap64 (s0_2 * 6364136223846793005)) + 1442695040888963407)))) = some (r1, r2, r3) := h
 clear h
 by_cases c2 : s0_1 < (s0_0.length : Int)
 ·rw [if_pos c2] at H
  have c2b0 : decide (s0_1 < (s0_0.length : Int)) = true := decide_eq_true c2
  clear c2
  by_cases c3 : 0 ≤ s0_1
  ·rw [if_pos c3] at H
   have c3b0 : decide (0 ≤ s0_1) = true := decide_eq_true c3
   clear c3
   simp only [Option.some.injEq, Prod.mk.injEq] at H
   obtain ⟨rfl, rfl, rfl⟩ := H
   obtain ⟨ASz4_0, cSz4_0, HGz4, hgz4, HSz4_0⟩ := HI0.out
   have hcz4_0 := cellS163_0 HGz4
   have hcz4_1 := cellS163_1 HGz4
   have hcz4_2 := cellS163_2 HGz4
   have hfz4_1 := blk_frozen HGz4 1
   have hfz4_2 := blk_frozen HGz4 2
   clear HGz4 hgz4
   have p104 : 0 ≤ (s0_1 : Int) := of_decide_eq_true (by (with_reducible assumption))
   have q104 : s0_1 < (s0_0.length : Int) := of_decide_eq_true (by (with_reducible assumption))
   obtain ⟨ad104, e104, hx104_0⟩ := Kd.at_int HSz4_0 s0_1 p104 q104
   cases e104
   have hn104_0 : ad104.block ≠ g := Nat.ne_of_lt (Nat.lt_of_lt_of_le (by have := World.block_lt_of_cell? _ _ hx104_0; rwa [add_block] at this) (IsS163.ge HI0.out))
   replace hx104_0 := pw_cell_below HB.out hx104_0
   replace hx104_0 := (cell_far (p := ⟨g, 2, none⟩) (by (rw [add_block]; exact hn104_0)) (.int .i64 (wrap64 ((wrap64 (s0_2 * 6364136223846793005)) + 1442695040888963407)))).trans hx104_0
   (try have hy104_0 := fun (n_ : Nat) => (show (((w.drewN n_).setCell ⟨g, 2, none⟩ (.int .i64 (wrap64 ((wrap64 (s0_2 * 6364136223846793005)) + 1442695040888963407))))).cell? _ = some _ from hx104_0))
   clear hn104_0
   replace p104 := eq_true p104
   replace q104 := eq_true q104
   go_enter Try.func191, Try.ntmps191
   go_wp2
   repeat (go_quiet (fail); try go_wp2)
   go_ret
   exact ⟨rfl, by repeat ((with_reducible first | exact HI0.out | apply IsS163.drewN | apply IsS163.set_1 | apply IsS163.set_2)), by repeat ((with_reducible first | exact HB.out | apply pw_below_drewN | refine below_set ?_ (IsS163.ge HI0.out))), by repeat ((with_reducible first | exact HK.out | apply KeepBut.set_ | apply keep_drewN))⟩
  ·rw [if_neg c3] at H
   exact absurd H (by simp)
 ·rw [if_neg c2] at H
  have c2b0 : decide (s0_1 < (s0_0.length : Int)) = false := decide_eq_false c2
  clear c2
  simp only [Option.some.injEq, Prod.mk.injEq] at H
  obtain ⟨rfl, rfl, rfl⟩ := H
  obtain ⟨ASz5_0, cSz5_0, HGz5, hgz5, HSz5_0⟩ := HI0.out
  have hcz5_0 := cellS163_0 HGz5
  have hcz5_1 := cellS163_1 HGz5
  have hcz5_2 := cellS163_2 HGz5
  have hfz5_1 := blk_frozen HGz5 1
  have hfz5_2 := blk_frozen HGz5 2
  clear HGz5 hgz5
  go_enter Try.func191, Try.ntmps191
  go_wp2
  repeat (go_quiet (fail); try go_wp2)
  go_ret
  exact ⟨rfl, by repeat ((with_reducible first | exact HI0.out | apply IsS163.drewN | apply IsS163.set_2)), by repeat ((with_reducible first | exact HB.out | apply pw_below_drewN | refine below_set ?_ (IsS163.ge HI0.out))), by repeat ((with_reducible first | exact HK.out | apply KeepBut.set_ | apply keep_drewN))⟩

def spec_l1Below.f (s0_0 : List Int) (s0_1 : Int) (s0_2 : Int) (a1 : Int) : Option (Int × Int × Int) := if a1 ≤ 0 then (some (0, s0_1, s0_2)) else (if a1 ≤ 256 then ((spec_l1Byte.f s0_0 s0_1 s0_2).bind fun bt105 => (if a1 = 0 then (none) else (some (Int.tmod bt105.1 a1, bt105.2.1, bt105.2.2)))) else ((spec_l1Byte.f s0_0 s0_1 s0_2).bind fun bt108 => ((spec_l1Byte.f s0_0 bt108.2.1 bt108.2.2).bind fun bt111 => ((spec_l1Byte.f s0_0 bt111.2.1 bt111.2.2).bind fun bt114 => ((spec_l1Byte.f s0_0 bt114.2.1 bt114.2.2).bind fun bt117 => (if a1 = 0 then (none) else (some (Int.tmod (wrap64 ((wrap64 ((wrap64 ((wrap64 (bt108.1 * 16777216)) + (wrap64 (bt111.1 * 65536)))) + (wrap64 (bt114.1 * 256)))) + bt117.1)) a1, bt117.2.1, bt117.2.2))))))))
theorem spec_l1Below.calls (g : Nat) (s0_0 : List Int) (s0_1 : Int) (s0_2 : Int) (a1 : Int) (r1 : Int) (r2 : Int) (r3 : Int) (w0 w : World) (hI : IsS163 w0 w g s0_0 s0_1 s0_2) (hB : Below w0.heap.size w0 w) (h : spec_l1Below.f s0_0 s0_1 s0_2 a1 = some (r1, r2, r3)) :
  Calls Try.prog 177 #[.pointer (some ⟨g, 0, none⟩), .int .i64 a1] w fun e w' => e = .returned (.int .i64 r1) ∧ IsS163 w0 w' g s0_0 r2 r3 ∧ Below w0.heap.size w0 w' ∧ KeepBut w w' g none := by
 have HI0 := am hI
 have HK := am (KeepBut.refl w g none)
 have HL := am hB.size
 clear hI
 have HW0 := am hB.size
 have HB := am hB
 clear hB
 have H : (if a1 ≤ 0 then (some (0, s0_1, s0_2)) else (if a1 ≤ 256 then ((spec_l1Byte.f s0_0 s0_1 s0_2).bind fun bt105 => (if a1 = 0 then (none) else (some (Int.tmod bt105.1 a1, bt105.2.1, bt105.2.2)))) else ((spec_l1Byte.f s0_0 s0_1 s0_2).bind fun bt108 => ((spec_l1Byte.f s0_0 bt108.2.1 bt108.2.2).bind fun bt111 => ((spec_l1Byte.f s0_0 bt111.2.1 bt111.2.2).bind fun bt114 => ((spec_l1Byte.f s0_0 bt114.2.1 bt114.2.2).bind fun bt117 => (if a1 = 0 then (none) else (some (Int.tmod (wrap64 ((wrap64 ((wrap64 ((wrap64 (bt108.1 * 16777216)) + (wrap64 (bt111.1 * 65536)))) + (wrap64 (bt114.1 * 256)))) + bt117.1)) a1, bt117.2.1, bt117.2.2))))))))) = some (r1, r2, r3) := h
 clear h
 by_cases c3 : a1 ≤ 0
 ·rw [if_pos c3] at H
  have c3b0 : decide (a1 ≤ 0) = true := decide_eq_true c3
  clear c3
  simp only [Option.some.injEq, Prod.mk.injEq] at H
  obtain ⟨rfl, rfl, rfl⟩ := H
  go_enter Try.func177, Try.ntmps177
  go_wp2
  go_ret
  exact ⟨rfl, HI0.out, HB.out, HK.out⟩
 ·rw [if_neg c3] at H
  have c3b0 : decide (a1 ≤ 0) = false := decide_eq_false c3
  clear c3
  by_cases c4 : a1 ≤ 256
  ·rw [if_pos c4] at H
   have c4b0 : decide (a1 ≤ 256) = true := decide_eq_true c4
   clear c4
   replace H := Option.bind_eq_some_iff.mp H
   obtain ⟨⟨t105, t106, t107⟩, A50, H⟩ := H
   have A5 := am A50
   clear A50
   by_cases c6 : a1 = 0
   ·rw [if_pos c6] at H
    exact absurd H (by simp)
   ·rw [if_neg c6] at H
    have c6b0 : (a1 == 0) = false := beq_eq_false_iff_ne.mpr c6
    have c6b1 : (a1 != 0) = true := bne_iff_ne.mpr c6
    simp only [Option.some.injEq, Prod.mk.injEq] at H
    obtain ⟨rfl, rfl, rfl⟩ := H
    go_enter Try.func177, Try.ntmps177
    go_wp2_with (((with_reducible refine gate_callee (f := 191) rfl ?_); refine goesL_ (some 14) rfl rfl Try.func191 (by kernel_rfl) rfl #[.pointer (some ⟨g, 0, none⟩)] rfl (by (try simp only [List.map_toArray, List.map_cons, List.map_nil]); rfl) ?_; (with_reducible refine (spec_l1Byte.calls g s0_0 s0_1 s0_2 t105 t106 t107 w0 _ ?side1 ?side2 A5.out).mono ?_); (case side1 => repeat (with_reducible exact HI0.out)); (case side2 => repeat (with_reducible exact HB.out)); rintro e w7 ⟨rfl, hi, hb, hk⟩; refine ⟨_, rfl, ?_⟩; replace HK := am (KeepBut.trans HK.out hk (.inl rfl)); replace HB := am (hb); replace HI0 := am (hi); (try clear hb); (try clear hk); (try clear hi)))
    go_ret
    exact ⟨rfl, HI0.out, HB.out, HK.out⟩
  ·rw [if_neg c4] at H
   have c4b0 : decide (a1 ≤ 256) = false := decide_eq_false c4
   clear c4
   replace H := Option.bind_eq_some_iff.mp H
   obtain ⟨⟨t108, t109, t110⟩, A80, H⟩ := H
   have A8 := am A80
   clear A80
   replace H := Option.bind_eq_some_iff.mp H
   obtain ⟨⟨t111, t112, t113⟩, A90, H⟩ := H
   have A9 := am A90
   clear A90
   replace H := Option.bind_eq_some_iff.mp H
   obtain ⟨⟨t114, t115, t116⟩, A100, H⟩ := H
   have A10 := am A100
   clear A100
   replace H := Option.bind_eq_some_iff.mp H
   obtain ⟨⟨t117, t118, t119⟩, A110, H⟩ := H
   have A11 := am A110
   clear A110
   by_cases c12 : a1 = 0
   ·rw [if_pos c12] at H
    exact absurd H (by simp)
   ·rw [if_neg c12] at H
    have c12b0 : (a1 == 0) = false := beq_eq_false_iff_ne.mpr c12
    have c12b1 : (a1 != 0) = true := bne_iff_ne.mpr c12
    simp only [Option.some.injEq, Prod.mk.injEq] at H
    obtain ⟨rfl, rfl, rfl⟩ := H
    go_enter Try.func177, Try.ntmps177
    go_wp2_with (first | ((with_reducible refine gate_callee (f := 191) rfl ?_); refine goesL_ (some 18) rfl rfl Try.func191 (by kernel_rfl) rfl #[.pointer (some ⟨g, 0, none⟩)] rfl (by (try simp only [List.map_toArray, List.map_cons, List.map_nil]); rfl) ?_; (with_reducible refine (spec_l1Byte.calls g s0_0 s0_1 s0_2 t108 t109 t110 w0 _ ?side1 ?side2 A8.out).mono ?_); (case side1 => repeat (with_reducible exact HI0.out)); (case side2 => repeat (with_reducible exact HB.out)); rintro e w13 ⟨rfl, hi, hb, hk⟩; refine ⟨_, rfl, ?_⟩; replace HK := am (KeepBut.trans HK.out hk (.inl rfl)); replace HB := am (hb); replace HI0 := am (hi); (try clear hb); (try clear hk); (try clear hi)) | ((with_reducible refine gate_callee (f := 191) rfl ?_); refine goesL_ (some 20) rfl rfl Try.func191 (by kernel_rfl) rfl #[.pointer (some ⟨g, 0, none⟩)] rfl (by (try simp only [List.map_toArray, List.map_cons, List.map_nil]); rfl) ?_; (with_reducible refine (spec_l1Byte.calls g s0_0 t109 t110 t111 t112 t113 w0 _ ?side1 ?side2 A9.out).mono ?_); (case side1 => repeat (with_reducible exact HI0.out)); (case side2 => repeat (with_reducible exact HB.out)); rintro e w14 ⟨rfl, hi, hb, hk⟩; refine ⟨_, rfl, ?_⟩; replace HK := am (KeepBut.trans HK.out hk (.inl rfl)); replace HB := am (hb); replace HI0 := am (hi); (try clear hb); (try clear hk); (try clear hi)) | ((with_reducible refine gate_callee (f := 191) rfl ?_); refine goesL_ (some 22) rfl rfl Try.func191 (by kernel_rfl) rfl #[.pointer (some ⟨g, 0, none⟩)] rfl (by (try simp only [List.map_toArray, List.map_cons, List.map_nil]); rfl) ?_; (with_reducible refine (spec_l1Byte.calls g s0_0 t112 t113 t114 t115 t116 w0 _ ?side1 ?side2 A10.out).mono ?_); (case side1 => repeat (with_reducible exact HI0.out)); (case side2 => repeat (with_reducible exact HB.out)); rintro e w15 ⟨rfl, hi, hb, hk⟩; refine ⟨_, rfl, ?_⟩; replace HK := am (KeepBut.trans HK.out hk (.inl rfl)); replace HB := am (hb); replace HI0 := am (hi); (try clear hb); (try clear hk); (try clear hi)) | ((with_reducible refine gate_callee (f := 191) rfl ?_); refine goesL_ (some 24) rfl rfl Try.func191 (by kernel_rfl) rfl #[.pointer (some ⟨g, 0, none⟩)] rfl (by (try simp only [List.map_toArray, List.map_cons, List.map_nil]); rfl) ?_; (with_reducible refine (spec_l1Byte.calls g s0_0 t115 t116 t117 t118 t119 w0 _ ?side1 ?side2 A11.out).mono ?_); (case side1 => repeat (with_reducible exact HI0.out)); (case side2 => repeat (with_reducible exact HB.out)); rintro e w16 ⟨rfl, hi, hb, hk⟩; refine ⟨_, rfl, ?_⟩; replace HK := am (KeepBut.trans HK.out hk (.inl rfl)); replace HB := am (hb); replace HI0 := am (hi); (try clear hb); (try clear hk); (try clear hi)))
    go_ret
    exact ⟨rfl, HI0.out, HB.out, HK.out⟩

def spec_l1Once.f (s0_0 : List Int) (s0_1 : Int) (s0_2 : Int) (a1 : Int) : Option (Bool × Int × Int) := (spec_l1Below.f s0_0 s0_1 s0_2 a1).bind fun bt120 => (some ((bt120.1 == 0), bt120.2.1, bt120.2.2))
theorem spec_l1Once.calls (g : Nat) (s0_0 : List Int) (s0_1 : Int) (s0_2 : Int) (a1 : Int) (r1 : Bool) (r2 : Int) (r3 : Int) (w0 w : World) (hI : IsS163 w0 w g s0_0 s0_1 s0_2) (hB : Below w0.heap.size w0 w) (h : spec_l1Once.f s0_0 s0_1 s0_2 a1 = some (r1, r2, r3)) :
  Calls Try.prog 158 #[.pointer (some ⟨g, 0, none⟩), .int .i64 a1] w fun e w' => e = .returned (.bool r1) ∧ IsS163 w0 w' g s0_0 r2 r3 ∧ Below w0.heap.size w0 w' ∧ KeepBut w w' g none := by
 have HI0 := am hI
 have HK := am (KeepBut.refl w g none)
 have HL := am hB.size
 clear hI
 have HW0 := am hB.size
 have HB := am hB
 clear hB
 have H : ((spec_l1Below.f s0_0 s0_1 s0_2 a1).bind fun bt120 => (some ((bt120.1 == 0), bt120.2.1, bt120.2.2))) = some (r1, r2, r3) := h
 clear h
 replace H := Option.bind_eq_some_iff.mp H
 obtain ⟨⟨t120, t121, t122⟩, A30, H⟩ := H
 have A3 := am A30
 clear A30
 simp only [Option.some.injEq, Prod.mk.injEq] at H
 obtain ⟨rfl, rfl, rfl⟩ := H
 go_enter Try.func158, Try.ntmps158
 go_wp2_with (((with_reducible refine gate_callee (f := 177) rfl ?_); refine goesL_ (some 7) rfl rfl Try.func177 (by kernel_rfl) rfl #[.pointer (some ⟨g, 0, none⟩), .int .i64 a1] rfl (by (try simp only [List.map_toArray, List.map_cons, List.map_nil]); rfl) ?_; (with_reducible refine (spec_l1Below.calls g s0_0 s0_1 s0_2 a1 t120 t121 t122 w0 _ ?side1 ?side2 A3.out).mono ?_); (case side1 => repeat (with_reducible exact HI0.out)); (case side2 => repeat (with_reducible exact HB.out)); rintro e w4 ⟨rfl, hi, hb, hk⟩; refine ⟨_, rfl, ?_⟩; replace HK := am (KeepBut.trans HK.out hk (.inl rfl)); replace HB := am (hb); replace HI0 := am (hi); (try clear hb); (try clear hk); (try clear hi)))
 go_ret
 exact ⟨rfl, HI0.out, HB.out, HK.out⟩

def spec_l1PickInt.f (s0_0 : List Int) (s0_1 : Int) (s0_2 : Int) (l1 : List Int) : Option (Int × Int × Int) := (spec_l1Below.f s0_0 s0_1 s0_2 (l1.length : Int)).bind fun bt123 => (if 0 ≤ bt123.1 then (if bt123.1 < (l1.length : Int) then (some (rd l1 bt123.1, bt123.2.1, bt123.2.2)) else (none)) else (none))
theorem spec_l1PickInt.calls (g : Nat) (s0_0 : List Int) (s0_1 : Int) (s0_2 : Int) (A1 : Option Addr) (c1 : Nat) (l1 : List Int) (r1 : Int) (r2 : Int) (r3 : Int) (w0 w : World) (hI : IsS163 w0 w g s0_0 s0_1 s0_2) (hB : Below w0.heap.size w0 w) (hr1 : Kd.C (Kd.int .i64) w A1 l1.length l1) (hc1 : l1.length ≤ c1) (hf1 : ∀ ad, A1 = some ad → 0 < l1.length → ad.block ≠ g) (h : spec_l1PickInt.f s0_0 s0_1 s0_2 l1 = some (r1, r2, r3)) :
  Calls Try.prog 110 #[.pointer (some ⟨g, 0, none⟩), .slice A1 l1.length c1] w fun e w' => e = .returned (.int .i64 r1) ∧ IsS163 w0 w' g s0_0 r2 r3 ∧ Below w0.heap.size w0 w' ∧ KeepBut w w' g none := by
 have HR1 := am hr1
 have HC1 := am hc1
 clear hr1 hc1
 have HI0 := am hI
 have HK := am (KeepBut.refl w g none)
 have HL := am hB.size
 clear hI
 have HW0 := am hB.size
 have HB := am hB
 clear hB
 have H : ((spec_l1Below.f s0_0 s0_1 s0_2 (l1.length : Int)).bind fun bt123 => (if 0 ≤ bt123.1 then (if bt123.1 < (l1.length : Int) then (some (rd l1 bt123.1, bt123.2.1, bt123.2.2)) else (none)) else (none))) = some (r1, r2, r3) := h
 clear h
 replace H := Option.bind_eq_some_iff.mp H
 obtain ⟨⟨t123, t124, t125⟩, A30, H⟩ := H
 have A3 := am A30
 clear A30
 by_cases c4 : 0 ≤ t123
 ·rw [if_pos c4] at H
  have c4b0 : decide (0 ≤ t123) = true := decide_eq_true c4
  clear c4
  by_cases c5 : t123 < (l1.length : Int)
  ·rw [if_pos c5] at H
   have c5b0 : decide (t123 < (l1.length : Int)) = true := decide_eq_true c5
   clear c5
   simp only [Option.some.injEq, Prod.mk.injEq] at H
   obtain ⟨rfl, rfl, rfl⟩ := H
   go_enter Try.func110, Try.ntmps110
   go_wp2_with (((with_reducible refine gate_callee (f := 177) rfl ?_); refine goesL_ (some 9) rfl rfl Try.func177 (by kernel_rfl) rfl #[.pointer (some ⟨g, 0, none⟩), .int .i64 (l1.length : Int)] rfl (by (try simp only [List.map_toArray, List.map_cons, List.map_nil]); rfl) ?_; (with_reducible refine (spec_l1Below.calls g s0_0 s0_1 s0_2 (l1.length : Int) t123 t124 t125 w0 _ ?side1 ?side2 A3.out).mono ?_); (case side1 => repeat (with_reducible exact HI0.out)); (case side2 => repeat (with_reducible exact HB.out)); rintro e w6 ⟨rfl, hi, hb, hk⟩; refine ⟨_, rfl, ?_⟩; replace HK := am (KeepBut.trans HK.out hk (.inl rfl)); replace HB := am (hb); replace HI0 := am (hi); (try clear hb); (try clear hk); (try clear hi); have p126 : 0 ≤ (t123 : Int) := of_decide_eq_true (by (with_reducible assumption)); have q126 : t123 < (l1.length : Int) := of_decide_eq_true (by (with_reducible assumption)); obtain ⟨ad126, e126, hx126_0⟩ := Kd.at_int HR1.out t123 p126 q126; cases e126; replace hx126_0 := keep_cell HK.out hx126_0 (by (rw [add_block]; exact hf1 _ rfl (by omega))); replace p126 := eq_true p126; replace q126 := eq_true q126))
   go_ret
   exact ⟨rfl, HI0.out, HB.out, HK.out⟩
  ·rw [if_neg c5] at H
   exact absurd H (by simp)
 ·rw [if_neg c4] at H
  exact absurd H (by simp)

def spec_l2Row.f (s0_0 : List Int) (s0_1 : Int) (s0_2 : Int) (a1 : Int) : Option (Int × Int × Int × Int × Int) := (spec_l1Below.f s0_0 s0_1 s0_2 a1).bind fun bt128 => ((spec_l1Below.f s0_0 bt128.2.1 bt128.2.2 100).bind fun bt131 => ((spec_l1PickInt.f s0_0 bt131.2.1 bt131.2.2 ([0, 0, 1, 2, 3] : List Int)).bind fun bt137 => (some (bt128.1, bt131.1, bt137.1, bt137.2.1, bt137.2.2))))
theorem spec_l2Row.calls (g : Nat) (s0_0 : List Int) (s0_1 : Int) (s0_2 : Int) (a1 : Int) (r1 : Int) (r2 : Int) (r3 : Int) (r4 : Int) (r5 : Int) (w0 w : World) (hI : IsS163 w0 w g s0_0 s0_1 s0_2) (hB : Below w0.heap.size w0 w) (h : spec_l2Row.f s0_0 s0_1 s0_2 a1 = some (r1, r2, r3, r4, r5)) :
  Calls Try.prog 195 #[.pointer (some ⟨g, 0, none⟩), .int .i64 a1] w fun e w' => e = .returned (.agg #[.int .i64 r1, .int .i64 r2, .int .i64 r3]) ∧ IsS163 w0 w' g s0_0 r4 r5 ∧ Below w0.heap.size w0 w' ∧ KeepBut w w' g none := by
 have hu60 := Try.underlying60
 have HI0 := am hI
 have HK := am (KeepBut.refl w g none)
 have HL := am hB.size
 clear hI
 have HW0 := am hB.size
 have HB := am hB
 clear hB
 have H : ((spec_l1Below.f s0_0 s0_1 s0_2 a1).bind fun bt128 => ((spec_l1Below.f s0_0 bt128.2.1 bt128.2.2 100).bind fun bt131 => ((spec_l1PickInt.f s0_0 bt131.2.1 bt131.2.2 ([0, 0, 1, 2, 3] : List Int)).bind fun bt137 => (some (bt128.1, bt131.1, bt137.1, bt137.2.1, bt137.2.2))))) = some (r1, r2, r3, r4, r5) := h
 clear h
 replace H := Option.bind_eq_some_iff.mp H
 obtain ⟨⟨t128, t129, t130⟩, A30, H⟩ := H
 have A3 := am A30
 clear A30
 replace H := Option.bind_eq_some_iff.mp H
 obtain ⟨⟨t131, t132, t133⟩, A40, H⟩ := H
 have A4 := am A40
 clear A40
 obtain ⟨y134, hy134⟩ : ∃ y_ : List Int, y_ = ([0, 0, 1, 2, 3] : List Int) := ⟨_, rfl⟩
 replace H : ((spec_l1PickInt.f s0_0 t132 t133 y134).bind fun bt137 => (some (t128, t131, bt137.1, bt137.2.1, bt137.2.2))) = some (r1, r2, r3, r4, r5) := by (rw [hy134]; with_reducible exact H)
 have Ny134 := am hy134
 clear hy134
 replace H := Option.bind_eq_some_iff.mp H
 obtain ⟨⟨t137, t138, t139⟩, A50, H⟩ := H
 have A5 := am A50
 clear A50
 simp only [Option.some.injEq, Prod.mk.injEq] at H
 obtain ⟨rfl, rfl, rfl, rfl, rfl⟩ := H
 go_enter Try.func195, Try.ntmps195
 go_wp2_with (first | ((with_reducible refine gate_dst (N := 4) rfl ?_); refine box_event ?hg (N := 4) ?hd (cs := #[.int .i64 0, .int .i64 0, .int .i64 0]) (t := 60) ?hr ?_; (case hd => rfl); (case hg => rfl); (case hr => (go_simp; done)); intro gb127 hg w6 hbox hb; replace HB := am (below_step HB.out hb); have BK127 := am (hbox); have GW127 := am ((by rw [hg]; exact (keep_size (w := w) (g := g) (row := none) HK.out) : w.heap.size ≤ gb127)); have GE127 := am ((Nat.le_trans HW0.out (by rw [hg]; exact (keep_size (w := w) (g := g) (row := none) HK.out) : w.heap.size ≤ gb127) : w0.heap.size ≤ gb127)); replace HK := am (KeepBut.trans HK.out (KeepBut.of_below hb g none) (.inl rfl)); have NB0_127 := am ((by rw [hg]; exact Nat.ne_of_lt (IsS163.lt (show IsS163 w0 _ g s0_0 s0_1 s0_2 from by exact HI0.out)) : g ≠ gb127)); have NB127_0 := am ((by rw [hg]; exact Nat.ne_of_gt (IsS163.lt (show IsS163 w0 _ g s0_0 s0_1 s0_2 from by exact HI0.out)) : gb127 ≠ g)); replace HI0 := am (IsS163.below HI0.out hb); clear hb hbox hg) | ((with_reducible refine gate_callee (f := 177) rfl ?_); refine goesL_ (some 7) rfl rfl Try.func177 (by kernel_rfl) rfl #[.pointer (some ⟨g, 0, none⟩), .int .i64 a1] rfl (by (try simp only [List.map_toArray, List.map_cons, List.map_nil]); rfl) ?_; (with_reducible refine (spec_l1Below.calls g s0_0 s0_1 s0_2 a1 t128 t129 t130 w0 _ ?side1 ?side2 A3.out).mono ?_); (case side1 => repeat (with_reducible exact HI0.out)); (case side2 => repeat (with_reducible exact HB.out)); rintro e w7 ⟨rfl, hi, hb, hk⟩; refine ⟨_, rfl, ?_⟩; replace BK127 := am (KeepBut.blk hk (g' := gb127) (o := .cells #[.int .i64 0, .int .i64 0, .int .i64 0] 60 (0, 0)) BK127.out NB127_0.out (by simp)); replace HK := am (KeepBut.trans HK.out hk (.inl rfl)); replace HB := am (hb); replace HI0 := am (hi); (try clear hb); (try clear hk); (try clear hi)) | ((with_reducible refine gate_callee (f := 177) rfl ?_); refine goesL_ (some 9) rfl rfl Try.func177 (by kernel_rfl) rfl #[.pointer (some ⟨g, 0, none⟩), .int .i64 100] rfl (by (try simp only [List.map_toArray, List.map_cons, List.map_nil]); rfl) ?_; (with_reducible refine (spec_l1Below.calls g s0_0 t129 t130 100 t131 t132 t133 w0 _ ?side1 ?side2 A4.out).mono ?_); (case side1 => repeat (with_reducible exact HI0.out)); (case side2 => repeat (with_reducible exact HB.out)); rintro e w8 ⟨rfl, hi, hb, hk⟩; refine ⟨_, rfl, ?_⟩; replace BK127 := am (KeepBut.blk hk (g' := gb127) (o := .cells #[.int .i64 0, .int .i64 0, .int .i64 0] 60 (0, 0)) BK127.out NB127_0.out (by simp)); replace HK := am (KeepBut.trans HK.out hk (.inl rfl)); replace HB := am (hb); replace HI0 := am (hi); (try clear hb); (try clear hk); (try clear hi)) | ((with_reducible refine gate_dst (N := 11) rfl ?_); refine Kd.R_lit (Kd.int .i64) _ 3 ?hg (N := 11) ?hd (xs := ([0, 0, 1, 2, 3] : List Int)) (inner := [.int .i64 0, .int .i64 0, .int .i64 1, .int .i64 2, .int .i64 3]) (ok := fun _ => True) (okp := fun _ => True) ?hr ?hp (fun _ hk => hk) trivial (Below.refl _ _) (Nat.le_refl _) (by simp) ?_; (case hd => rfl); (case hg => rfl); (case hr => (go_simp; done)); (case hp => exact (Reps.one (show Kd.M (Kd.int .i64) _ _ _ 0 [.int .i64 0] from rfl) (Reps.one (show Kd.M (Kd.int .i64) _ _ _ 0 [.int .i64 0] from rfl) (Reps.one (show Kd.M (Kd.int .i64) _ _ _ 1 [.int .i64 1] from rfl) (Reps.one (show Kd.M (Kd.int .i64) _ _ _ 2 [.int .i64 2] from rfl) (Reps.one (show Kd.M (Kd.int .i64) _ _ _ 3 [.int .i64 3] from rfl) (Reps.none _ _))))))); intro v135 w9 ho10 hb hg_ hnew_; clear hg_ hnew_; (rw [← Ny134.out] at ho10); have HO136 := am (Kd.R_lower ho10 (keep_size (w := w) (g := g) (row := none) HK.out)); replace HI0 := am (IsS163.below HI0.out hb); replace BK127 := am (blk_below BK127.out hb); replace HK := am (KeepBut.trans HK.out (KeepBut.of_below hb g none) (.inl rfl)); replace HB := am (below_step HB.out hb); clear hb ho10; obtain ⟨Ao11, co11, eo11⟩ := Kd.R_slice HO136.out; subst eo11) | ((with_reducible refine gate_callee (f := 110) rfl ?_); refine goesL_ (some 12) rfl rfl Try.func110 (by kernel_rfl) rfl #[.pointer (some ⟨g, 0, none⟩), .slice Ao11 y134.length co11] rfl (by (try simp only [List.map_toArray, List.map_cons, List.map_nil]); rfl) ?_; (with_reducible refine (spec_l1PickInt.calls g s0_0 t132 t133 _ _ y134 t137 t138 t139 w0 _ ?side1 ?side2 ?side3 ?side4 ?side5 A5.out).mono ?_); (case side1 => repeat (with_reducible exact HI0.out)); (case side2 => repeat (with_reducible exact HB.out)); (case side3 => repeat (exact (Kd.R_reads' HO136.out).2.2)); (case side4 => exact (Kd.R_reads' HO136.out).2.1); (case side5 => exact far_slice (IsS163.own_ne HI0.out HO136.out (by decide))); rintro e w12 ⟨rfl, hi, hb, hk⟩; refine ⟨_, rfl, ?_⟩; replace BK127 := am (KeepBut.blk hk (g' := gb127) (o := .cells #[.int .i64 0, .int .i64 0, .int .i64 0] 60 (0, 0)) BK127.out NB127_0.out (by simp)); replace HO136 := am (Kd.R_mono (Kd.R_keep (IsS163.apart (show IsS163 w0 _ g s0_0 t132 t133 from by exact HI0.out) HO136.out (by decide)) hk (fun _ h => h.2)) (fun _ h => h.1)); replace HK := am (KeepBut.trans HK.out hk (.inl rfl)); replace HB := am (hb); replace HI0 := am (hi); (try clear hb); (try clear hk); (try clear hi); have hnb13 := NB127_0.out; have hnc13 := NB0_127.out; obtain ⟨hcz14_0, hcz14_1, hcz14_2, hfz14_0, hfz14_1, hfz14_2⟩ := cells3_ BK127.out))
 refine bodyPost_ret (results_cell_row rfl _ _ gb127 60 #[.int .i64 t128, .int .i64 t131, .int .i64 t137] (0, 0) _ rfl (by refine blk_put (cs := #[.int .i64 t128, .int .i64 t131, .int .i64 0]) ?_ 2 _ rfl; refine blk_put (cs := #[.int .i64 t128, .int .i64 0, .int .i64 0]) ?_ 1 _ rfl; refine blk_put (cs := #[.int .i64 0, .int .i64 0, .int .i64 0]) ?_ 0 _ rfl; exact BK127.out) Try.underlying60 rfl (by kernel_rfl)) rfl ?_
 exact ⟨rfl, by repeat ((with_reducible first | exact HI0.out | refine IsS163.far ?_ NB0_127.out _)), by repeat ((with_reducible first | exact HB.out | refine below_set ?_ GE127.out)), by repeat ((with_reducible first | exact HK.out | refine keep_far ?_ GW127.out _))⟩

def spec_l2Rows.l0 : Nat → List (S60) → Int → Int → List Int → Int → Int → Option ((List (S60)) × Int × Int)
 | 0, _, _, _, _, _, _ => none
 | k + 1, x5, x6, x7, x1000, x1001, x1002 => if x7 > 0 then ((spec_l2Row.f x1000 x1001 x1002 x6).bind fun bt152 => (if x5.length < 5864062014805 then (spec_l2Rows.l0 k (x5 ++ [(⟨bt152.1, bt152.2.1, bt152.2.2.1⟩ : S60)]) x6 (wrap64 (x7 - 1)) x1000 bt152.2.2.2.1 bt152.2.2.2.2) else (none))) else (some (x5, x1001, x1002))
def spec_l2Rows.f (k : Nat) (s0_0 : List Int) (s0_1 : Int) (s0_2 : Int) (a1 : Int) : Option ((List (S60)) × Int × Int) := (spec_l1PickInt.f s0_0 s0_1 s0_2 ([1, 2, 4, 10] : List Int)).bind fun bt146 => ((spec_l1Below.f s0_0 bt146.2.1 bt146.2.2 (wrap64 (a1 + 1))).bind fun bt149 => (spec_l2Rows.l0 k (([] : List (S60))) bt146.1 bt149.1 s0_0 bt149.2.1 bt149.2.2))
theorem spec_l2Rows.calls (k : Nat) (g : Nat) (s0_0 : List Int) (s0_1 : Int) (s0_2 : Int) (a1 : Int) (r1 : List (S60)) (r2 : Int) (r3 : Int) (w0 w : World) (hI : IsS163 w0 w g s0_0 s0_1 s0_2) (hB : Below w0.heap.size w0 w) (h : spec_l2Rows.f k s0_0 s0_1 s0_2 a1 = some (r1, r2, r3)) :
  Calls Try.prog 175 #[.pointer (some ⟨g, 0, none⟩), .int .i64 a1] w fun e w' => ∃ v0_ : Value, e = .returned (v0_) ∧ Kd.R k60 60 w' w.heap.size (fun _ => True) v0_ r1 ∧ IsS163 w0 w' g s0_0 r2 r3 ∧ Below w0.heap.size w0 w' ∧ KeepBut w w' g none := by
 have HI0 := am hI
 have HK := am (KeepBut.refl w g none)
 have HL := am hB.size
 clear hI
 have HW0 := am hB.size
 have HB := am hB
 clear hB
 have H : ((spec_l1PickInt.f s0_0 s0_1 s0_2 ([1, 2, 4, 10] : List Int)).bind fun bt146 => ((spec_l1Below.f s0_0 bt146.2.1 bt146.2.2 (wrap64 (a1 + 1))).bind fun bt149 => (spec_l2Rows.l0 k (([] : List (S60))) bt146.1 bt149.1 s0_0 bt149.2.1 bt149.2.2))) = some (r1, r2, r3) := h
 clear h
 obtain ⟨y140, hy140⟩ : ∃ y_ : List (S60), y_ = (([] : List (S60))) := ⟨_, rfl⟩
 replace H : ((spec_l1PickInt.f s0_0 s0_1 s0_2 ([1, 2, 4, 10] : List Int)).bind fun bt146 => ((spec_l1Below.f s0_0 bt146.2.1 bt146.2.2 (wrap64 (a1 + 1))).bind fun bt149 => (spec_l2Rows.l0 k y140 bt146.1 bt149.1 s0_0 bt149.2.1 bt149.2.2))) = some (r1, r2, r3) := by (rw [hy140]; with_reducible exact H)
 have Ny140 := am hy140
 clear hy140
 obtain ⟨y143, hy143⟩ : ∃ y_ : List Int, y_ = ([1, 2, 4, 10] : List Int) := ⟨_, rfl⟩
 replace H : ((spec_l1PickInt.f s0_0 s0_1 s0_2 y143).bind fun bt146 => ((spec_l1Below.f s0_0 bt146.2.1 bt146.2.2 (wrap64 (a1 + 1))).bind fun bt149 => (spec_l2Rows.l0 k y140 bt146.1 bt149.1 s0_0 bt149.2.1 bt149.2.2))) = some (r1, r2, r3) := by (rw [hy143]; with_reducible exact H)
 have Ny143 := am hy143
 clear hy143
 replace H := Option.bind_eq_some_iff.mp H
 obtain ⟨⟨t146, t147, t148⟩, A30, H⟩ := H
 have A3 := am A30
 clear A30
 replace H := Option.bind_eq_some_iff.mp H
 obtain ⟨⟨t149, t150, t151⟩, A40, H⟩ := H
 have A4 := am A40
 clear A40
 have H' := am H
 clear H
 go_enter Try.func175, Try.ntmps175
 go_wp2_with (first | ((with_reducible refine gate_dst (N := 8) rfl ?_); refine Kd.R_lit k60 _ 60 ?hg (N := 8) ?hd (xs := ([] : List (S60))) (inner := []) (ok := fun _ => True) (okp := fun _ => True) ?hr ?hp (fun _ hk => hk) trivial (Below.refl _ _) (Nat.le_refl _) (by simp) ?_; (case hd => rfl); (case hg => rfl); (case hr => (go_simp; done)); (case hp => exact (Reps.none _ _)); intro v141 w5 ho6 hb hg_ hnew_; clear hg_ hnew_; (rw [← Ny140.out] at ho6); have HO142 := am (Kd.R_lower ho6 (keep_size (w := w) (g := g) (row := none) HK.out)); replace HI0 := am (IsS163.below HI0.out hb); replace HK := am (KeepBut.trans HK.out (KeepBut.of_below hb g none) (.inl rfl)); replace HB := am (below_step HB.out hb); clear hb ho6) | ((with_reducible refine gate_dst (N := 10) rfl ?_); refine Kd.R_lit (Kd.int .i64) _ 3 ?hg (N := 10) ?hd (xs := ([1, 2, 4, 10] : List Int)) (inner := [.int .i64 1, .int .i64 2, .int .i64 4, .int .i64 10]) (ok := fun _ => True) (okp := fun _ => True) ?hr ?hp (fun _ hk => hk) trivial (Below.refl _ _) (Nat.le_refl _) (by simp) ?_; (case hd => rfl); (case hg => rfl); (case hr => (go_simp; done)); (case hp => exact (Reps.one (show Kd.M (Kd.int .i64) _ _ _ 1 [.int .i64 1] from rfl) (Reps.one (show Kd.M (Kd.int .i64) _ _ _ 2 [.int .i64 2] from rfl) (Reps.one (show Kd.M (Kd.int .i64) _ _ _ 4 [.int .i64 4] from rfl) (Reps.one (show Kd.M (Kd.int .i64) _ _ _ 10 [.int .i64 10] from rfl) (Reps.none _ _)))))); intro v144 w7 ho8 hb hg_ hnew_; clear hg_ hnew_; (rw [← Ny143.out] at ho8); replace HO142 := am (Kd.R_below HO142.out hb); have HO145 := am (Kd.R_lower ho8 (keep_size (w := w) (g := g) (row := none) HK.out)); replace HI0 := am (IsS163.below HI0.out hb); replace HK := am (KeepBut.trans HK.out (KeepBut.of_below hb g none) (.inl rfl)); replace HB := am (below_step HB.out hb); clear hb ho8; obtain ⟨Ao9, co9, eo9⟩ := Kd.R_slice HO145.out; subst eo9) | ((with_reducible refine gate_callee (f := 110) rfl ?_); refine goesL_ (some 11) rfl rfl Try.func110 (by kernel_rfl) rfl #[.pointer (some ⟨g, 0, none⟩), .slice Ao9 y143.length co9] rfl (by (try simp only [List.map_toArray, List.map_cons, List.map_nil]); rfl) ?_; (with_reducible refine (spec_l1PickInt.calls g s0_0 s0_1 s0_2 _ _ y143 t146 t147 t148 w0 _ ?side1 ?side2 ?side3 ?side4 ?side5 A3.out).mono ?_); (case side1 => repeat (with_reducible exact HI0.out)); (case side2 => repeat (with_reducible exact HB.out)); (case side3 => repeat (exact (Kd.R_reads' HO145.out).2.2)); (case side4 => exact (Kd.R_reads' HO145.out).2.1); (case side5 => exact far_slice (IsS163.own_ne HI0.out HO145.out (by decide))); rintro e w10 ⟨rfl, hi, hb, hk⟩; refine ⟨_, rfl, ?_⟩; replace HO142 := am (Kd.R_mono (Kd.R_keep (IsS163.apart (show IsS163 w0 _ g s0_0 s0_1 s0_2 from by exact HI0.out) HO142.out (by decide)) hk (fun _ h => h.2)) (fun _ h => h.1)); replace HO145 := am (Kd.R_mono (Kd.R_keep (IsS163.apart (show IsS163 w0 _ g s0_0 s0_1 s0_2 from by exact HI0.out) HO145.out (by decide)) hk (fun _ h => h.2)) (fun _ h => h.1)); replace HK := am (KeepBut.trans HK.out hk (.inl rfl)); replace HB := am (hb); replace HI0 := am (hi); (try clear hb); (try clear hk); (try clear hi)) | ((with_reducible refine gate_callee (f := 177) rfl ?_); refine goesL_ (some 15) rfl rfl Try.func177 (by kernel_rfl) rfl #[.pointer (some ⟨g, 0, none⟩), .int .i64 (wrap64 (a1 + 1))] rfl (by (try simp only [List.map_toArray, List.map_cons, List.map_nil]); rfl) ?_; (with_reducible refine (spec_l1Below.calls g s0_0 t147 t148 (wrap64 (a1 + 1)) t149 t150 t151 w0 _ ?side1 ?side2 A4.out).mono ?_); (case side1 => repeat (with_reducible exact HI0.out)); (case side2 => repeat (with_reducible exact HB.out)); rintro e w11 ⟨rfl, hi, hb, hk⟩; refine ⟨_, rfl, ?_⟩; replace HO142 := am (Kd.R_mono (Kd.R_keep (IsS163.apart (show IsS163 w0 _ g s0_0 t147 t148 from by exact HI0.out) HO142.out (by decide)) hk (fun _ h => h.2)) (fun _ h => h.1)); replace HO145 := am (Kd.R_mono (Kd.R_keep (IsS163.apart (show IsS163 w0 _ g s0_0 t147 t148 from by exact HI0.out) HO145.out (by decide)) hk (fun _ h => h.2)) (fun _ h => h.1)); replace HK := am (KeepBut.trans HK.out hk (.inl rfl)); replace HB := am (hb); replace HI0 := am (hi); (try clear hb); (try clear hk); (try clear hi)))
 go_loopg [5, 7] k (fun kq v5 v7 w' => ∃ (x5_1 : List (S60)) (x7_1 : Int) (x1001_1 : Int) (x1002_1 : Int), v7 = .int .i64 x7_1 ∧ Aside0 (spec_l2Rows.l0 kq x5_1 t146 x7_1 s0_0 x1001_1 x1002_1 = some (r1, r2, r3)) ∧ Aside0 (kq ≤ k) ∧ Aside0 (Kd.R k60 60 w' w.heap.size (fun _ => True) v5 x5_1) ∧ Aside0 (IsS163 w0 w' g s0_0 x1001_1 x1002_1) ∧ Aside0 (KeepBut w w' g none) ∧ Aside0 (Below w0.heap.size w0 w'))
 case atStart => exact ⟨(y140), (t149), (t150), (t151), rfl, H', ⟨Nat.le_refl _⟩, ⟨HO142.out⟩, ⟨HI0.out⟩, ⟨HK.out⟩, ⟨HB.out⟩⟩
 case round =>
  clear H'
  obtain ⟨x5_1, x7_1, x1001_1, x1002_1, rfl, HA, HK1, HO_5, HI0, HK, HB⟩ := hrel
  cases gk with
  | zero => exact absurd HA.out (by simp [spec_l2Rows.l0])
  | succ k1 =>
   have H := HA.out
   clear HA
   simp only [spec_l2Rows.l0] at H
   by_cases c12 : x7_1 > 0
   ·rw [if_pos c12] at H
    have c12b0 : decide (0 < x7_1) = true := decide_eq_true c12
    clear c12
    replace H := Option.bind_eq_some_iff.mp H
    obtain ⟨⟨t152, t153, t154, t155, t156⟩, A130, H⟩ := H
    have A13 := am A130
    clear A130
    by_cases c14 : x5_1.length < 5864062014805
    ·rw [if_pos c14] at H
     have LMc14 := am c14
     clear c14
     obtain ⟨y157, hy157⟩ : ∃ y_ : List (S60), y_ = (x5_1 ++ [(⟨t152, t153, t154⟩ : S60)]) := ⟨_, rfl⟩
     replace H : (spec_l2Rows.l0 k1 y157 t146 (wrap64 (x7_1 - 1)) s0_0 t155 t156) = some (r1, r2, r3) := by (rw [hy157]; with_reducible exact H)
     have Ny157 := am hy157
     clear hy157
     have H' := am H
     clear H
     go_wp2_with (first | ((with_reducible refine gate_callee (f := 195) rfl ?_); refine goesL_ (some 23) rfl rfl Try.func195 (by kernel_rfl) rfl #[.pointer (some ⟨g, 0, none⟩), .int .i64 t146] rfl (by (try simp only [List.map_toArray, List.map_cons, List.map_nil]); rfl) ?_; (with_reducible refine (spec_l2Row.calls g s0_0 x1001_1 x1002_1 t146 t152 t153 t154 t155 t156 w0 _ ?side1 ?side2 A13.out).mono ?_); (case side1 => repeat (with_reducible exact HI0.out)); (case side2 => repeat (with_reducible exact HB.out)); rintro e w15 ⟨rfl, hi, hb, hk⟩; refine ⟨_, rfl, ?_⟩; replace HO_5 := am (Kd.R_mono (Kd.R_keep (IsS163.apart (show IsS163 w0 _ g s0_0 x1001_1 x1002_1 from by exact HI0.out) HO_5.out (by decide)) hk (fun _ h => h.2)) (fun _ h => h.1)); replace HK := am (KeepBut.trans HK.out hk (.inl rfl)); replace HB := am (hb); replace HI0 := am (hi); (try clear hb); (try clear hk); (try clear hi)) | ((with_reducible refine gate_builtin (b := .append) (xs := #[.tmp 20, .tmp 24]) rfl ?_); at_builtin; refine Kd.R_append k60 w.heap.size rfl (.tmp 20) (.tmp 24) 24 60 (.agg #[(.int .i64 0), (.int .i64 0), (.int .i64 0)]) 24 rfl Try.underlying24 info60 rfl (by decide) (by omega) u5 x5_1 (⟨t152, t153, t154⟩ : S60) [.int .i64 t152, .int .i64 t153, .int .i64 t154] (fun _ => True) (fun _ => False) rfl rfl ?aP (fun _ hk => hk.elim) ?aF ?aO (Below.refl _ _) ?aS ?aL ?_; (case aP => exact k60_mkM _ _ _ (⟨t152, t153, t154⟩ : S60)); (case aF => exact (fun _ _ => trivial)); (case aO => exact HO_5.out); (case aS => exact (keep_size (w := w) (g := g) (row := none) HK.out)); (case aL => have := LMc14.out; omega); intro v158 w16 ho hb hg hat; rw [← Ny157.out] at ho; replace HI0 := am (IsS163.grown HI0.out hg (IsS163.own_ne HI0.out HO_5.out (by decide))); replace HB := am (below_weaken HB.out HL.out hb); replace HK := am (KeepBut.trans HK.out (KeepBut.of_grown hg g) (Kd.R_base2 HO_5.out)); have HO159 := am (ho); clear HO_5 ho hb hg hat))
     go_roundg k1
     case measure => have := HK1.out; omega
     case rel => exact ⟨(y157), (wrap64 (x7_1 - 1)), (t155), (t156), rfl, H', ⟨by have := HK1.out; omega⟩, ⟨HO159.out⟩, ⟨HI0.out⟩, ⟨HK.out⟩, ⟨HB.out⟩⟩
    ·rw [if_neg c14] at H
     exact absurd H (by simp)
   ·rw [if_neg c12] at H
    have c12b0 : decide (0 < x7_1) = false := decide_eq_false c12
    clear c12
    simp only [Option.some.injEq, Prod.mk.injEq] at H
    obtain ⟨rfl, rfl, rfl⟩ := H
    go_wp2
    go_ret
    exact ⟨_, rfl, HO_5.out, HI0.out, HB.out, HK.out⟩

def spec_l2Any.f (s0_0 : List Int) (s0_1 : Int) (s0_2 : Int) : Option (Int × Int × Int × Int × Int) := (spec_l2Row.f s0_0 s0_1 s0_2 10).bind fun bt161 => ((spec_l1Below.f s0_0 bt161.2.2.2.1 bt161.2.2.2.2 8).bind fun bt167 => (if bt167.1 = 0 then ((spec_l1PickInt.f s0_0 bt167.2.1 bt167.2.2 (([(-1), 10] : List Int))).bind fun bt173 => (some (bt173.1, bt161.2.1, bt161.2.2.1, bt173.2.1, bt173.2.2))) else (if bt167.1 = 1 then ((spec_l1PickInt.f s0_0 bt167.2.1 bt167.2.2 (([(-1), 100, 99] : List Int))).bind fun bt179 => (some (bt161.1, bt179.1, bt161.2.2.1, bt179.2.1, bt179.2.2))) else (if bt167.1 = 2 then ((spec_l1PickInt.f s0_0 bt167.2.1 bt167.2.2 (([(-1), 4] : List Int))).bind fun bt185 => (some (bt161.1, bt161.2.1, bt185.1, bt185.2.1, bt185.2.2))) else (some (bt161.1, bt161.2.1, bt161.2.2.1, bt167.2.1, bt167.2.2))))))
theorem spec_l2Any.calls (g : Nat) (s0_0 : List Int) (s0_1 : Int) (s0_2 : Int) (r1 : Int) (r2 : Int) (r3 : Int) (r4 : Int) (r5 : Int) (w0 w : World) (hI : IsS163 w0 w g s0_0 s0_1 s0_2) (hB : Below w0.heap.size w0 w) (h : spec_l2Any.f s0_0 s0_1 s0_2 = some (r1, r2, r3, r4, r5)) :
  Calls Try.prog 176 #[.pointer (some ⟨g, 0, none⟩)] w fun e w' => e = .returned (.agg #[.int .i64 r1, .int .i64 r2, .int .i64 r3]) ∧ IsS163 w0 w' g s0_0 r4 r5 ∧ Below w0.heap.size w0 w' ∧ KeepBut w w' g none := by
 have hu60 := Try.underlying60
 have HI0 := am hI
 have HK := am (KeepBut.refl w g none)
 have HL := am hB.size
 clear hI
 have HW0 := am hB.size
 have HB := am hB
 clear hB
 have H : ((spec_l2Row.f s0_0 s0_1 s0_2 10).bind fun bt161 => ((spec_l1Below.f s0_0 bt161.2.2.2.1 bt161.2.2.2.2 8).bind fun bt167 => (if bt167.1 = 0 then ((spec_l1PickInt.f s0_0 bt167.2.1 bt167.2.2 (([(-1), 10] : List Int))).bind fun bt173 => (some (bt173.1, bt161.2.1, bt161.2.2.1, bt173.2.1, bt173.2.2))) else (if bt167.1 = 1 then ((spec_l1PickInt.f s0_0 bt167.2.1 bt167.2.2 (([(-1), 100, 99] : List Int))).bind fun bt179 => (some (bt161.1, bt179.1, bt161.2.2.1, bt179.2.1, bt179.2.2))) else (if bt167.1 = 2 then ((spec_l1PickInt.f s0_0 bt167.2.1 bt167.2.2 (([(-1), 4] : List Int))).bind fun bt185 => (some (bt161.1, bt161.2.1, bt185.1, bt185.2.1, bt185.2.2))) else (some (bt161.1, bt161.2.1, bt161.2.2.1, bt167.2.1, bt167.2.2))))))) = some (r1, r2, r3, r4, r5) := h
 clear h
 replace H := Option.bind_eq_some_iff.mp H
 obtain ⟨⟨t161, t162, t163, t164, t165⟩, A20, H⟩ := H
 have A2 := am A20
 clear A20
 replace H := Option.bind_eq_some_iff.mp H
 obtain ⟨⟨t167, t168, t169⟩, A30, H⟩ := H
 have A3 := am A30
 clear A30
 by_cases c4 : t167 = 0
 ·rw [if_pos c4] at H
  have c4b0 : (t167 == 0) = true := beq_iff_eq.mpr c4
  have c4b1 : (t167 != 0) = false := bne_eq_false_iff_eq.mpr c4
  clear c4
  obtain ⟨y170, hy170⟩ : ∃ y_ : List Int, y_ = (([(-1), 10] : List Int)) := ⟨_, rfl⟩
  replace H : ((spec_l1PickInt.f s0_0 t168 t169 y170).bind fun bt173 => (some (bt173.1, t162, t163, bt173.2.1, bt173.2.2))) = some (r1, r2, r3, r4, r5) := by (rw [hy170]; with_reducible exact H)
  have Ny170 := am hy170
  clear hy170
  replace H := Option.bind_eq_some_iff.mp H
  obtain ⟨⟨t173, t174, t175⟩, A50, H⟩ := H
  have A5 := am A50
  clear A50
  simp only [Option.some.injEq, Prod.mk.injEq] at H
  obtain ⟨rfl, rfl, rfl, rfl, rfl⟩ := H
  go_enter Try.func176, Try.ntmps176
  go_wp2_with (first | ((with_reducible refine gate_dst (N := 2) rfl ?_); refine box_event ?hg (N := 2) ?hd (cs := #[.int .i64 0, .int .i64 0, .int .i64 0]) (t := 60) ?hr ?_; (case hd => rfl); (case hg => rfl); (case hr => (go_simp; done)); intro gb160 hg w6 hbox hb; replace HB := am (below_step HB.out hb); have BK160 := am (hbox); have GW160 := am ((by rw [hg]; exact (keep_size (w := w) (g := g) (row := none) HK.out) : w.heap.size ≤ gb160)); have GE160 := am ((Nat.le_trans HW0.out (by rw [hg]; exact (keep_size (w := w) (g := g) (row := none) HK.out) : w.heap.size ≤ gb160) : w0.heap.size ≤ gb160)); replace HK := am (KeepBut.trans HK.out (KeepBut.of_below hb g none) (.inl rfl)); have NB0_160 := am ((by rw [hg]; exact Nat.ne_of_lt (IsS163.lt (show IsS163 w0 _ g s0_0 s0_1 s0_2 from by exact HI0.out)) : g ≠ gb160)); have NB160_0 := am ((by rw [hg]; exact Nat.ne_of_gt (IsS163.lt (show IsS163 w0 _ g s0_0 s0_1 s0_2 from by exact HI0.out)) : gb160 ≠ g)); replace HI0 := am (IsS163.below HI0.out hb); clear hb hbox hg) | ((with_reducible refine gate_callee (f := 195) rfl ?_); refine goesL_ (some 5) rfl rfl Try.func195 (by kernel_rfl) rfl #[.pointer (some ⟨g, 0, none⟩), .int .i64 10] rfl (by (try simp only [List.map_toArray, List.map_cons, List.map_nil]); rfl) ?_; (with_reducible refine (spec_l2Row.calls g s0_0 s0_1 s0_2 10 t161 t162 t163 t164 t165 w0 _ ?side1 ?side2 A2.out).mono ?_); (case side1 => repeat (with_reducible exact HI0.out)); (case side2 => repeat (with_reducible exact HB.out)); rintro e w7 ⟨rfl, hi, hb, hk⟩; refine ⟨_, rfl, ?_⟩; replace BK160 := am (KeepBut.blk hk (g' := gb160) (o := .cells #[.int .i64 0, .int .i64 0, .int .i64 0] 60 (0, 0)) BK160.out NB160_0.out (by simp)); replace HK := am (KeepBut.trans HK.out hk (.inl rfl)); replace HB := am (hb); replace HI0 := am (hi); (try clear hb); (try clear hk); (try clear hi)) | ((with_reducible refine gate_dst (N := 3) rfl ?_); refine box_event ?hg (N := 3) ?hd (cs := #[.int .i64 0, .int .i64 0, .int .i64 0]) (t := 60) ?hr ?_; (case hd => rfl); (case hg => rfl); (case hr => (go_simp; done)); intro gb166 hg w8 hbox hb; replace HB := am (below_step HB.out hb); have BK166 := am (hbox); have GW166 := am ((by rw [hg]; exact (keep_size (w := w) (g := g) (row := none) HK.out) : w.heap.size ≤ gb166)); have GE166 := am ((Nat.le_trans HW0.out (by rw [hg]; exact (keep_size (w := w) (g := g) (row := none) HK.out) : w.heap.size ≤ gb166) : w0.heap.size ≤ gb166)); replace HK := am (KeepBut.trans HK.out (KeepBut.of_below hb g none) (.inl rfl)); have NB160_166 := am ((by rw [hg]; exact Nat.ne_of_lt (blk_lt (g := gb160) (o := .cells #[.int .i64 0, .int .i64 0, .int .i64 0] 60 (0, 0)) BK160.out) : gb160 ≠ gb166)); have NB166_160 := am ((by rw [hg]; exact Nat.ne_of_gt (blk_lt (g := gb160) (o := .cells #[.int .i64 0, .int .i64 0, .int .i64 0] 60 (0, 0)) BK160.out) : gb166 ≠ gb160)); replace BK160 := am (blk_below BK160.out hb); have NB0_166 := am ((by rw [hg]; exact Nat.ne_of_lt (IsS163.lt (show IsS163 w0 _ g s0_0 t164 t165 from by exact HI0.out)) : g ≠ gb166)); have NB166_0 := am ((by rw [hg]; exact Nat.ne_of_gt (IsS163.lt (show IsS163 w0 _ g s0_0 t164 t165 from by exact HI0.out)) : gb166 ≠ g)); replace HI0 := am (IsS163.below HI0.out hb); clear hb hbox hg; have hnb9 := NB166_160.out; have hnc9 := NB160_166.out; have hnb10 := NB166_0.out; have hnc10 := NB0_166.out; obtain ⟨hcz11_0, hcz11_1, hcz11_2, hfz11_0, hfz11_1, hfz11_2⟩ := cells3_ BK166.out) | ((with_reducible refine gate_callee (f := 177) rfl ?_); refine goesL_ (some 7) rfl rfl Try.func177 (by kernel_rfl) rfl #[.pointer (some ⟨g, 0, none⟩), .int .i64 8] rfl (by (try simp only [List.map_toArray, List.map_cons, List.map_nil]); rfl) ?_; (with_reducible refine (spec_l1Below.calls g s0_0 t164 t165 8 t167 t168 t169 w0 _ ?side1 ?side2 A3.out).mono ?_); (case side1 => repeat (with_reducible first | exact HI0.out | refine IsS163.far ?_ NB0_166.out _)); (case side2 => repeat (with_reducible first | exact HB.out | refine below_set ?_ GE166.out)); rintro e w12 ⟨rfl, hi, hb, hk⟩; refine ⟨_, rfl, ?_⟩; replace BK160 := am (KeepBut.blk hk (g' := gb160) (o := .cells #[.int .i64 0, .int .i64 0, .int .i64 0] 60 (0, 0)) (by refine blk_far ?_ NB160_166.out _; refine blk_far ?_ NB160_166.out _; refine blk_far ?_ NB160_166.out _; exact BK160.out) NB160_0.out (by simp)); replace BK166 := am (KeepBut.blk hk (g' := gb166) (o := .cells #[.int .i64 t161, .int .i64 t162, .int .i64 t163] 60 (0, 0)) (by refine blk_put (cs := #[.int .i64 t161, .int .i64 t162, .int .i64 0]) ?_ 2 _ rfl; refine blk_put (cs := #[.int .i64 t161, .int .i64 0, .int .i64 0]) ?_ 1 _ rfl; refine blk_put (cs := #[.int .i64 0, .int .i64 0, .int .i64 0]) ?_ 0 _ rfl; exact BK166.out) NB166_0.out (by simp)); replace HK := am (KeepBut.trans (by repeat (with_reducible first | exact HK.out | refine keep_far ?_ GW166.out _)) hk (.inl rfl)); replace HB := am (hb); replace HI0 := am (hi); (try clear hb); (try clear hk); (try clear hi)) | ((with_reducible refine gate_dst (N := 11) rfl ?_); refine Kd.R_lit (Kd.int .i64) _ 3 ?hg (N := 11) ?hd (xs := ([(-1), 10] : List Int)) (inner := [.int .i64 (-1), .int .i64 10]) (ok := fun _ => True) (okp := fun _ => True) ?hr ?hp (fun _ hk => hk) trivial (Below.refl _ _) (Nat.le_refl _) (by simp) ?_; (case hd => rfl); (case hg => rfl); (case hr => (go_simp; done)); (case hp => exact (Reps.one (show Kd.M (Kd.int .i64) _ _ _ (-1) [.int .i64 (-1)] from rfl) (Reps.one (show Kd.M (Kd.int .i64) _ _ _ 10 [.int .i64 10] from rfl) (Reps.none _ _)))); intro v171 w13 ho14 hb hg_ hnew_; clear hg_ hnew_; (rw [← Ny170.out] at ho14); have HO172 := am (Kd.R_lower ho14 (keep_size (w := w) (g := g) (row := none) HK.out)); replace HI0 := am (IsS163.below HI0.out hb); replace BK160 := am (blk_below BK160.out hb); replace BK166 := am (blk_below BK166.out hb); replace HK := am (KeepBut.trans HK.out (KeepBut.of_below hb g none) (.inl rfl)); replace HB := am (below_step HB.out hb); clear hb ho14; obtain ⟨Ao15, co15, eo15⟩ := Kd.R_slice HO172.out; subst eo15) | ((with_reducible refine gate_callee (f := 110) rfl ?_); refine goesL_ (some 12) rfl rfl Try.func110 (by kernel_rfl) rfl #[.pointer (some ⟨g, 0, none⟩), .slice Ao15 y170.length co15] rfl (by (try simp only [List.map_toArray, List.map_cons, List.map_nil]); rfl) ?_; (with_reducible refine (spec_l1PickInt.calls g s0_0 t168 t169 _ _ y170 t173 t174 t175 w0 _ ?side1 ?side2 ?side3 ?side4 ?side5 A5.out).mono ?_); (case side1 => repeat (with_reducible exact HI0.out)); (case side2 => repeat (with_reducible exact HB.out)); (case side3 => repeat (exact (Kd.R_reads' HO172.out).2.2)); (case side4 => exact (Kd.R_reads' HO172.out).2.1); (case side5 => exact far_slice (IsS163.own_ne HI0.out HO172.out (by decide))); rintro e w16 ⟨rfl, hi, hb, hk⟩; refine ⟨_, rfl, ?_⟩; replace BK160 := am (KeepBut.blk hk (g' := gb160) (o := .cells #[.int .i64 0, .int .i64 0, .int .i64 0] 60 (0, 0)) BK160.out NB160_0.out (by simp)); replace BK166 := am (KeepBut.blk hk (g' := gb166) (o := .cells #[.int .i64 t161, .int .i64 t162, .int .i64 t163] 60 (0, 0)) BK166.out NB166_0.out (by simp)); replace HO172 := am (Kd.R_mono (Kd.R_keep (IsS163.apart (show IsS163 w0 _ g s0_0 t168 t169 from by exact HI0.out) HO172.out (by decide)) hk (fun _ h => h.2)) (fun _ h => h.1)); replace HK := am (KeepBut.trans HK.out hk (.inl rfl)); replace HB := am (hb); replace HI0 := am (hi); (try clear hb); (try clear hk); (try clear hi); obtain ⟨hcz17_0, hcz17_1, hcz17_2, hfz17_0, hfz17_1, hfz17_2⟩ := cells3_ BK166.out; have hnb18 := NB160_0.out; have hnc18 := NB0_160.out; obtain ⟨hcz19_0, hcz19_1, hcz19_2, hfz19_0, hfz19_1, hfz19_2⟩ := cells3_ BK160.out))
  refine bodyPost_ret (results_cell_row rfl _ _ gb160 60 #[.int .i64 t173, .int .i64 t162, .int .i64 t163] (0, 0) _ rfl (by refine blk_put (cs := #[.int .i64 t173, .int .i64 t162, .int .i64 0]) ?_ 2 _ rfl; refine blk_put (cs := #[.int .i64 t173, .int .i64 0, .int .i64 0]) ?_ 1 _ rfl; refine blk_put (cs := #[.int .i64 0, .int .i64 0, .int .i64 0]) ?_ 0 _ rfl; refine blk_far ?_ NB160_166.out _; exact BK160.out) Try.underlying60 rfl (by kernel_rfl)) rfl ?_
  exact ⟨rfl, by repeat ((with_reducible first | exact HI0.out | refine IsS163.far ?_ NB0_160.out _ | refine IsS163.far ?_ NB0_166.out _)), by repeat ((with_reducible first | exact HB.out | refine below_set ?_ GE160.out | refine below_set ?_ GE166.out)), by repeat ((with_reducible first | exact HK.out | refine keep_far ?_ GW160.out _ | refine keep_far ?_ GW166.out _))⟩
 ·rw [if_neg c4] at H
  have c4b0 : (t167 == 0) = false := beq_eq_false_iff_ne.mpr c4
  have c4b1 : (t167 != 0) = true := bne_iff_ne.mpr c4
  by_cases c20 : t167 = 1
  ·rw [if_pos c20] at H
   have c20b0 : (t167 == 1) = true := beq_iff_eq.mpr c20
   have c20b1 : (t167 != 1) = false := bne_eq_false_iff_eq.mpr c20
   clear c20
   obtain ⟨y176, hy176⟩ : ∃ y_ : List Int, y_ = (([(-1), 100, 99] : List Int)) := ⟨_, rfl⟩
   replace H : ((spec_l1PickInt.f s0_0 t168 t169 y176).bind fun bt179 => (some (t161, bt179.1, t163, bt179.2.1, bt179.2.2))) = some (r1, r2, r3, r4, r5) := by (rw [hy176]; with_reducible exact H)
   have Ny176 := am hy176
   clear hy176
   replace H := Option.bind_eq_some_iff.mp H
   obtain ⟨⟨t179, t180, t181⟩, A210, H⟩ := H
   have A21 := am A210
   clear A210
   simp only [Option.some.injEq, Prod.mk.injEq] at H
   obtain ⟨rfl, rfl, rfl, rfl, rfl⟩ := H
   go_enter Try.func176, Try.ntmps176
   go_wp2_with (first | ((with_reducible refine gate_dst (N := 2) rfl ?_); refine box_event ?hg (N := 2) ?hd (cs := #[.int .i64 0, .int .i64 0, .int .i64 0]) (t := 60) ?hr ?_; (case hd => rfl); (case hg => rfl); (case hr => (go_simp; done)); intro gb160 hg w22 hbox hb; replace HB := am (below_step HB.out hb); have BK160 := am (hbox); have GW160 := am ((by rw [hg]; exact (keep_size (w := w) (g := g) (row := none) HK.out) : w.heap.size ≤ gb160)); have GE160 := am ((Nat.le_trans HW0.out (by rw [hg]; exact (keep_size (w := w) (g := g) (row := none) HK.out) : w.heap.size ≤ gb160) : w0.heap.size ≤ gb160)); replace HK := am (KeepBut.trans HK.out (KeepBut.of_below hb g none) (.inl rfl)); have NB0_160 := am ((by rw [hg]; exact Nat.ne_of_lt (IsS163.lt (show IsS163 w0 _ g s0_0 s0_1 s0_2 from by exact HI0.out)) : g ≠ gb160)); have NB160_0 := am ((by rw [hg]; exact Nat.ne_of_gt (IsS163.lt (show IsS163 w0 _ g s0_0 s0_1 s0_2 from by exact HI0.out)) : gb160 ≠ g)); replace HI0 := am (IsS163.below HI0.out hb); clear hb hbox hg) | ((with_reducible refine gate_callee (f := 195) rfl ?_); refine goesL_ (some 5) rfl rfl Try.func195 (by kernel_rfl) rfl #[.pointer (some ⟨g, 0, none⟩), .int .i64 10] rfl (by (try simp only [List.map_toArray, List.map_cons, List.map_nil]); rfl) ?_; (with_reducible refine (spec_l2Row.calls g s0_0 s0_1 s0_2 10 t161 t162 t163 t164 t165 w0 _ ?side1 ?side2 A2.out).mono ?_); (case side1 => repeat (with_reducible exact HI0.out)); (case side2 => repeat (with_reducible exact HB.out)); rintro e w23 ⟨rfl, hi, hb, hk⟩; refine ⟨_, rfl, ?_⟩; replace BK160 := am (KeepBut.blk hk (g' := gb160) (o := .cells #[.int .i64 0, .int .i64 0, .int .i64 0] 60 (0, 0)) BK160.out NB160_0.out (by simp)); replace HK := am (KeepBut.trans HK.out hk (.inl rfl)); replace HB := am (hb); replace HI0 := am (hi); (try clear hb); (try clear hk); (try clear hi)) | ((with_reducible refine gate_dst (N := 3) rfl ?_); refine box_event ?hg (N := 3) ?hd (cs := #[.int .i64 0, .int .i64 0, .int .i64 0]) (t := 60) ?hr ?_; (case hd => rfl); (case hg => rfl); (case hr => (go_simp; done)); intro gb166 hg w24 hbox hb; replace HB := am (below_step HB.out hb); have BK166 := am (hbox); have GW166 := am ((by rw [hg]; exact (keep_size (w := w) (g := g) (row := none) HK.out) : w.heap.size ≤ gb166)); have GE166 := am ((Nat.le_trans HW0.out (by rw [hg]; exact (keep_size (w := w) (g := g) (row := none) HK.out) : w.heap.size ≤ gb166) : w0.heap.size ≤ gb166)); replace HK := am (KeepBut.trans HK.out (KeepBut.of_below hb g none) (.inl rfl)); have NB160_166 := am ((by rw [hg]; exact Nat.ne_of_lt (blk_lt (g := gb160) (o := .cells #[.int .i64 0, .int .i64 0, .int .i64 0] 60 (0, 0)) BK160.out) : gb160 ≠ gb166)); have NB166_160 := am ((by rw [hg]; exact Nat.ne_of_gt (blk_lt (g := gb160) (o := .cells #[.int .i64 0, .int .i64 0, .int .i64 0] 60 (0, 0)) BK160.out) : gb166 ≠ gb160)); replace BK160 := am (blk_below BK160.out hb); have NB0_166 := am ((by rw [hg]; exact Nat.ne_of_lt (IsS163.lt (show IsS163 w0 _ g s0_0 t164 t165 from by exact HI0.out)) : g ≠ gb166)); have NB166_0 := am ((by rw [hg]; exact Nat.ne_of_gt (IsS163.lt (show IsS163 w0 _ g s0_0 t164 t165 from by exact HI0.out)) : gb166 ≠ g)); replace HI0 := am (IsS163.below HI0.out hb); clear hb hbox hg; have hnb25 := NB166_160.out; have hnc25 := NB160_166.out; have hnb26 := NB166_0.out; have hnc26 := NB0_166.out; obtain ⟨hcz27_0, hcz27_1, hcz27_2, hfz27_0, hfz27_1, hfz27_2⟩ := cells3_ BK166.out) | ((with_reducible refine gate_callee (f := 177) rfl ?_); refine goesL_ (some 7) rfl rfl Try.func177 (by kernel_rfl) rfl #[.pointer (some ⟨g, 0, none⟩), .int .i64 8] rfl (by (try simp only [List.map_toArray, List.map_cons, List.map_nil]); rfl) ?_; (with_reducible refine (spec_l1Below.calls g s0_0 t164 t165 8 t167 t168 t169 w0 _ ?side1 ?side2 A3.out).mono ?_); (case side1 => repeat (with_reducible first | exact HI0.out | refine IsS163.far ?_ NB0_166.out _)); (case side2 => repeat (with_reducible first | exact HB.out | refine below_set ?_ GE166.out)); rintro e w28 ⟨rfl, hi, hb, hk⟩; refine ⟨_, rfl, ?_⟩; replace BK160 := am (KeepBut.blk hk (g' := gb160) (o := .cells #[.int .i64 0, .int .i64 0, .int .i64 0] 60 (0, 0)) (by refine blk_far ?_ NB160_166.out _; refine blk_far ?_ NB160_166.out _; refine blk_far ?_ NB160_166.out _; exact BK160.out) NB160_0.out (by simp)); replace BK166 := am (KeepBut.blk hk (g' := gb166) (o := .cells #[.int .i64 t161, .int .i64 t162, .int .i64 t163] 60 (0, 0)) (by refine blk_put (cs := #[.int .i64 t161, .int .i64 t162, .int .i64 0]) ?_ 2 _ rfl; refine blk_put (cs := #[.int .i64 t161, .int .i64 0, .int .i64 0]) ?_ 1 _ rfl; refine blk_put (cs := #[.int .i64 0, .int .i64 0, .int .i64 0]) ?_ 0 _ rfl; exact BK166.out) NB166_0.out (by simp)); replace HK := am (KeepBut.trans (by repeat (with_reducible first | exact HK.out | refine keep_far ?_ GW166.out _)) hk (.inl rfl)); replace HB := am (hb); replace HI0 := am (hi); (try clear hb); (try clear hk); (try clear hi)) | ((with_reducible refine gate_dst (N := 17) rfl ?_); refine Kd.R_lit (Kd.int .i64) _ 3 ?hg (N := 17) ?hd (xs := ([(-1), 100, 99] : List Int)) (inner := [.int .i64 (-1), .int .i64 100, .int .i64 99]) (ok := fun _ => True) (okp := fun _ => True) ?hr ?hp (fun _ hk => hk) trivial (Below.refl _ _) (Nat.le_refl _) (by simp) ?_; (case hd => rfl); (case hg => rfl); (case hr => (go_simp; done)); (case hp => exact (Reps.one (show Kd.M (Kd.int .i64) _ _ _ (-1) [.int .i64 (-1)] from rfl) (Reps.one (show Kd.M (Kd.int .i64) _ _ _ 100 [.int .i64 100] from rfl) (Reps.one (show Kd.M (Kd.int .i64) _ _ _ 99 [.int .i64 99] from rfl) (Reps.none _ _))))); intro v177 w29 ho30 hb hg_ hnew_; clear hg_ hnew_; (rw [← Ny176.out] at ho30); have HO178 := am (Kd.R_lower ho30 (keep_size (w := w) (g := g) (row := none) HK.out)); replace HI0 := am (IsS163.below HI0.out hb); replace BK160 := am (blk_below BK160.out hb); replace BK166 := am (blk_below BK166.out hb); replace HK := am (KeepBut.trans HK.out (KeepBut.of_below hb g none) (.inl rfl)); replace HB := am (below_step HB.out hb); clear hb ho30; obtain ⟨Ao31, co31, eo31⟩ := Kd.R_slice HO178.out; subst eo31) | ((with_reducible refine gate_callee (f := 110) rfl ?_); refine goesL_ (some 18) rfl rfl Try.func110 (by kernel_rfl) rfl #[.pointer (some ⟨g, 0, none⟩), .slice Ao31 y176.length co31] rfl (by (try simp only [List.map_toArray, List.map_cons, List.map_nil]); rfl) ?_; (with_reducible refine (spec_l1PickInt.calls g s0_0 t168 t169 _ _ y176 t179 t180 t181 w0 _ ?side1 ?side2 ?side3 ?side4 ?side5 A21.out).mono ?_); (case side1 => repeat (with_reducible exact HI0.out)); (case side2 => repeat (with_reducible exact HB.out)); (case side3 => repeat (exact (Kd.R_reads' HO178.out).2.2)); (case side4 => exact (Kd.R_reads' HO178.out).2.1); (case side5 => exact far_slice (IsS163.own_ne HI0.out HO178.out (by decide))); rintro e w32 ⟨rfl, hi, hb, hk⟩; refine ⟨_, rfl, ?_⟩; replace BK160 := am (KeepBut.blk hk (g' := gb160) (o := .cells #[.int .i64 0, .int .i64 0, .int .i64 0] 60 (0, 0)) BK160.out NB160_0.out (by simp)); replace BK166 := am (KeepBut.blk hk (g' := gb166) (o := .cells #[.int .i64 t161, .int .i64 t162, .int .i64 t163] 60 (0, 0)) BK166.out NB166_0.out (by simp)); replace HO178 := am (Kd.R_mono (Kd.R_keep (IsS163.apart (show IsS163 w0 _ g s0_0 t168 t169 from by exact HI0.out) HO178.out (by decide)) hk (fun _ h => h.2)) (fun _ h => h.1)); replace HK := am (KeepBut.trans HK.out hk (.inl rfl)); replace HB := am (hb); replace HI0 := am (hi); (try clear hb); (try clear hk); (try clear hi); obtain ⟨hcz33_0, hcz33_1, hcz33_2, hfz33_0, hfz33_1, hfz33_2⟩ := cells3_ BK166.out; have hnb34 := NB160_0.out; have hnc34 := NB0_160.out; obtain ⟨hcz35_0, hcz35_1, hcz35_2, hfz35_0, hfz35_1, hfz35_2⟩ := cells3_ BK160.out))
   refine bodyPost_ret (results_cell_row rfl _ _ gb160 60 #[.int .i64 t161, .int .i64 t179, .int .i64 t163] (0, 0) _ rfl (by refine blk_put (cs := #[.int .i64 t161, .int .i64 t179, .int .i64 0]) ?_ 2 _ rfl; refine blk_put (cs := #[.int .i64 t161, .int .i64 0, .int .i64 0]) ?_ 1 _ rfl; refine blk_put (cs := #[.int .i64 0, .int .i64 0, .int .i64 0]) ?_ 0 _ rfl; refine blk_far ?_ NB160_166.out _; exact BK160.out) Try.underlying60 rfl (by kernel_rfl)) rfl ?_
   exact ⟨rfl, by repeat ((with_reducible first | exact HI0.out | refine IsS163.far ?_ NB0_160.out _ | refine IsS163.far ?_ NB0_166.out _)), by repeat ((with_reducible first | exact HB.out | refine below_set ?_ GE160.out | refine below_set ?_ GE166.out)), by repeat ((with_reducible first | exact HK.out | refine keep_far ?_ GW160.out _ | refine keep_far ?_ GW166.out _))⟩
  ·rw [if_neg c20] at H
   have c20b0 : (t167 == 1) = false := beq_eq_false_iff_ne.mpr c20
   have c20b1 : (t167 != 1) = true := bne_iff_ne.mpr c20
   by_cases c36 : t167 = 2
   ·rw [if_pos c36] at H
    have c36b0 : (t167 == 2) = true := beq_iff_eq.mpr c36
    have c36b1 : (t167 != 2) = false := bne_eq_false_iff_eq.mpr c36
    clear c36
    obtain ⟨y182, hy182⟩ : ∃ y_ : List Int, y_ = (([(-1), 4] : List Int)) := ⟨_, rfl⟩
    replace H : ((spec_l1PickInt.f s0_0 t168 t169 y182).bind fun bt185 => (some (t161, t162, bt185.1, bt185.2.1, bt185.2.2))) = some (r1, r2, r3, r4, r5) := by (rw [hy182]; with_reducible exact H)
    have Ny182 := am hy182
    clear hy182
    replace H := Option.bind_eq_some_iff.mp H
    obtain ⟨⟨t185, t186, t187⟩, A370, H⟩ := H
    have A37 := am A370
    clear A370
    simp only [Option.some.injEq, Prod.mk.injEq] at H
    obtain ⟨rfl, rfl, rfl, rfl, rfl⟩ := H
    go_enter Try.func176, Try.ntmps176
    go_wp2_with (first | ((with_reducible refine gate_dst (N := 2) rfl ?_); refine box_event ?hg (N := 2) ?hd (cs := #[.int .i64 0, .int .i64 0, .int .i64 0]) (t := 60) ?hr ?_; (case hd => rfl); (case hg => rfl); (case hr => (go_simp; done)); intro gb160 hg w38 hbox hb; replace HB := am (below_step HB.out hb); have BK160 := am (hbox); have GW160 := am ((by rw [hg]; exact (keep_size (w := w) (g := g) (row := none) HK.out) : w.heap.size ≤ gb160)); have GE160 := am ((Nat.le_trans HW0.out (by rw [hg]; exact (keep_size (w := w) (g := g) (row := none) HK.out) : w.heap.size ≤ gb160) : w0.heap.size ≤ gb160)); replace HK := am (KeepBut.trans HK.out (KeepBut.of_below hb g none) (.inl rfl)); have NB0_160 := am ((by rw [hg]; exact Nat.ne_of_lt (IsS163.lt (show IsS163 w0 _ g s0_0 s0_1 s0_2 from by exact HI0.out)) : g ≠ gb160)); have NB160_0 := am ((by rw [hg]; exact Nat.ne_of_gt (IsS163.lt (show IsS163 w0 _ g s0_0 s0_1 s0_2 from by exact HI0.out)) : gb160 ≠ g)); replace HI0 := am (IsS163.below HI0.out hb); clear hb hbox hg) | ((with_reducible refine gate_callee (f := 195) rfl ?_); refine goesL_ (some 5) rfl rfl Try.func195 (by kernel_rfl) rfl #[.pointer (some ⟨g, 0, none⟩), .int .i64 10] rfl (by (try simp only [List.map_toArray, List.map_cons, List.map_nil]); rfl) ?_; (with_reducible refine (spec_l2Row.calls g s0_0 s0_1 s0_2 10 t161 t162 t163 t164 t165 w0 _ ?side1 ?side2 A2.out).mono ?_); (case side1 => repeat (with_reducible exact HI0.out)); (case side2 => repeat (with_reducible exact HB.out)); rintro e w39 ⟨rfl, hi, hb, hk⟩; refine ⟨_, rfl, ?_⟩; replace BK160 := am (KeepBut.blk hk (g' := gb160) (o := .cells #[.int .i64 0, .int .i64 0, .int .i64 0] 60 (0, 0)) BK160.out NB160_0.out (by simp)); replace HK := am (KeepBut.trans HK.out hk (.inl rfl)); replace HB := am (hb); replace HI0 := am (hi); (try clear hb); (try clear hk); (try clear hi)) | ((with_reducible refine gate_dst (N := 3) rfl ?_); refine box_event ?hg (N := 3) ?hd (cs := #[.int .i64 0, .int .i64 0, .int .i64 0]) (t := 60) ?hr ?_; (case hd => rfl); (case hg => rfl); (case hr => (go_simp; done)); intro gb166 hg w40 hbox hb; replace HB := am (below_step HB.out hb); have BK166 := am (hbox); have GW166 := am ((by rw [hg]; exact (keep_size (w := w) (g := g) (row := none) HK.out) : w.heap.size ≤ gb166)); have GE166 := am ((Nat.le_trans HW0.out (by rw [hg]; exact (keep_size (w := w) (g := g) (row := none) HK.out) : w.heap.size ≤ gb166) : w0.heap.size ≤ gb166)); replace HK := am (KeepBut.trans HK.out (KeepBut.of_below hb g none) (.inl rfl)); have NB160_166 := am ((by rw [hg]; exact Nat.ne_of_lt (blk_lt (g := gb160) (o := .cells #[.int .i64 0, .int .i64 0, .int .i64 0] 60 (0, 0)) BK160.out) : gb160 ≠ gb166)); have NB166_160 := am ((by rw [hg]; exact Nat.ne_of_gt (blk_lt (g := gb160) (o := .cells #[.int .i64 0, .int .i64 0, .int .i64 0] 60 (0, 0)) BK160.out) : gb166 ≠ gb160)); replace BK160 := am (blk_below BK160.out hb); have NB0_166 := am ((by rw [hg]; exact Nat.ne_of_lt (IsS163.lt (show IsS163 w0 _ g s0_0 t164 t165 from by exact HI0.out)) : g ≠ gb166)); have NB166_0 := am ((by rw [hg]; exact Nat.ne_of_gt (IsS163.lt (show IsS163 w0 _ g s0_0 t164 t165 from by exact HI0.out)) : gb166 ≠ g)); replace HI0 := am (IsS163.below HI0.out hb); clear hb hbox hg; have hnb41 := NB166_160.out; have hnc41 := NB160_166.out; have hnb42 := NB166_0.out; have hnc42 := NB0_166.out; obtain ⟨hcz43_0, hcz43_1, hcz43_2, hfz43_0, hfz43_1, hfz43_2⟩ := cells3_ BK166.out) | ((with_reducible refine gate_callee (f := 177) rfl ?_); refine goesL_ (some 7) rfl rfl Try.func177 (by kernel_rfl) rfl #[.pointer (some ⟨g, 0, none⟩), .int .i64 8] rfl (by (try simp only [List.map_toArray, List.map_cons, List.map_nil]); rfl) ?_; (with_reducible refine (spec_l1Below.calls g s0_0 t164 t165 8 t167 t168 t169 w0 _ ?side1 ?side2 A3.out).mono ?_); (case side1 => repeat (with_reducible first | exact HI0.out | refine IsS163.far ?_ NB0_166.out _)); (case side2 => repeat (with_reducible first | exact HB.out | refine below_set ?_ GE166.out)); rintro e w44 ⟨rfl, hi, hb, hk⟩; refine ⟨_, rfl, ?_⟩; replace BK160 := am (KeepBut.blk hk (g' := gb160) (o := .cells #[.int .i64 0, .int .i64 0, .int .i64 0] 60 (0, 0)) (by refine blk_far ?_ NB160_166.out _; refine blk_far ?_ NB160_166.out _; refine blk_far ?_ NB160_166.out _; exact BK160.out) NB160_0.out (by simp)); replace BK166 := am (KeepBut.blk hk (g' := gb166) (o := .cells #[.int .i64 t161, .int .i64 t162, .int .i64 t163] 60 (0, 0)) (by refine blk_put (cs := #[.int .i64 t161, .int .i64 t162, .int .i64 0]) ?_ 2 _ rfl; refine blk_put (cs := #[.int .i64 t161, .int .i64 0, .int .i64 0]) ?_ 1 _ rfl; refine blk_put (cs := #[.int .i64 0, .int .i64 0, .int .i64 0]) ?_ 0 _ rfl; exact BK166.out) NB166_0.out (by simp)); replace HK := am (KeepBut.trans (by repeat (with_reducible first | exact HK.out | refine keep_far ?_ GW166.out _)) hk (.inl rfl)); replace HB := am (hb); replace HI0 := am (hi); (try clear hb); (try clear hk); (try clear hi)) | ((with_reducible refine gate_dst (N := 23) rfl ?_); refine Kd.R_lit (Kd.int .i64) _ 3 ?hg (N := 23) ?hd (xs := ([(-1), 4] : List Int)) (inner := [.int .i64 (-1), .int .i64 4]) (ok := fun _ => True) (okp := fun _ => True) ?hr ?hp (fun _ hk => hk) trivial (Below.refl _ _) (Nat.le_refl _) (by simp) ?_; (case hd => rfl); (case hg => rfl); (case hr => (go_simp; done)); (case hp => exact (Reps.one (show Kd.M (Kd.int .i64) _ _ _ (-1) [.int .i64 (-1)] from rfl) (Reps.one (show Kd.M (Kd.int .i64) _ _ _ 4 [.int .i64 4] from rfl) (Reps.none _ _)))); intro v183 w45 ho46 hb hg_ hnew_; clear hg_ hnew_; (rw [← Ny182.out] at ho46); have HO184 := am (Kd.R_lower ho46 (keep_size (w := w) (g := g) (row := none) HK.out)); replace HI0 := am (IsS163.below HI0.out hb); replace BK160 := am (blk_below BK160.out hb); replace BK166 := am (blk_below BK166.out hb); replace HK := am (KeepBut.trans HK.out (KeepBut.of_below hb g none) (.inl rfl)); replace HB := am (below_step HB.out hb); clear hb ho46; obtain ⟨Ao47, co47, eo47⟩ := Kd.R_slice HO184.out; subst eo47) | ((with_reducible refine gate_callee (f := 110) rfl ?_); refine goesL_ (some 24) rfl rfl Try.func110 (by kernel_rfl) rfl #[.pointer (some ⟨g, 0, none⟩), .slice Ao47 y182.length co47] rfl (by (try simp only [List.map_toArray, List.map_cons, List.map_nil]); rfl) ?_; (with_reducible refine (spec_l1PickInt.calls g s0_0 t168 t169 _ _ y182 t185 t186 t187 w0 _ ?side1 ?side2 ?side3 ?side4 ?side5 A37.out).mono ?_); (case side1 => repeat (with_reducible exact HI0.out)); (case side2 => repeat (with_reducible exact HB.out)); (case side3 => repeat (exact (Kd.R_reads' HO184.out).2.2)); (case side4 => exact (Kd.R_reads' HO184.out).2.1); (case side5 => exact far_slice (IsS163.own_ne HI0.out HO184.out (by decide))); rintro e w48 ⟨rfl, hi, hb, hk⟩; refine ⟨_, rfl, ?_⟩; replace BK160 := am (KeepBut.blk hk (g' := gb160) (o := .cells #[.int .i64 0, .int .i64 0, .int .i64 0] 60 (0, 0)) BK160.out NB160_0.out (by simp)); replace BK166 := am (KeepBut.blk hk (g' := gb166) (o := .cells #[.int .i64 t161, .int .i64 t162, .int .i64 t163] 60 (0, 0)) BK166.out NB166_0.out (by simp)); replace HO184 := am (Kd.R_mono (Kd.R_keep (IsS163.apart (show IsS163 w0 _ g s0_0 t168 t169 from by exact HI0.out) HO184.out (by decide)) hk (fun _ h => h.2)) (fun _ h => h.1)); replace HK := am (KeepBut.trans HK.out hk (.inl rfl)); replace HB := am (hb); replace HI0 := am (hi); (try clear hb); (try clear hk); (try clear hi); obtain ⟨hcz49_0, hcz49_1, hcz49_2, hfz49_0, hfz49_1, hfz49_2⟩ := cells3_ BK166.out; have hnb50 := NB160_0.out; have hnc50 := NB0_160.out; obtain ⟨hcz51_0, hcz51_1, hcz51_2, hfz51_0, hfz51_1, hfz51_2⟩ := cells3_ BK160.out))
    refine bodyPost_ret (results_cell_row rfl _ _ gb160 60 #[.int .i64 t161, .int .i64 t162, .int .i64 t185] (0, 0) _ rfl (by refine blk_put (cs := #[.int .i64 t161, .int .i64 t162, .int .i64 0]) ?_ 2 _ rfl; refine blk_put (cs := #[.int .i64 t161, .int .i64 0, .int .i64 0]) ?_ 1 _ rfl; refine blk_put (cs := #[.int .i64 0, .int .i64 0, .int .i64 0]) ?_ 0 _ rfl; refine blk_far ?_ NB160_166.out _; exact BK160.out) Try.underlying60 rfl (by kernel_rfl)) rfl ?_
    exact ⟨rfl, by repeat ((with_reducible first | exact HI0.out | refine IsS163.far ?_ NB0_160.out _ | refine IsS163.far ?_ NB0_166.out _)), by repeat ((with_reducible first | exact HB.out | refine below_set ?_ GE160.out | refine below_set ?_ GE166.out)), by repeat ((with_reducible first | exact HK.out | refine keep_far ?_ GW160.out _ | refine keep_far ?_ GW166.out _))⟩
   ·rw [if_neg c36] at H
    have c36b0 : (t167 == 2) = false := beq_eq_false_iff_ne.mpr c36
    have c36b1 : (t167 != 2) = true := bne_iff_ne.mpr c36
    simp only [Option.some.injEq, Prod.mk.injEq] at H
    obtain ⟨rfl, rfl, rfl, rfl, rfl⟩ := H
    go_enter Try.func176, Try.ntmps176
    go_wp2_with (first | ((with_reducible refine gate_dst (N := 2) rfl ?_); refine box_event ?hg (N := 2) ?hd (cs := #[.int .i64 0, .int .i64 0, .int .i64 0]) (t := 60) ?hr ?_; (case hd => rfl); (case hg => rfl); (case hr => (go_simp; done)); intro gb160 hg w52 hbox hb; replace HB := am (below_step HB.out hb); have BK160 := am (hbox); have GW160 := am ((by rw [hg]; exact (keep_size (w := w) (g := g) (row := none) HK.out) : w.heap.size ≤ gb160)); have GE160 := am ((Nat.le_trans HW0.out (by rw [hg]; exact (keep_size (w := w) (g := g) (row := none) HK.out) : w.heap.size ≤ gb160) : w0.heap.size ≤ gb160)); replace HK := am (KeepBut.trans HK.out (KeepBut.of_below hb g none) (.inl rfl)); have NB0_160 := am ((by rw [hg]; exact Nat.ne_of_lt (IsS163.lt (show IsS163 w0 _ g s0_0 s0_1 s0_2 from by exact HI0.out)) : g ≠ gb160)); have NB160_0 := am ((by rw [hg]; exact Nat.ne_of_gt (IsS163.lt (show IsS163 w0 _ g s0_0 s0_1 s0_2 from by exact HI0.out)) : gb160 ≠ g)); replace HI0 := am (IsS163.below HI0.out hb); clear hb hbox hg) | ((with_reducible refine gate_callee (f := 195) rfl ?_); refine goesL_ (some 5) rfl rfl Try.func195 (by kernel_rfl) rfl #[.pointer (some ⟨g, 0, none⟩), .int .i64 10] rfl (by (try simp only [List.map_toArray, List.map_cons, List.map_nil]); rfl) ?_; (with_reducible refine (spec_l2Row.calls g s0_0 s0_1 s0_2 10 t161 t162 t163 t164 t165 w0 _ ?side1 ?side2 A2.out).mono ?_); (case side1 => repeat (with_reducible exact HI0.out)); (case side2 => repeat (with_reducible exact HB.out)); rintro e w53 ⟨rfl, hi, hb, hk⟩; refine ⟨_, rfl, ?_⟩; replace BK160 := am (KeepBut.blk hk (g' := gb160) (o := .cells #[.int .i64 0, .int .i64 0, .int .i64 0] 60 (0, 0)) BK160.out NB160_0.out (by simp)); replace HK := am (KeepBut.trans HK.out hk (.inl rfl)); replace HB := am (hb); replace HI0 := am (hi); (try clear hb); (try clear hk); (try clear hi)) | ((with_reducible refine gate_dst (N := 3) rfl ?_); refine box_event ?hg (N := 3) ?hd (cs := #[.int .i64 0, .int .i64 0, .int .i64 0]) (t := 60) ?hr ?_; (case hd => rfl); (case hg => rfl); (case hr => (go_simp; done)); intro gb166 hg w54 hbox hb; replace HB := am (below_step HB.out hb); have BK166 := am (hbox); have GW166 := am ((by rw [hg]; exact (keep_size (w := w) (g := g) (row := none) HK.out) : w.heap.size ≤ gb166)); have GE166 := am ((Nat.le_trans HW0.out (by rw [hg]; exact (keep_size (w := w) (g := g) (row := none) HK.out) : w.heap.size ≤ gb166) : w0.heap.size ≤ gb166)); replace HK := am (KeepBut.trans HK.out (KeepBut.of_below hb g none) (.inl rfl)); have NB160_166 := am ((by rw [hg]; exact Nat.ne_of_lt (blk_lt (g := gb160) (o := .cells #[.int .i64 0, .int .i64 0, .int .i64 0] 60 (0, 0)) BK160.out) : gb160 ≠ gb166)); have NB166_160 := am ((by rw [hg]; exact Nat.ne_of_gt (blk_lt (g := gb160) (o := .cells #[.int .i64 0, .int .i64 0, .int .i64 0] 60 (0, 0)) BK160.out) : gb166 ≠ gb160)); replace BK160 := am (blk_below BK160.out hb); have NB0_166 := am ((by rw [hg]; exact Nat.ne_of_lt (IsS163.lt (show IsS163 w0 _ g s0_0 t164 t165 from by exact HI0.out)) : g ≠ gb166)); have NB166_0 := am ((by rw [hg]; exact Nat.ne_of_gt (IsS163.lt (show IsS163 w0 _ g s0_0 t164 t165 from by exact HI0.out)) : gb166 ≠ g)); replace HI0 := am (IsS163.below HI0.out hb); clear hb hbox hg; have hnb55 := NB166_160.out; have hnc55 := NB160_166.out; have hnb56 := NB166_0.out; have hnc56 := NB0_166.out; obtain ⟨hcz57_0, hcz57_1, hcz57_2, hfz57_0, hfz57_1, hfz57_2⟩ := cells3_ BK166.out) | ((with_reducible refine gate_callee (f := 177) rfl ?_); refine goesL_ (some 7) rfl rfl Try.func177 (by kernel_rfl) rfl #[.pointer (some ⟨g, 0, none⟩), .int .i64 8] rfl (by (try simp only [List.map_toArray, List.map_cons, List.map_nil]); rfl) ?_; (with_reducible refine (spec_l1Below.calls g s0_0 t164 t165 8 t167 t168 t169 w0 _ ?side1 ?side2 A3.out).mono ?_); (case side1 => repeat (with_reducible first | exact HI0.out | refine IsS163.far ?_ NB0_166.out _)); (case side2 => repeat (with_reducible first | exact HB.out | refine below_set ?_ GE166.out)); rintro e w58 ⟨rfl, hi, hb, hk⟩; refine ⟨_, rfl, ?_⟩; replace BK160 := am (KeepBut.blk hk (g' := gb160) (o := .cells #[.int .i64 0, .int .i64 0, .int .i64 0] 60 (0, 0)) (by refine blk_far ?_ NB160_166.out _; refine blk_far ?_ NB160_166.out _; refine blk_far ?_ NB160_166.out _; exact BK160.out) NB160_0.out (by simp)); replace BK166 := am (KeepBut.blk hk (g' := gb166) (o := .cells #[.int .i64 t161, .int .i64 t162, .int .i64 t163] 60 (0, 0)) (by refine blk_put (cs := #[.int .i64 t161, .int .i64 t162, .int .i64 0]) ?_ 2 _ rfl; refine blk_put (cs := #[.int .i64 t161, .int .i64 0, .int .i64 0]) ?_ 1 _ rfl; refine blk_put (cs := #[.int .i64 0, .int .i64 0, .int .i64 0]) ?_ 0 _ rfl; exact BK166.out) NB166_0.out (by simp)); replace HK := am (KeepBut.trans (by repeat (with_reducible first | exact HK.out | refine keep_far ?_ GW166.out _)) hk (.inl rfl)); replace HB := am (hb); replace HI0 := am (hi); (try clear hb); (try clear hk); (try clear hi); obtain ⟨hcz59_0, hcz59_1, hcz59_2, hfz59_0, hfz59_1, hfz59_2⟩ := cells3_ BK166.out; have hnb60 := NB160_0.out; have hnc60 := NB0_160.out; obtain ⟨hcz61_0, hcz61_1, hcz61_2, hfz61_0, hfz61_1, hfz61_2⟩ := cells3_ BK160.out))
    refine bodyPost_ret (results_cell_row rfl _ _ gb160 60 #[.int .i64 t161, .int .i64 t162, .int .i64 t163] (0, 0) _ rfl (by refine blk_put (cs := #[.int .i64 t161, .int .i64 t162, .int .i64 0]) ?_ 2 _ rfl; refine blk_put (cs := #[.int .i64 t161, .int .i64 0, .int .i64 0]) ?_ 1 _ rfl; refine blk_put (cs := #[.int .i64 0, .int .i64 0, .int .i64 0]) ?_ 0 _ rfl; exact BK160.out) Try.underlying60 rfl (by kernel_rfl)) rfl ?_
    exact ⟨rfl, by repeat ((with_reducible first | exact HI0.out | refine IsS163.far ?_ NB0_160.out _)), by repeat ((with_reducible first | exact HB.out | refine below_set ?_ GE160.out)), by repeat ((with_reducible first | exact HK.out | refine keep_far ?_ GW160.out _))⟩

def spec_l2Bent.f (k : Nat) (s0_0 : List Int) (s0_1 : Int) (s0_2 : Int) (a1 : Int) : Option ((List (S60)) × Int × Int) := (spec_l2Rows.f k s0_0 s0_1 s0_2 a1).bind fun bt188 => ((spec_l1Once.f s0_0 bt188.2.1 bt188.2.2 14).bind fun bt193 => (if bt193.1 = true then ((spec_l2Any.f s0_0 bt193.2.1 bt193.2.2).bind fun bt196 => (if bt188.1.length < 5864062014805 then (some ((bt188.1 ++ [(⟨bt196.1, bt196.2.1, bt196.2.2.1⟩ : S60)]), bt196.2.2.2.1, bt196.2.2.2.2)) else (none))) else (some (bt188.1, bt193.2.1, bt193.2.2))))
theorem spec_l2Bent.calls (k : Nat) (g : Nat) (s0_0 : List Int) (s0_1 : Int) (s0_2 : Int) (a1 : Int) (r1 : List (S60)) (r2 : Int) (r3 : Int) (w0 w : World) (hI : IsS163 w0 w g s0_0 s0_1 s0_2) (hB : Below w0.heap.size w0 w) (h : spec_l2Bent.f k s0_0 s0_1 s0_2 a1 = some (r1, r2, r3)) :
  Calls Try.prog 109 #[.pointer (some ⟨g, 0, none⟩), .int .i64 a1] w fun e w' => ∃ v0_ : Value, e = .returned (v0_) ∧ Kd.R k60 60 w' w.heap.size (fun _ => True) v0_ r1 ∧ IsS163 w0 w' g s0_0 r2 r3 ∧ Below w0.heap.size w0 w' ∧ KeepBut w w' g none := by
 have HI0 := am hI
 have HK := am (KeepBut.refl w g none)
 have HL := am hB.size
 clear hI
 have HW0 := am hB.size
 have HB := am hB
 clear hB
 have H : ((spec_l2Rows.f k s0_0 s0_1 s0_2 a1).bind fun bt188 => ((spec_l1Once.f s0_0 bt188.2.1 bt188.2.2 14).bind fun bt193 => (if bt193.1 = true then ((spec_l2Any.f s0_0 bt193.2.1 bt193.2.2).bind fun bt196 => (if bt188.1.length < 5864062014805 then (some ((bt188.1 ++ [(⟨bt196.1, bt196.2.1, bt196.2.2.1⟩ : S60)]), bt196.2.2.2.1, bt196.2.2.2.2)) else (none))) else (some (bt188.1, bt193.2.1, bt193.2.2))))) = some (r1, r2, r3) := h
 clear h
 replace H := Option.bind_eq_some_iff.mp H
 obtain ⟨⟨t188, t191, t192⟩, A30, H⟩ := H
 have A3 := am A30
 clear A30
 replace H := Option.bind_eq_some_iff.mp H
 obtain ⟨⟨t193, t194, t195⟩, A40, H⟩ := H
 have A4 := am A40
 clear A40
 by_cases c5 : t193 = true
 ·subst c5
  rw [if_pos rfl] at H
  replace H := Option.bind_eq_some_iff.mp H
  obtain ⟨⟨t196, t197, t198, t199, t200⟩, A60, H⟩ := H
  have A6 := am A60
  clear A60
  by_cases c7 : t188.length < 5864062014805
  ·rw [if_pos c7] at H
   have LMc7 := am c7
   clear c7
   obtain ⟨y201, hy201⟩ : ∃ y_ : List (S60), y_ = (t188 ++ [(⟨t196, t197, t198⟩ : S60)]) := ⟨_, rfl⟩
   replace H : (some (y201, t199, t200)) = some (r1, r2, r3) := by (rw [hy201]; with_reducible exact H)
   have Ny201 := am hy201
   clear hy201
   simp only [Option.some.injEq, Prod.mk.injEq] at H
   obtain ⟨rfl, rfl, rfl⟩ := H
   go_enter Try.func109, Try.ntmps109
   go_wp2_with (first | ((with_reducible refine gate_callee (f := 175) rfl ?_); refine goesL_ (some 8) rfl rfl Try.func175 (by kernel_rfl) rfl #[.pointer (some ⟨g, 0, none⟩), .int .i64 a1] rfl (by (try simp only [List.map_toArray, List.map_cons, List.map_nil]); rfl) ?_; (with_reducible refine (spec_l2Rows.calls k g s0_0 s0_1 s0_2 a1 t188 t191 t192 w0 _ ?side1 ?side2 A3.out).mono ?_); (case side1 => repeat (with_reducible exact HI0.out)); (case side2 => repeat (with_reducible exact HB.out)); rintro e w8 ⟨v189, rfl, ho0, hi, hb, hk⟩; refine ⟨_, rfl, ?_⟩; have HO190 := am (Kd.R_lower ho0 (keep_size (w := w) (g := g) (row := none) HK.out)); replace HK := am (KeepBut.trans HK.out hk (.inl rfl)); replace HB := am (hb); replace HI0 := am (hi); (try clear hb); (try clear hk); (try clear hi); (try clear ho0)) | ((with_reducible refine gate_callee (f := 158) rfl ?_); refine goesL_ (some 10) rfl rfl Try.func158 (by kernel_rfl) rfl #[.pointer (some ⟨g, 0, none⟩), .int .i64 14] rfl (by (try simp only [List.map_toArray, List.map_cons, List.map_nil]); rfl) ?_; (with_reducible refine (spec_l1Once.calls g s0_0 t191 t192 14 true t194 t195 w0 _ ?side1 ?side2 A4.out).mono ?_); (case side1 => repeat (with_reducible exact HI0.out)); (case side2 => repeat (with_reducible exact HB.out)); rintro e w9 ⟨rfl, hi, hb, hk⟩; refine ⟨_, rfl, ?_⟩; replace HO190 := am (Kd.R_mono (Kd.R_keep (IsS163.apart (show IsS163 w0 _ g s0_0 t191 t192 from by exact HI0.out) HO190.out (by decide)) hk (fun _ h => h.2)) (fun _ h => h.1)); replace HK := am (KeepBut.trans HK.out hk (.inl rfl)); replace HB := am (hb); replace HI0 := am (hi); (try clear hb); (try clear hk); (try clear hi)) | ((with_reducible refine gate_callee (f := 176) rfl ?_); refine goesL_ (some 13) rfl rfl Try.func176 (by kernel_rfl) rfl #[.pointer (some ⟨g, 0, none⟩)] rfl (by (try simp only [List.map_toArray, List.map_cons, List.map_nil]); rfl) ?_; (with_reducible refine (spec_l2Any.calls g s0_0 t194 t195 t196 t197 t198 t199 t200 w0 _ ?side1 ?side2 A6.out).mono ?_); (case side1 => repeat (with_reducible exact HI0.out)); (case side2 => repeat (with_reducible exact HB.out)); rintro e w10 ⟨rfl, hi, hb, hk⟩; refine ⟨_, rfl, ?_⟩; replace HO190 := am (Kd.R_mono (Kd.R_keep (IsS163.apart (show IsS163 w0 _ g s0_0 t194 t195 from by exact HI0.out) HO190.out (by decide)) hk (fun _ h => h.2)) (fun _ h => h.1)); replace HK := am (KeepBut.trans HK.out hk (.inl rfl)); replace HB := am (hb); replace HI0 := am (hi); (try clear hb); (try clear hk); (try clear hi)) | ((with_reducible refine gate_builtin (b := .append) (xs := #[.tmp 11, .tmp 14]) rfl ?_); at_builtin; refine Kd.R_append k60 w.heap.size rfl (.tmp 11) (.tmp 14) 24 60 (.agg #[(.int .i64 0), (.int .i64 0), (.int .i64 0)]) 24 rfl Try.underlying24 info60 rfl (by decide) (by omega) v189 t188 (⟨t196, t197, t198⟩ : S60) [.int .i64 t196, .int .i64 t197, .int .i64 t198] (fun _ => True) (fun _ => False) rfl rfl ?aP (fun _ hk => hk.elim) ?aF ?aO (Below.refl _ _) ?aS ?aL ?_; (case aP => exact k60_mkM _ _ _ (⟨t196, t197, t198⟩ : S60)); (case aF => exact (fun _ _ => trivial)); (case aO => exact HO190.out); (case aS => exact (keep_size (w := w) (g := g) (row := none) HK.out)); (case aL => have := LMc7.out; omega); intro v202 w11 ho hb hg hat; rw [← Ny201.out] at ho; replace HI0 := am (IsS163.grown HI0.out hg (IsS163.own_ne HI0.out HO190.out (by decide))); replace HB := am (below_weaken HB.out HL.out hb); replace HK := am (KeepBut.trans HK.out (KeepBut.of_grown hg g) (Kd.R_base2 HO190.out)); have HO203 := am (ho); clear HO190 ho hb hg hat))
   go_ret
   exact ⟨_, rfl, HO203.out, HI0.out, HB.out, HK.out⟩
  ·rw [if_neg c7] at H
   exact absurd H (by simp)
 ·replace c5 := Bool.eq_false_iff.mpr c5
  subst c5
  rw [if_neg (show ¬ (false = true) by decide)] at H
  simp only [Option.some.injEq, Prod.mk.injEq] at H
  obtain ⟨rfl, rfl, rfl⟩ := H
  go_enter Try.func109, Try.ntmps109
  go_wp2_with (first | ((with_reducible refine gate_callee (f := 175) rfl ?_); refine goesL_ (some 8) rfl rfl Try.func175 (by kernel_rfl) rfl #[.pointer (some ⟨g, 0, none⟩), .int .i64 a1] rfl (by (try simp only [List.map_toArray, List.map_cons, List.map_nil]); rfl) ?_; (with_reducible refine (spec_l2Rows.calls k g s0_0 s0_1 s0_2 a1 t188 t191 t192 w0 _ ?side1 ?side2 A3.out).mono ?_); (case side1 => repeat (with_reducible exact HI0.out)); (case side2 => repeat (with_reducible exact HB.out)); rintro e w12 ⟨v189, rfl, ho0, hi, hb, hk⟩; refine ⟨_, rfl, ?_⟩; have HO190 := am (Kd.R_lower ho0 (keep_size (w := w) (g := g) (row := none) HK.out)); replace HK := am (KeepBut.trans HK.out hk (.inl rfl)); replace HB := am (hb); replace HI0 := am (hi); (try clear hb); (try clear hk); (try clear hi); (try clear ho0)) | ((with_reducible refine gate_callee (f := 158) rfl ?_); refine goesL_ (some 10) rfl rfl Try.func158 (by kernel_rfl) rfl #[.pointer (some ⟨g, 0, none⟩), .int .i64 14] rfl (by (try simp only [List.map_toArray, List.map_cons, List.map_nil]); rfl) ?_; (with_reducible refine (spec_l1Once.calls g s0_0 t191 t192 14 false t194 t195 w0 _ ?side1 ?side2 A4.out).mono ?_); (case side1 => repeat (with_reducible exact HI0.out)); (case side2 => repeat (with_reducible exact HB.out)); rintro e w13 ⟨rfl, hi, hb, hk⟩; refine ⟨_, rfl, ?_⟩; replace HO190 := am (Kd.R_mono (Kd.R_keep (IsS163.apart (show IsS163 w0 _ g s0_0 t191 t192 from by exact HI0.out) HO190.out (by decide)) hk (fun _ h => h.2)) (fun _ h => h.1)); replace HK := am (KeepBut.trans HK.out hk (.inl rfl)); replace HB := am (hb); replace HI0 := am (hi); (try clear hb); (try clear hk); (try clear hi)))
  go_ret
  exact ⟨_, rfl, HO190.out, HI0.out, HB.out, HK.out⟩

def spec_DrawNextChunk.f (k : Nat) (l0 : List Int) : Option ((List (S60)) × Int) := (spec_l1New.f k l0).bind fun bt204 => ((spec_l2Bent.f k bt204.1 bt204.2.1 bt204.2.2 8).bind fun bt208 => ((spec_l1PickInt.f bt204.1 bt208.2.1 bt208.2.2 (([0, 1, 8, 12, (-1)] : List Int))).bind fun bt216 => (some (bt208.1, bt216.1))))
theorem spec_DrawNextChunk.calls (k : Nat) (A0 : Option Addr) (c0 : Nat) (l0 : List Int) (r1 : List (S60)) (r2 : Int) (w : World) (hr0 : Kd.C (Kd.int .u8) w A0 l0.length l0) (hc0 : l0.length ≤ c0) (h : spec_DrawNextChunk.f k l0 = some (r1, r2)) :
  Calls Try.prog 17 #[.slice A0 l0.length c0] w fun e w' => ∃ v0_ : Value, e = .returned (.tuple #[v0_, .int .i64 r2]) ∧ Kd.R k60 60 w' w.heap.size (fun _ => True) v0_ r1 ∧ Below w.heap.size w w' := by
 have HR0 := am hr0
 have HC0 := am hc0
 clear hr0 hc0
 have HB := am (Below.refl w.heap.size w)
 have H : ((spec_l1New.f k l0).bind fun bt204 => ((spec_l2Bent.f k bt204.1 bt204.2.1 bt204.2.2 8).bind fun bt208 => ((spec_l1PickInt.f bt204.1 bt208.2.1 bt208.2.2 (([0, 1, 8, 12, (-1)] : List Int))).bind fun bt216 => (some (bt208.1, bt216.1))))) = some (r1, r2) := h
 clear h
 replace H := Option.bind_eq_some_iff.mp H
 obtain ⟨⟨t204, t205, t206⟩, A20, H⟩ := H
 have A2 := am A20
 clear A20
 replace H := Option.bind_eq_some_iff.mp H
 obtain ⟨⟨t208, t211, t212⟩, A30, H⟩ := H
 have A3 := am A30
 clear A30
 obtain ⟨y213, hy213⟩ : ∃ y_ : List Int, y_ = (([0, 1, 8, 12, (-1)] : List Int)) := ⟨_, rfl⟩
 replace H : ((spec_l1PickInt.f t204 t211 t212 y213).bind fun bt216 => (some (t208, bt216.1))) = some (r1, r2) := by (rw [hy213]; with_reducible exact H)
 have Ny213 := am hy213
 clear hy213
 replace H := Option.bind_eq_some_iff.mp H
 obtain ⟨⟨t216, t217, t218⟩, A40, H⟩ := H
 have A4 := am A40
 clear A40
 simp only [Option.some.injEq, Prod.mk.injEq] at H
 obtain ⟨rfl, rfl⟩ := H
 go_enter Try.func17, Try.ntmps17
 go_wp2_with (first | ((with_reducible refine gate_callee (f := 108) rfl ?_); refine goesL_ (some 6) rfl rfl Try.func108 (by kernel_rfl) rfl #[.slice A0 l0.length c0] rfl (by (try simp only [List.map_toArray, List.map_cons, List.map_nil]); rfl) ?_; (with_reducible refine (spec_l1New.calls k _ _ l0 t204 t205 t206 w _ ?side1 ?side2 ?side3 A2.out).mono ?_); (case side1 => repeat (with_reducible exact HB.out)); (case side2 => exact HR0.out); (case side3 => exact HC0.out); rintro e w5 ⟨g207, rfl, hi, hb, hb2⟩; refine ⟨_, rfl, ?_⟩; replace HB := am (hb); have HI207 := am (hi); (try clear hb); (try clear hb2); (try clear hk); (try clear hi)) | ((with_reducible refine gate_callee (f := 109) rfl ?_); refine goesL_ (some 8) rfl rfl Try.func109 (by kernel_rfl) rfl #[.pointer (some ⟨g207, 0, none⟩), .int .i64 8] rfl (by (try simp only [List.map_toArray, List.map_cons, List.map_nil]); rfl) ?_; (with_reducible refine (spec_l2Bent.calls k g207 t204 t205 t206 8 t208 t211 t212 w _ ?side1 ?side2 A3.out).mono ?_); (case side1 => repeat (with_reducible exact HI207.out)); (case side2 => repeat (with_reducible exact HB.out)); rintro e w6 ⟨v209, rfl, ho0, hi, hb, hk⟩; refine ⟨_, rfl, ?_⟩; have HO210 := am (Kd.R_lower ho0 (below_size HB.out)); replace HB := am (hb); replace HI207 := am (hi); (try clear hb); (try clear hb2); (try clear hk); (try clear hi); (try clear ho0)) | ((with_reducible refine gate_dst (N := 10) rfl ?_); refine Kd.R_lit (Kd.int .i64) _ 3 ?hg (N := 10) ?hd (xs := ([0, 1, 8, 12, (-1)] : List Int)) (inner := [.int .i64 0, .int .i64 1, .int .i64 8, .int .i64 12, .int .i64 (-1)]) (ok := fun _ => True) (okp := fun _ => True) ?hr ?hp (fun _ hk => hk) trivial (Below.refl _ _) (Nat.le_refl _) (by simp) ?_; (case hd => rfl); (case hg => rfl); (case hr => (go_simp; done)); (case hp => exact (Reps.one (show Kd.M (Kd.int .i64) _ _ _ 0 [.int .i64 0] from rfl) (Reps.one (show Kd.M (Kd.int .i64) _ _ _ 1 [.int .i64 1] from rfl) (Reps.one (show Kd.M (Kd.int .i64) _ _ _ 8 [.int .i64 8] from rfl) (Reps.one (show Kd.M (Kd.int .i64) _ _ _ 12 [.int .i64 12] from rfl) (Reps.one (show Kd.M (Kd.int .i64) _ _ _ (-1) [.int .i64 (-1)] from rfl) (Reps.none _ _))))))); intro v214 w7 ho8 hb hg_ hnew_; clear hg_ hnew_; (rw [← Ny213.out] at ho8); replace HO210 := am (Kd.R_below HO210.out hb); have HO215 := am (Kd.R_lower ho8 (below_size HB.out)); replace HI207 := am (IsS163.below HI207.out hb); replace HB := am (below_step HB.out hb); clear hb ho8; obtain ⟨Ao9, co9, eo9⟩ := Kd.R_slice HO215.out; subst eo9) | ((with_reducible refine gate_callee (f := 110) rfl ?_); refine goesL_ (some 11) rfl rfl Try.func110 (by kernel_rfl) rfl #[.pointer (some ⟨g207, 0, none⟩), .slice Ao9 y213.length co9] rfl (by (try simp only [List.map_toArray, List.map_cons, List.map_nil]); rfl) ?_; (with_reducible refine (spec_l1PickInt.calls g207 t204 t211 t212 _ _ y213 t216 t217 t218 w _ ?side1 ?side2 ?side3 ?side4 ?side5 A4.out).mono ?_); (case side1 => repeat (with_reducible exact HI207.out)); (case side2 => repeat (with_reducible exact HB.out)); (case side3 => repeat (exact (Kd.R_reads' HO215.out).2.2)); (case side4 => exact (Kd.R_reads' HO215.out).2.1); (case side5 => exact far_slice (IsS163.own_ne HI207.out HO215.out (by decide))); rintro e w10 ⟨rfl, hi, hb, hk⟩; refine ⟨_, rfl, ?_⟩; replace HO210 := am (Kd.R_mono (Kd.R_keep (IsS163.apart (show IsS163 w _ g207 t204 t211 t212 from by exact HI207.out) HO210.out (by decide)) hk (fun _ h => h.2)) (fun _ h => h.1)); replace HO215 := am (Kd.R_mono (Kd.R_keep (IsS163.apart (show IsS163 w _ g207 t204 t211 t212 from by exact HI207.out) HO215.out (by decide)) hk (fun _ h => h.2)) (fun _ h => h.1)); replace HB := am (hb); replace HI207 := am (hi); (try clear hb); (try clear hb2); (try clear hk); (try clear hi)))
 go_ret2
 exact ⟨_, rfl, HO210.out, HB.out⟩

def impl_within.f (a0 : Int) (a1 : Int) (a2 : Int) : Option (Bool) := if a0 ≥ a1 then (some (decide (a0 ≤ a2))) else (some false)
theorem impl_within.calls (a0 : Int) (a1 : Int) (a2 : Int) (r : Bool) (w : World) (h : impl_within.f a0 a1 a2 = some r) :
  Calls Try.prog 134 #[.int .i64 a0, .int .i64 a1, .int .i64 a2] w fun e w' => e = .returned (.bool r) ∧ Drawn0 w w' := by
 have H : (if a0 ≥ a1 then (some (decide (a0 ≤ a2))) else (some false)) = some r := h
 clear h
 by_cases c4 : a0 ≥ a1
 ·rw [if_pos c4] at H
  have c4b0 : decide (a1 ≤ a0) = true := decide_eq_true c4
  clear c4
  obtain rfl := Option.some.inj H
  go_enter Try.func134, Try.ntmps134
  go_wp2
  go_ret
  exact ⟨rfl, by repeat (exact Drawn0.refl _)⟩
 ·rw [if_neg c4] at H
  have c4b0 : decide (a1 ≤ a0) = false := decide_eq_false c4
  clear c4
  obtain rfl := Option.some.inj H
  go_enter Try.func134, Try.ntmps134
  go_wp2
  go_ret
  exact ⟨rfl, by repeat (exact Drawn0.refl _)⟩

def impl_IsValidRow.f (a0_0 : Int) (a0_1 : Int) (a0_2 : Int) : Option (Bool) := (impl_within.f a0_0 0 9).bind fun t220 => (if t220 = true then ((impl_within.f a0_1 0 99).bind fun t221 => (if t221 = true then ((impl_within.f a0_2 0 3).bind fun t222 => (some t222)) else (some false))) else (some false))
theorem impl_IsValidRow.calls (a0_0 : Int) (a0_1 : Int) (a0_2 : Int) (r : Bool) (w : World) (h : impl_IsValidRow.f a0_0 a0_1 a0_2 = some r) :
  Calls Try.prog 196 #[.agg #[.int .i64 a0_0, .int .i64 a0_1, .int .i64 a0_2]] w fun e w' => e = .returned (.bool r) ∧ Below w.heap.size w w' := by
 have hu60 := Try.underlying60
 have HB := am (Below.refl w.heap.size w)
 have H : ((impl_within.f a0_0 0 9).bind fun t220 => (if t220 = true then ((impl_within.f a0_1 0 99).bind fun t221 => (if t221 = true then ((impl_within.f a0_2 0 3).bind fun t222 => (some t222)) else (some false))) else (some false))) = some r := h
 clear h
 replace H := Option.bind_eq_some_iff.mp H
 obtain ⟨t220, A20, H⟩ := H
 have A2 := am A20
 clear A20
 by_cases c3 : t220 = true
 ·subst c3
  rw [if_pos rfl] at H
  replace H := Option.bind_eq_some_iff.mp H
  obtain ⟨t221, A40, H⟩ := H
  have A4 := am A40
  clear A40
  by_cases c5 : t221 = true
  ·subst c5
   rw [if_pos rfl] at H
   replace H := Option.bind_eq_some_iff.mp H
   obtain ⟨t222, A60, H⟩ := H
   have A6 := am A60
   clear A60
   obtain rfl := Option.some.inj H
   go_enter Try.func196, Try.ntmps196
   go_wp2_with (first | ((with_reducible refine gate_dst (N := 1) rfl ?_); refine box_event ?hg (N := 1) ?hd (cs := #[.int .i64 a0_0, .int .i64 a0_1, .int .i64 a0_2]) (t := 60) ?hr ?_; (case hd => rfl); (case hg => rfl); (case hr => (go_simp; done)); intro gb219 hg w7 hbox hb; have BK219 := am (hbox); have GW219 := am (gw_ hg HB.out); have GE219 := am (gw_ hg HB.out); replace HB := am (below_step HB.out hb); clear hb hbox hg; obtain ⟨hcz8_0, hcz8_1, hcz8_2, hfz8_0, hfz8_1, hfz8_2⟩ := cells3_ BK219.out) | ((with_reducible refine gate_callee (f := 134) rfl ?_); refine goesL_ (some 5) rfl rfl Try.func134 (by kernel_rfl) rfl #[.int .i64 a0_0, .int .i64 0, .int .i64 9] rfl (by (try simp only [List.map_toArray, List.map_cons, List.map_nil]); rfl) ?_; (with_reducible refine (impl_within.calls a0_0 0 9 true _ A2.out).mono ?_); rintro e w' ⟨rfl, ⟨nd, rfl⟩⟩; refine ⟨_, rfl, ?_⟩) | (go_at_call 134; (with_reducible refine (impl_within.calls a0_1 0 99 true _ A4.out).mono ?_); rintro e w' ⟨rfl, ⟨nd, rfl⟩⟩) | (go_at_call 134; (with_reducible refine (impl_within.calls a0_2 0 3 t222 _ A6.out).mono ?_); rintro e w' ⟨rfl, ⟨nd, rfl⟩⟩))
   go_ret
   exact ⟨rfl, by repeat ((with_reducible first | exact HB.out | apply pw_below_drewN))⟩
  ·replace c5 := Bool.eq_false_iff.mpr c5
   subst c5
   rw [if_neg (show ¬ (false = true) by decide)] at H
   obtain rfl := Option.some.inj H
   go_enter Try.func196, Try.ntmps196
   go_wp2_with (first | ((with_reducible refine gate_dst (N := 1) rfl ?_); refine box_event ?hg (N := 1) ?hd (cs := #[.int .i64 a0_0, .int .i64 a0_1, .int .i64 a0_2]) (t := 60) ?hr ?_; (case hd => rfl); (case hg => rfl); (case hr => (go_simp; done)); intro gb219 hg w9 hbox hb; have BK219 := am (hbox); have GW219 := am (gw_ hg HB.out); have GE219 := am (gw_ hg HB.out); replace HB := am (below_step HB.out hb); clear hb hbox hg; obtain ⟨hcz10_0, hcz10_1, hcz10_2, hfz10_0, hfz10_1, hfz10_2⟩ := cells3_ BK219.out) | ((with_reducible refine gate_callee (f := 134) rfl ?_); refine goesL_ (some 5) rfl rfl Try.func134 (by kernel_rfl) rfl #[.int .i64 a0_0, .int .i64 0, .int .i64 9] rfl (by (try simp only [List.map_toArray, List.map_cons, List.map_nil]); rfl) ?_; (with_reducible refine (impl_within.calls a0_0 0 9 true _ A2.out).mono ?_); rintro e w' ⟨rfl, ⟨nd, rfl⟩⟩; refine ⟨_, rfl, ?_⟩) | (go_at_call 134; (with_reducible refine (impl_within.calls a0_1 0 99 false _ A4.out).mono ?_); rintro e w' ⟨rfl, ⟨nd, rfl⟩⟩))
   go_ret
   exact ⟨rfl, by repeat ((with_reducible first | exact HB.out | apply pw_below_drewN))⟩
 ·replace c3 := Bool.eq_false_iff.mpr c3
  subst c3
  rw [if_neg (show ¬ (false = true) by decide)] at H
  obtain rfl := Option.some.inj H
  go_enter Try.func196, Try.ntmps196
  go_wp2_with (first | ((with_reducible refine gate_dst (N := 1) rfl ?_); refine box_event ?hg (N := 1) ?hd (cs := #[.int .i64 a0_0, .int .i64 a0_1, .int .i64 a0_2]) (t := 60) ?hr ?_; (case hd => rfl); (case hg => rfl); (case hr => (go_simp; done)); intro gb219 hg w11 hbox hb; have BK219 := am (hbox); have GW219 := am (gw_ hg HB.out); have GE219 := am (gw_ hg HB.out); replace HB := am (below_step HB.out hb); clear hb hbox hg; obtain ⟨hcz12_0, hcz12_1, hcz12_2, hfz12_0, hfz12_1, hfz12_2⟩ := cells3_ BK219.out) | ((with_reducible refine gate_callee (f := 134) rfl ?_); refine goesL_ (some 5) rfl rfl Try.func134 (by kernel_rfl) rfl #[.int .i64 a0_0, .int .i64 0, .int .i64 9] rfl (by (try simp only [List.map_toArray, List.map_cons, List.map_nil]); rfl) ?_; (with_reducible refine (impl_within.calls a0_0 0 9 false _ A2.out).mono ?_); rintro e w' ⟨rfl, ⟨nd, rfl⟩⟩; refine ⟨_, rfl, ?_⟩))
  go_ret
  exact ⟨rfl, by repeat ((with_reducible first | exact HB.out | apply pw_below_drewN))⟩

def impl_RowCost.f (a0_0 : Int) (a0_1 : Int) (a0_2 : Int) : Option (Int) := (impl_IsValidRow.f a0_0 a0_1 a0_2).bind fun t224 => (if t224 = true then (some (wrap64 (1 + a0_2))) else (some 0))
theorem impl_RowCost.calls (a0_0 : Int) (a0_1 : Int) (a0_2 : Int) (r : Int) (w : World) (h : impl_RowCost.f a0_0 a0_1 a0_2 = some r) :
  Calls Try.prog 178 #[.agg #[.int .i64 a0_0, .int .i64 a0_1, .int .i64 a0_2]] w fun e w' => e = .returned (.int .i64 r) ∧ Below w.heap.size w w' := by
 have hu60 := Try.underlying60
 have HB := am (Below.refl w.heap.size w)
 have H : ((impl_IsValidRow.f a0_0 a0_1 a0_2).bind fun t224 => (if t224 = true then (some (wrap64 (1 + a0_2))) else (some 0))) = some r := h
 clear h
 replace H := Option.bind_eq_some_iff.mp H
 obtain ⟨t224, A20, H⟩ := H
 have A2 := am A20
 clear A20
 by_cases c3 : t224 = true
 ·subst c3
  rw [if_pos rfl] at H
  obtain rfl := Option.some.inj H
  go_enter Try.func178, Try.ntmps178
  go_wp2_with (first | ((with_reducible refine gate_dst (N := 1) rfl ?_); refine box_event ?hg (N := 1) ?hd (cs := #[.int .i64 a0_0, .int .i64 a0_1, .int .i64 a0_2]) (t := 60) ?hr ?_; (case hd => rfl); (case hg => rfl); (case hr => (go_simp; done)); intro gb223 hg w4 hbox hb; have BK223 := am (hbox); have GW223 := am (gw_ hg HB.out); have GE223 := am (gw_ hg HB.out); replace HB := am (below_step HB.out hb); clear hb hbox hg; obtain ⟨hcz5_0, hcz5_1, hcz5_2, hfz5_0, hfz5_1, hfz5_2⟩ := cells3_ BK223.out) | ((with_reducible refine gate_callee (f := 196) rfl ?_); refine goesL_ (some 4) rfl rfl Try.func196 (by kernel_rfl) rfl #[.agg #[.int .i64 a0_0, .int .i64 a0_1, .int .i64 a0_2]] rfl (by (try simp only [List.map_toArray, List.map_cons, List.map_nil]); rfl) ?_; (with_reducible refine (impl_IsValidRow.calls a0_0 a0_1 a0_2 true _ A2.out).mono ?_); rintro e w6 ⟨rfl, hb⟩; refine ⟨_, rfl, ?_⟩; replace BK223 := am (blk_below BK223.out hb); replace HB := am (below_step HB.out hb); (try clear hb); obtain ⟨hcz7_0, hcz7_1, hcz7_2, hfz7_0, hfz7_1, hfz7_2⟩ := cells3_ BK223.out))
  go_ret
  exact ⟨rfl, HB.out⟩
 ·replace c3 := Bool.eq_false_iff.mpr c3
  subst c3
  rw [if_neg (show ¬ (false = true) by decide)] at H
  obtain rfl := Option.some.inj H
  go_enter Try.func178, Try.ntmps178
  go_wp2_with (first | ((with_reducible refine gate_dst (N := 1) rfl ?_); refine box_event ?hg (N := 1) ?hd (cs := #[.int .i64 a0_0, .int .i64 a0_1, .int .i64 a0_2]) (t := 60) ?hr ?_; (case hd => rfl); (case hg => rfl); (case hr => (go_simp; done)); intro gb223 hg w8 hbox hb; have BK223 := am (hbox); have GW223 := am (gw_ hg HB.out); have GE223 := am (gw_ hg HB.out); replace HB := am (below_step HB.out hb); clear hb hbox hg; obtain ⟨hcz9_0, hcz9_1, hcz9_2, hfz9_0, hfz9_1, hfz9_2⟩ := cells3_ BK223.out) | ((with_reducible refine gate_callee (f := 196) rfl ?_); refine goesL_ (some 4) rfl rfl Try.func196 (by kernel_rfl) rfl #[.agg #[.int .i64 a0_0, .int .i64 a0_1, .int .i64 a0_2]] rfl (by (try simp only [List.map_toArray, List.map_cons, List.map_nil]); rfl) ?_; (with_reducible refine (impl_IsValidRow.calls a0_0 a0_1 a0_2 false _ A2.out).mono ?_); rintro e w10 ⟨rfl, hb⟩; refine ⟨_, rfl, ?_⟩; replace BK223 := am (blk_below BK223.out hb); replace HB := am (below_step HB.out hb); (try clear hb)))
  go_ret
  exact ⟨rfl, HB.out⟩

def impl_TotalCost.l0 : Nat → Int → List (S60) → Int → Int → Option (Int)
 | 0, _, _, _, _ => none
 | k + 1, x3, x6, x7, x8 => if x8 < x7 then (if 0 ≤ x8 then (if x8 < (x6.length : Int) then ((impl_RowCost.f ((rd_T60 x6 x8).f0) ((rd_T60 x6 x8).f1) ((rd_T60 x6 x8).f2)).bind fun t227 => (impl_TotalCost.l0 k (wrap64 (x3 + t227)) x6 x7 (wrap64 (x8 + 1)))) else (none)) else (none)) else (some x3)
def impl_TotalCost.f (k : Nat) (l0 : List (S60)) : Option (Int) := impl_TotalCost.l0 k 0 l0 (l0.length : Int) 0
theorem impl_TotalCost.calls (k : Nat) (A0 : Option Addr) (c0 : Nat) (l0 : List (S60)) (r : Int) (w : World) (hr0 : Kd.C k60 w A0 l0.length l0) (hc0 : l0.length ≤ c0) (h : impl_TotalCost.f k l0 = some r) :
  Calls Try.prog 111 #[.slice A0 l0.length c0] w fun e w' => e = .returned (.int .i64 r) ∧ Below w.heap.size w w' := by
 have hu60 := Try.underlying60
 have HR0 := am hr0
 have HC0 := am hc0
 clear hr0 hc0
 have HB := am (Below.refl w.heap.size w)
 have H : (impl_TotalCost.l0 k 0 l0 (l0.length : Int) 0) = some r := h
 clear h
 have H' := am H
 clear H
 go_enter Try.func111, Try.ntmps111
 go_wp2
 go_loopg [3, 8] k (fun kq v3 v8 w' => ∃ (x3_1 : Int) (x8_1 : Int), v3 = .int .i64 x3_1 ∧ v8 = .int .i64 x8_1 ∧ Aside0 (impl_TotalCost.l0 kq x3_1 l0 (l0.length : Int) x8_1 = some r) ∧ Aside0 (kq ≤ k) ∧ Aside0 (Below w.heap.size w w'))
 case atStart => exact ⟨(0), (0), rfl, rfl, H', ⟨Nat.le_refl _⟩, ⟨HB.out⟩⟩
 case round =>
  clear H'
  obtain ⟨x3_1, x8_1, rfl, rfl, HA, HK1, HB⟩ := hrel
  cases gk with
  | zero => exact absurd HA.out (by simp [impl_TotalCost.l0])
  | succ k1 =>
   have H := HA.out
   clear HA
   simp only [impl_TotalCost.l0] at H
   by_cases c2 : x8_1 < (l0.length : Int)
   ·rw [if_pos c2] at H
    have c2b0 : decide (x8_1 < (l0.length : Int)) = true := decide_eq_true c2
    clear c2
    by_cases c3 : 0 ≤ x8_1
    ·rw [if_pos c3] at H
     have c3b0 : decide (0 ≤ x8_1) = true := decide_eq_true c3
     clear c3
     by_cases c4 : x8_1 < (l0.length : Int)
     ·rw [if_pos c4] at H
      have c4b0 : decide (x8_1 < (l0.length : Int)) = true := decide_eq_true c4
      clear c4
      replace H := Option.bind_eq_some_iff.mp H
      obtain ⟨t227, A50, H⟩ := H
      have A5 := am A50
      clear A50
      have H' := am H
      clear H
      have p225 : 0 ≤ (x8_1 : Int) := of_decide_eq_true (by (with_reducible assumption))
      have q225 : x8_1 < (l0.length : Int) := of_decide_eq_true (by (with_reducible assumption))
      obtain ⟨ad225, e225, hx225_0, hx225_1, hx225_2⟩ := at_T60 HR0.out x8_1 p225 q225
      cases e225
      replace hx225_0 := bc_ HB.out hx225_0
      replace hx225_1 := bc_ HB.out hx225_1
      replace hx225_2 := bc_ HB.out hx225_2
      replace p225 := eq_true p225
      replace q225 := eq_true q225
      go_wp2_with (first | ((with_reducible refine gate_dst (N := 5) rfl ?_); refine box_event ?hg (N := 5) ?hd (cs := #[.int .i64 0, .int .i64 0, .int .i64 0]) (t := 60) ?hr ?_; (case hd => rfl); (case hg => rfl); (case hr => (go_simp; done)); intro gb226 hg w6 hbox hb; have BK226 := am (hbox); have GW226 := am (gw_ hg HB.out); have GE226 := am (gw_ hg HB.out); replace HB := am (below_step HB.out hb); clear hb hbox hg; obtain ⟨hcz7_0, hcz7_1, hcz7_2, hfz7_0, hfz7_1, hfz7_2⟩ := cells3_ BK226.out) | ((with_reducible refine gate_callee (f := 178) rfl ?_); refine goesL_ (some 14) rfl rfl Try.func178 (by kernel_rfl) rfl #[.agg #[.int .i64 ((rd_T60 l0 x8_1).f0), .int .i64 ((rd_T60 l0 x8_1).f1), .int .i64 ((rd_T60 l0 x8_1).f2)]] rfl (by (try simp only [List.map_toArray, List.map_cons, List.map_nil]); rfl) ?_; (with_reducible refine (impl_RowCost.calls ((rd_T60 l0 x8_1).f0) ((rd_T60 l0 x8_1).f1) ((rd_T60 l0 x8_1).f2) t227 _ A5.out).mono ?_); rintro e w8 ⟨rfl, hb⟩; refine ⟨_, rfl, ?_⟩; replace BK226 := am (blk_below (g := gb226) (o := .cells #[.int .i64 ((rd_T60 l0 x8_1).f0), .int .i64 ((rd_T60 l0 x8_1).f1), .int .i64 ((rd_T60 l0 x8_1).f2)] 60 (0, 0)) (by refine blk_put (cs := #[.int .i64 ((rd_T60 l0 x8_1).f0), .int .i64 ((rd_T60 l0 x8_1).f1), .int .i64 0]) ?_ 2 _ rfl; refine blk_put (cs := #[.int .i64 ((rd_T60 l0 x8_1).f0), .int .i64 0, .int .i64 0]) ?_ 1 _ rfl; refine blk_put (cs := #[.int .i64 0, .int .i64 0, .int .i64 0]) ?_ 0 _ rfl; exact BK226.out) hb); replace HB := am (below_step (by repeat (with_reducible first | exact HB.out | refine below_set ?_ GE226.out)) hb); (try clear hb)))
      go_roundg k1
      case measure => have := HK1.out; omega
      case rel => exact ⟨(wrap64 (x3_1 + t227)), (wrap64 (x8_1 + 1)), rfl, rfl, H', ⟨by have := HK1.out; omega⟩, ⟨HB.out⟩⟩
     ·rw [if_neg c4] at H
      exact absurd H (by simp)
    ·rw [if_neg c3] at H
     exact absurd H (by simp)
   ·rw [if_neg c2] at H
    have c2b0 : decide (x8_1 < (l0.length : Int)) = false := decide_eq_false c2
    clear c2
    obtain rfl := Option.some.inj H
    go_wp2
    go_ret
    exact ⟨rfl, HB.out⟩

def impl_clone.f (l0 : List (S60)) : Option ((List (S60))) := if ([] : List (S60)).length + l0.length < 5864062014805 then (some (([] : List (S60)) ++ l0)) else (none)
theorem impl_clone.calls (A0 : Option Addr) (c0 : Nat) (l0 : List (S60)) (r : List (S60)) (w : World) (hr0 : Kd.C k60 w A0 l0.length l0) (hc0 : l0.length ≤ c0) (h : impl_clone.f l0 = some r) :
  Calls Try.prog 112 #[.slice A0 l0.length c0] w fun e w' => ∃ v0_ : Value, e = .returned (v0_) ∧ Kd.R k60 60 w' w.heap.size (fun _ => True) v0_ r ∧ Below w.heap.size w w' := by
 have HR0 := am hr0
 have HC0 := am hc0
 clear hr0 hc0
 have HB := am (Below.refl w.heap.size w)
 have H : (if ([] : List (S60)).length + l0.length < 5864062014805 then (some (([] : List (S60)) ++ l0)) else (none)) = some r := h
 clear h
 by_cases c2 : ([] : List (S60)).length + l0.length < 5864062014805
 ·rw [if_pos c2] at H
  have LMc2 := am c2
  clear c2
  obtain ⟨y228, hy228⟩ : ∃ y_ : List (S60), y_ = (([] : List (S60)) ++ l0) := ⟨_, rfl⟩
  replace H : (some y228) = some r := by (rw [hy228]; with_reducible exact H)
  have Ny228 := am hy228
  clear hy228
  obtain rfl := Option.some.inj H
  go_enter Try.func112, Try.ntmps112
  go_wp2_with (((with_reducible refine gate_builtin (b := .append) (xs := #[.const (.slice none 0 0), .tmp 3]) rfl ?_); at_builtin; refine Kd.R_append_rows k60 (w0 := w) w.heap.size rfl (.const (.slice none 0 0)) (.tmp 3) 24 60 (.agg #[(.int .i64 0), (.int .i64 0), (.int .i64 0)]) 24 rfl Try.underlying24 info60 rfl (by decide) (by omega) (.slice none 0 0) ([] : List (S60)) l0 _ _ _ (fun _ => True) (fun _ => False) rfl rfl ?aO ?aR (fun _ _ h => h) (fun _ h => h.elim) ?aF ?aB ?aS ?aL ?_; (case aR => repeat (exact HR0.out)); (case aB => exact HB.out); (case aF => exact (fun _ _ => trivial)); (case aO => exact ((Kd.R_nil _ _ _ _ (fun _ => True)))); (case aS => exact (below_size HB.out)); (case aL => have := LMc2.out; omega); intro v229 w3 ho hb hg hat; rw [← Ny228.out] at ho; replace HB := am (hb); have HO230 := am (ho); clear ho hb hg hat))
  go_ret
  exact ⟨_, rfl, HO230.out, HB.out⟩
 ·rw [if_neg c2] at H
  exact absurd H (by simp)

def impl_NextChunk.l0 : Nat → List (S60) → Int → Int → Option ((List (S60)) × (List (S60)))
 | 0, _, _, _ => none
 | k + 1, x0, x1, x6 => if x6 < (x0.length : Int) then (if 0 ≤ (wrap64 (x6 + 1)) then (if (wrap64 (x6 + 1)) ≤ (x0.length : Int) then ((impl_TotalCost.f k (x0.take ((wrap64 (x6 + 1)) : Int).toNat)).bind fun t235 => (if t235 ≤ x1 then (impl_NextChunk.l0 k x0 x1 (wrap64 (x6 + 1))) else (if 0 ≤ x6 then (if x6 ≤ (x0.length : Int) then ((impl_clone.f (x0.take (x6 : Int).toNat)).bind fun t240 => ((impl_clone.f (x0.drop (x6 : Int).toNat)).bind fun t247 => (some (t240, t247)))) else (none)) else (none)))) else (none)) else (none)) else (if 0 ≤ x6 then (if x6 ≤ (x0.length : Int) then ((impl_clone.f (x0.take (x6 : Int).toNat)).bind fun t254 => ((impl_clone.f (x0.drop (x6 : Int).toNat)).bind fun t261 => (some (t254, t261)))) else (none)) else (none))
def impl_NextChunk.f (k : Nat) (l0 : List (S60)) (a1 : Int) : Option ((List (S60)) × (List (S60))) := impl_NextChunk.l0 k l0 a1 (mn 1 (l0.length : Int))
def impl_NextChunk.T4 : Bool × List (List Nat × List Nat) := (true, [([], []), ([], []), ([0, 1], [0, 1]), ([2], [2]), ([], []), ([], []), ([4, 5], [4, 5]), ([6, 3], [6]), ([3, 7, 0, 1, 2, 3], [3]), ([7, 8, 0, 1, 2, 3, 4, 5, 6, 7, 8], [7])])
def impl_NextChunk.B4 : List Nat := [0, 0, 3, 7, 0, 0, 48, 127, 255, 511]
theorem impl_NextChunk.tab4 : rtab .any (opsOf Try.f18 4) = impl_NextChunk.T4 := by kernel_rfl
theorem impl_NextChunk.bits4 : waitsOk impl_NextChunk.T4.2 impl_NextChunk.B4 = true := by kernel_rfl
theorem impl_NextChunk.calls (k : Nat) (A0 : Option Addr) (c0 : Nat) (l0 : List (S60)) (a1 : Int) (r1 : List (S60)) (r2 : List (S60)) (w : World) (hr0 : Kd.C k60 w A0 l0.length l0) (hc0 : l0.length ≤ c0) (h : impl_NextChunk.f k l0 a1 = some (r1, r2)) :
  Calls Try.prog 18 #[.slice A0 l0.length c0, .int .i64 a1] w fun e w' => ∃ v0_ v1_ : Value, e = .returned (.tuple #[v0_, v1_]) ∧ Kd.R k60 60 w' w.heap.size (fun k_ => some k_ ≠ (v1_ : Value).ownBlock) v0_ r1 ∧ Kd.R k60 60 w' w.heap.size (fun k_ => some k_ ≠ (v0_ : Value).ownBlock) v1_ r2 ∧ Below w.heap.size w w' := by
 have HR0 := am hr0
 have HC0 := am hc0
 clear hr0 hc0
 have HB := am (Below.refl w.heap.size w)
 have H : (impl_NextChunk.l0 k l0 a1 (mn 1 (l0.length : Int))) = some (r1, r2) := h
 clear h
 obtain ⟨ji3, hji3⟩ : ∃ j_ : Int, (mn 1 (l0.length : Int)) = j_ := ⟨_, rfl⟩
 replace H : (impl_NextChunk.l0 k l0 a1 ji3) = some (r1, r2) := by (rw [hji3] at H; exact H)
 (try (have hji3h : ji3 ≤ 1 := by (rw [← hji3]; unfold mn; (repeat' split) <;> omega)))
 (try (have hji3g : ji3 ≤ 64 := by omega))
 (try (have hji3l : 0 ≤ ji3 := by (rw [← hji3]; unfold mn; (repeat' split) <;> omega)))
 (try (have hji3m : 0 ≤ ji3 := by omega))
 have hji3_ : (if (l0.length : Int) < 1 then (l0.length : Int) else 1) = ji3 := hji3
 have H' := am H
 clear H
 go_enter Try.func18, Try.ntmps18
 go_wp2
 go_loopg [6] k (fun kq v6 w' => ∃ (x6_1 : Int), v6 = .int .i64 x6_1 ∧ Aside0 (impl_NextChunk.l0 kq l0 a1 x6_1 = some (r1, r2)) ∧ Aside0 (kq ≤ k) ∧ Aside0 (Below w.heap.size w w'))
 case atStart => exact ⟨(ji3), rfl, H', ⟨Nat.le_refl _⟩, ⟨HB.out⟩⟩
 case round =>
  clear H'
  obtain ⟨x6_1, rfl, HA, HK1, HB⟩ := hrel
  cases gk with
  | zero => exact absurd HA.out (by simp [impl_NextChunk.l0])
  | succ k1 =>
   have H := HA.out
   clear HA
   simp only [impl_NextChunk.l0] at H
   by_cases c4 : x6_1 < (l0.length : Int)
   ·rw [if_pos c4] at H
    have c4b0 : decide (x6_1 < (l0.length : Int)) = true := decide_eq_true c4
    clear c4
    obtain ⟨ji5, hji5⟩ : ∃ j_ : Int, (wrap64 (x6_1 + 1)) = j_ := ⟨_, rfl⟩
    replace H : (if 0 ≤ (ji5) then (if (ji5) ≤ (l0.length : Int) then ((impl_TotalCost.f k1 (l0.take ((ji5) : Int).toNat)).bind fun t235 => (if t235 ≤ a1 then (impl_NextChunk.l0 k1 l0 a1 ji5) else (if 0 ≤ x6_1 then (if x6_1 ≤ (l0.length : Int) then ((impl_clone.f (l0.take (x6_1 : Int).toNat)).bind fun t240 => ((impl_clone.f (l0.drop (x6_1 : Int).toNat)).bind fun t247 => (some (t240, t247)))) else (none)) else (none)))) else (none)) else (none)) = some (r1, r2) := by (rw [hji5] at H; exact H)
    have hji5w : (IntKind.i64.wrap (x6_1 + 1)) = ji5 := (i64_w _).trans hji5
    by_cases c6 : 0 ≤ (ji5)
    ·rw [if_pos c6] at H
     have c6b0 := eq_true c6
     have c6b1 : decide (0 ≤ (ji5)) = true := decide_eq_true c6
     clear c6
     by_cases c7 : (ji5) ≤ (l0.length : Int)
     ·rw [if_pos c7] at H
      have c7b0 := eq_true c7
      have c7b1 : decide ((ji5) ≤ (l0.length : Int)) = true := decide_eq_true c7
      clear c7
      obtain ⟨y231, hy231⟩ : ∃ y_ : List (S60), y_ = (l0.take ((ji5) : Int).toNat) := ⟨_, rfl⟩
      replace H : ((impl_TotalCost.f k1 y231).bind fun t235 => (if t235 ≤ a1 then (impl_NextChunk.l0 k1 l0 a1 ji5) else (if 0 ≤ x6_1 then (if x6_1 ≤ (l0.length : Int) then ((impl_clone.f (l0.take (x6_1 : Int).toNat)).bind fun t240 => ((impl_clone.f (l0.drop (x6_1 : Int).toNat)).bind fun t247 => (some (t240, t247)))) else (none)) else (none)))) = some (r1, r2) := by (rw [hy231]; with_reducible exact H)
      have Ny231 := am hy231
      clear hy231
      replace H := Option.bind_eq_some_iff.mp H
      obtain ⟨t235, A80, H⟩ := H
      have A8 := am A80
      clear A80
      by_cases c9 : t235 ≤ a1
      ·rw [if_pos c9] at H
       have c9b0 : decide (t235 ≤ a1) = true := decide_eq_true c9
       clear c9
       have H' := am H
       clear H
       have q10 : ((ji5) : Int) ≤ ((l0.length : Int) : Int) := of_decide_eq_true (by (with_reducible assumption))
       obtain ⟨i010, hi010, _, hsz10, _⟩ := info_parts info60
       have hroom10 : l0.length ≤ c0 := HC0.out
       have hC10 : Kd.C k60 _ A0 l0.length l0 := HR0.out
       have hcut10 := cut_to (P := Try.prog) 24 60 .i64 Try.underlying24 hi010 A0 l0.length c0 (ji5) (of_decide_eq_true (by (with_reducible assumption))) q10 hroom10
       have hr10 := Kd.C_take (m := ((ji5) : Int).toNat) hC10 (by omega)
       have hy10 : y231.length = ((ji5) : Int).toNat := (by rw [Ny231.out, List.length_take]; omega)
       rw [← Ny231.out] at hr10
       rw [← hy10] at hcut10
       have HR234 := am hr10
       have HC234 := am (show y231.length ≤ c0 from by omega)
       clear hr10 hC10 hroom10 hi010 hsz10
       have KY10 := am hy10
       clear hy10
       replace q10 := eq_true q10
       go_wp2_with ((go_at_call 111; (with_reducible refine (impl_TotalCost.calls k1 _ _ y231 t235 _ ?side1 ?side2 A8.out).mono ?_); (case side1 => repeat (exact (Kd.C_below HR234.out HB.out))); (case side2 => exact HC234.out); rintro e w11 ⟨rfl, hb⟩; replace HB := am (below_step HB.out hb); (try clear hb)))
       go_roundg k1
       case measure => have := HK1.out; omega
       case rel => exact ⟨(ji5), rfl, H', ⟨by have := HK1.out; omega⟩, ⟨HB.out⟩⟩
      ·rw [if_neg c9] at H
       have c9b0 : decide (t235 ≤ a1) = false := decide_eq_false c9
       clear c9
       by_cases c12 : 0 ≤ x6_1
       ·rw [if_pos c12] at H
        have c12b0 := eq_true c12
        have c12b1 : decide (0 ≤ x6_1) = true := decide_eq_true c12
        clear c12
        by_cases c13 : x6_1 ≤ (l0.length : Int)
        ·rw [if_pos c13] at H
         have c13b0 := eq_true c13
         have c13b1 : decide (x6_1 ≤ (l0.length : Int)) = true := decide_eq_true c13
         clear c13
         obtain ⟨y236, hy236⟩ : ∃ y_ : List (S60), y_ = (l0.take (x6_1 : Int).toNat) := ⟨_, rfl⟩
         replace H : ((impl_clone.f y236).bind fun t240 => ((impl_clone.f (l0.drop (x6_1 : Int).toNat)).bind fun t247 => (some (t240, t247)))) = some (r1, r2) := by (rw [hy236]; with_reducible exact H)
         have Ny236 := am hy236
         clear hy236
         replace H := Option.bind_eq_some_iff.mp H
         obtain ⟨t240, A140, H⟩ := H
         have A14 := am A140
         clear A140
         have c15b0 := eq_true (of_decide_eq_true (by (with_reducible assumption)) : 0 ≤ x6_1)
         have c16b0 := eq_true (of_decide_eq_true (by (with_reducible assumption)) : x6_1 ≤ (l0.length : Int))
         obtain ⟨y243, hy243⟩ : ∃ y_ : List (S60), y_ = (l0.drop (x6_1 : Int).toNat) := ⟨_, rfl⟩
         replace H : ((impl_clone.f y243).bind fun t247 => (some (t240, t247))) = some (r1, r2) := by (rw [hy243]; with_reducible exact H)
         have Ny243 := am hy243
         clear hy243
         replace H := Option.bind_eq_some_iff.mp H
         obtain ⟨t247, A170, H⟩ := H
         have A17 := am A170
         clear A170
         simp only [Option.some.injEq, Prod.mk.injEq] at H
         obtain ⟨rfl, rfl⟩ := H
         have q18 : ((ji5) : Int) ≤ ((l0.length : Int) : Int) := of_decide_eq_true (by (with_reducible assumption))
         obtain ⟨i018, hi018, _, hsz18, _⟩ := info_parts info60
         have hroom18 : l0.length ≤ c0 := HC0.out
         have hC18 : Kd.C k60 _ A0 l0.length l0 := HR0.out
         have hcut18 := cut_to (P := Try.prog) 24 60 .i64 Try.underlying24 hi018 A0 l0.length c0 (ji5) (of_decide_eq_true (by (with_reducible assumption))) q18 hroom18
         have hr18 := Kd.C_take (m := ((ji5) : Int).toNat) hC18 (by omega)
         have hy18 : y231.length = ((ji5) : Int).toNat := (by rw [Ny231.out, List.length_take]; omega)
         rw [← Ny231.out] at hr18
         rw [← hy18] at hcut18
         have HR234 := am hr18
         have HC234 := am (show y231.length ≤ c0 from by omega)
         clear hr18 hC18 hroom18 hi018 hsz18
         have KY18 := am hy18
         clear hy18
         replace q18 := eq_true q18
         try go_wp2_with ((go_at_call 111; (with_reducible refine (impl_TotalCost.calls k1 _ _ y231 t235 _ ?side1 ?side2 A8.out).mono ?_); (case side1 => repeat (exact (Kd.C_below HR234.out HB.out))); (case side2 => exact HC234.out); rintro e w19 ⟨rfl, hb⟩; replace HB := am (below_step HB.out hb); (try clear hb)))
         replace HB := am (below_drew1 HB.out)
         have q21 : (x6_1 : Int) ≤ ((l0.length : Int) : Int) := of_decide_eq_true (by (with_reducible assumption))
         obtain ⟨i021, hi021, _, hsz21, _⟩ := info_parts info60
         have hroom21 : l0.length ≤ c0 := HC0.out
         have hC21 : Kd.C k60 _ A0 l0.length l0 := HR0.out
         have hcut21 := cut_to (P := Try.prog) 24 60 .i64 Try.underlying24 hi021 A0 l0.length c0 x6_1 (of_decide_eq_true (by (with_reducible assumption))) q21 hroom21
         have hr21 := Kd.C_take (m := (x6_1 : Int).toNat) hC21 (by omega)
         have hy21 : y236.length = (x6_1 : Int).toNat := (by rw [Ny236.out, List.length_take]; omega)
         rw [← Ny236.out] at hr21
         rw [← hy21] at hcut21
         have HR239 := am hr21
         have HC239 := am (show y236.length ≤ c0 from by omega)
         clear hr21 hC21 hroom21 hi021 hsz21
         have KY21 := am hy21
         clear hy21
         replace q21 := eq_true q21
         have q22 : (x6_1 : Int) ≤ ((l0.length : Int) : Int) := of_decide_eq_true (by (with_reducible assumption))
         obtain ⟨i022, hi022, _, hsz22, _⟩ := info_parts info60
         have hroom22 : l0.length ≤ c0 := HC0.out
         have hC22 : Kd.C k60 _ A0 l0.length l0 := HR0.out
         have q022 : (0 : Int) ≤ (x6_1 : Int) := of_decide_eq_true (by (with_reducible assumption))
         have hcut22 := cut_from (P := Try.prog) 24 60 .i64 Try.underlying24 hi022 3 hsz22 A0 l0.length c0 x6_1 q022 q22
         have hr22 := Kd.C_drop (m := (x6_1 : Int).toNat) (c := c0) hC22 (by omega) hroom22
         obtain ⟨A22, hA22⟩ : ∃ A1, A1 = (if c0 = (x6_1 : Int).toNat then A0 else (A0 : Option Addr).map (·.add ((x6_1 : Int).toNat * 3))) := ⟨_, rfl⟩
         obtain ⟨c22, hc22⟩ : ∃ c1, c1 = c0 - (x6_1 : Int).toNat := ⟨_, rfl⟩
         have hy22 : y243.length = l0.length - (x6_1 : Int).toNat := (by rw [Ny243.out, List.length_drop] <;> omega)
         rw [show (l0).drop (x6_1 : Int).toNat = y243 from Ny243.out.symm] at hr22
         replace hr22 : Kd.C k60 _ A22 y243.length y243 := (by rw [hA22]; exact hr22)
         rw [← hy22, ← hA22, ← hc22] at hcut22
         have HR246 := am hr22
         have HC246 := am (show y243.length ≤ c22 from by rw [hy22, hc22]; exact Nat.sub_le_sub_right hroom22 _)
         clear hr22 hC22 hroom22 hi022 hsz22 hc22
         have KY22 := am hy22
         have KA22 := am hA22
         clear hy22 hA22
         replace q22 := eq_true q22
         refine start_ (n := 10) (S := fun w' => True) (ds := []) #[false, false, false, false, false, false, false, false, false, false] (by kernel_rfl) rfl rfl trivial (fun hHeld => ?_); refine with_tabW impl_NextChunk.tab4 impl_NextChunk.bits4 (fun HT_ HW_ => ?_)
         generalize w19.drew = w20 at HB HR239 HR246 hHeld ⊢
         refine pure_ (i := 0) (N := some 25) (v := ?_) (a' := ?_) #[true, false, false, false, false, false, false, false, false, false] rfl rfl (any_of HT_.out (by kernel_rfl)) (fun _ _ _ h => h) (Or.inl ⟨rfl, ?_⟩) ?_ ?_
         rotate_left
         ·intro w'
          go_simp
          with_reducible rfl
         rotate_left
         ·simp only [Act.put, s2_, s0_, s1_, i64_w, i32_w]
          rfl
         refine pure_ (i := 1) (N := some 26) (v := ?_) (a' := ?_) #[true, true, false, false, false, false, false, false, false, false] rfl rfl (any_of HT_.out (by kernel_rfl)) (fun _ _ _ h => h) (Or.inl ⟨rfl, ?_⟩) ?_ ?_
         rotate_left
         ·intro w'
          go_simp
          with_reducible rfl
         rotate_left
         ·simp only [Act.put, s2_, s0_, s1_, i64_w, i32_w]
          rfl
         refine pure_ (i := 2) (N := some 27) (v := ?_) (a' := ?_) #[true, true, true, false, false, false, false, false, false, false] rfl rfl (any_of HT_.out (by kernel_rfl)) (fun _ _ _ h => h) (Or.inl ⟨rfl, ?_⟩) ?_ ?_
         rotate_left
         ·intro w'
          go_simp
          with_reducible rfl
         rotate_left
         ·simp only [Act.put, s2_, s0_, s1_, i64_w, i32_w]
          rfl
         refine pure_ (i := 4) (N := some 29) (v := ?_) (a' := ?_) #[true, true, true, false, true, false, false, false, false, false] rfl rfl (any_of HT_.out (by kernel_rfl)) (fun _ _ _ h => h) (Or.inl ⟨rfl, ?_⟩) ?_ ?_
         rotate_left
         ·intro w'
          go_simp
          with_reducible rfl
         rotate_left
         ·simp only [Act.put, s2_, s0_, s1_, i64_w, i32_w]
          rfl
         refine pure_ (i := 5) (N := some 30) (v := ?_) (a' := ?_) #[true, true, true, false, true, true, false, false, false, false] rfl rfl (any_of HT_.out (by kernel_rfl)) (fun _ _ _ h => h) (Or.inl ⟨rfl, ?_⟩) ?_ ?_
         rotate_left
         ·intro w'
          go_simp
          with_reducible rfl
         rotate_left
         ·simp only [Act.put, s2_, s0_, s1_, i64_w, i32_w]
          rfl
         refine pure_ (i := 6) (N := some 31) (v := ?_) (a' := ?_) #[true, true, true, false, true, true, true, false, false, false] rfl rfl (any_of HT_.out (by kernel_rfl)) (fun _ _ _ h => h) (Or.inl ⟨rfl, ?_⟩) ?_ ?_
         rotate_left
         ·intro w'
          go_simp
          with_reducible rfl
         rotate_left
         ·simp only [Act.put, s2_, s0_, s1_, i64_w, i32_w]
          rfl
         refine one_ (i := 3) (N := some 28) #[true, true, true, true, true, true, true, false, false, false] rfl rfl (one_of HT_.out (by kernel_rfl)) (by decide) (fun K hK => ?_)
         refine goes_ Try.func112 (by kernel_rfl) rfl #[.slice A0 y236.length c0] rfl rfl rfl (by (try simp only [List.map_toArray, List.map_cons, List.map_nil]); rfl) ?_
         with_reducible refine (impl_clone.calls _ _ y236 t240 _ ?side1 ?side2 A14.out).mono ?_
         (case side1 => repeat (exact (Kd.C_below HR239.out HB.out)))
         (case side2 => exact HC239.out)
         rintro e w23 ⟨v241, rfl, ho0, hb⟩
         refine ⟨_, rfl, ?_⟩
         have HO242 := am (Kd.R_lower ho0 (below_size HB.out))
         replace HB := am (below_step HB.out hb)
         (try clear hb)
         (try clear hb2)
         (try clear hk)
         (try clear hi)
         (try clear ho0)
         refine hK.out _ _ trivial (fun hHeld => ?_)
         clear hK K
         refine norm_ (a' := ?_) ?_ ?_
         rotate_left
         ·show Act.put _ (some 28) _ = _
          simp only [Act.put, s2_, s0_, s1_, i64_w, i32_w]
          rfl
         refine one_ (i := 7) (N := some 32) #[true, true, true, true, true, true, true, true, false, false] rfl rfl (one_of HT_.out (by kernel_rfl)) (by decide) (fun K hK => ?_)
         refine goes_ Try.func112 (by kernel_rfl) rfl #[.slice A22 y243.length c22] rfl rfl rfl (by (try simp only [List.map_toArray, List.map_cons, List.map_nil]); rfl) ?_
         with_reducible refine (impl_clone.calls _ _ y243 t247 _ ?side1 ?side2 A17.out).mono ?_
         (case side1 => repeat (exact (Kd.C_below HR246.out HB.out)))
         (case side2 => exact HC246.out)
         rintro e w24 ⟨v248, rfl, ho0, hb⟩
         refine ⟨_, rfl, ?_⟩
         have HO249 := am (Kd.R_lower (Kd.R_new' ho0 (Kd.R_lt HO242.out)) (below_size HB.out))
         replace HO242 := am (Kd.R_elder' HO242.out (Kd.R_base ho0) hb)
         replace HB := am (below_step HB.out hb)
         (try clear hb)
         (try clear hb2)
         (try clear hk)
         (try clear hi)
         (try clear ho0)
         refine hK.out _ _ trivial (fun hHeld => ?_)
         clear hK K
         refine norm_ (a' := ?_) ?_ ?_
         rotate_left
         ·show Act.put _ (some 32) _ = _
          simp only [Act.put, s2_, s0_, s1_, i64_w, i32_w]
          rfl
         refine pure_ (i := 8) (N := some 4) (v := ?_) (a' := ?_) #[true, true, true, true, true, true, true, true, true, false] rfl rfl (any_of HT_.out (by kernel_rfl)) (fun _ _ _ h => h) (Or.inl ⟨rfl, ?_⟩) ?_ ?_
         rotate_left
         ·intro w'
          go_simp
          with_reducible rfl
         rotate_left
         ·simp only [Act.put, s2_, s0_, s1_, i64_w, i32_w]
          rfl
         refine pure_ (i := 9) (N := some 5) (v := ?_) (a' := ?_) #[true, true, true, true, true, true, true, true, true, true] rfl rfl (any_of HT_.out (by kernel_rfl)) (fun _ _ _ h => h) (Or.inl ⟨rfl, ?_⟩) ?_ ?_
         rotate_left
         ·intro w'
          go_simp
          with_reducible rfl
         rotate_left
         ·simp only [Act.put, s2_, s0_, s1_, i64_w, i32_w]
          rfl
         refine done_ (done_of HT_.out (by kernel_rfl)) ?_
         try go_wp2
         go_ret2
         exact ⟨_, _, rfl, by exact Kd.R_mono HO242.out (fun _ hk => hk.2), by exact Kd.R_mono HO249.out (fun _ hk => hk.2), HB.out⟩
        ·rw [if_neg c13] at H
         exact absurd H (by simp)
       ·rw [if_neg c12] at H
        exact absurd H (by simp)
     ·rw [if_neg c7] at H
      exact absurd H (by simp)
    ·rw [if_neg c6] at H
     exact absurd H (by simp)
   ·rw [if_neg c4] at H
    have c4b0 : decide (x6_1 < (l0.length : Int)) = false := decide_eq_false c4
    clear c4
    by_cases c25 : 0 ≤ x6_1
    ·rw [if_pos c25] at H
     have c25b0 := eq_true c25
     have c25b1 : decide (0 ≤ x6_1) = true := decide_eq_true c25
     clear c25
     by_cases c26 : x6_1 ≤ (l0.length : Int)
     ·rw [if_pos c26] at H
      have c26b0 := eq_true c26
      have c26b1 : decide (x6_1 ≤ (l0.length : Int)) = true := decide_eq_true c26
      clear c26
      obtain ⟨y250, hy250⟩ : ∃ y_ : List (S60), y_ = (l0.take (x6_1 : Int).toNat) := ⟨_, rfl⟩
      replace H : ((impl_clone.f y250).bind fun t254 => ((impl_clone.f (l0.drop (x6_1 : Int).toNat)).bind fun t261 => (some (t254, t261)))) = some (r1, r2) := by (rw [hy250]; with_reducible exact H)
      have Ny250 := am hy250
      clear hy250
      replace H := Option.bind_eq_some_iff.mp H
      obtain ⟨t254, A270, H⟩ := H
      have A27 := am A270
      clear A270
      have c28b0 := eq_true (of_decide_eq_true (by (with_reducible assumption)) : 0 ≤ x6_1)
      have c29b0 := eq_true (of_decide_eq_true (by (with_reducible assumption)) : x6_1 ≤ (l0.length : Int))
      obtain ⟨y257, hy257⟩ : ∃ y_ : List (S60), y_ = (l0.drop (x6_1 : Int).toNat) := ⟨_, rfl⟩
      replace H : ((impl_clone.f y257).bind fun t261 => (some (t254, t261))) = some (r1, r2) := by (rw [hy257]; with_reducible exact H)
      have Ny257 := am hy257
      clear hy257
      replace H := Option.bind_eq_some_iff.mp H
      obtain ⟨t261, A300, H⟩ := H
      have A30 := am A300
      clear A300
      simp only [Option.some.injEq, Prod.mk.injEq] at H
      obtain ⟨rfl, rfl⟩ := H
      try go_wp2
      replace HB := am (below_drew1 HB.out)
      have q32 : (x6_1 : Int) ≤ ((l0.length : Int) : Int) := of_decide_eq_true (by (with_reducible assumption))
      obtain ⟨i032, hi032, _, hsz32, _⟩ := info_parts info60
      have hroom32 : l0.length ≤ c0 := HC0.out
      have hC32 : Kd.C k60 _ A0 l0.length l0 := HR0.out
      have hcut32 := cut_to (P := Try.prog) 24 60 .i64 Try.underlying24 hi032 A0 l0.length c0 x6_1 (of_decide_eq_true (by (with_reducible assumption))) q32 hroom32
      have hr32 := Kd.C_take (m := (x6_1 : Int).toNat) hC32 (by omega)
      have hy32 : y250.length = (x6_1 : Int).toNat := (by rw [Ny250.out, List.length_take]; omega)
      rw [← Ny250.out] at hr32
      rw [← hy32] at hcut32
      have HR253 := am hr32
      have HC253 := am (show y250.length ≤ c0 from by omega)
      clear hr32 hC32 hroom32 hi032 hsz32
      have KY32 := am hy32
      clear hy32
      replace q32 := eq_true q32
      have q33 : (x6_1 : Int) ≤ ((l0.length : Int) : Int) := of_decide_eq_true (by (with_reducible assumption))
      obtain ⟨i033, hi033, _, hsz33, _⟩ := info_parts info60
      have hroom33 : l0.length ≤ c0 := HC0.out
      have hC33 : Kd.C k60 _ A0 l0.length l0 := HR0.out
      have q033 : (0 : Int) ≤ (x6_1 : Int) := of_decide_eq_true (by (with_reducible assumption))
      have hcut33 := cut_from (P := Try.prog) 24 60 .i64 Try.underlying24 hi033 3 hsz33 A0 l0.length c0 x6_1 q033 q33
      have hr33 := Kd.C_drop (m := (x6_1 : Int).toNat) (c := c0) hC33 (by omega) hroom33
      obtain ⟨A33, hA33⟩ : ∃ A1, A1 = (if c0 = (x6_1 : Int).toNat then A0 else (A0 : Option Addr).map (·.add ((x6_1 : Int).toNat * 3))) := ⟨_, rfl⟩
      obtain ⟨c33, hc33⟩ : ∃ c1, c1 = c0 - (x6_1 : Int).toNat := ⟨_, rfl⟩
      have hy33 : y257.length = l0.length - (x6_1 : Int).toNat := (by rw [Ny257.out, List.length_drop] <;> omega)
      rw [show (l0).drop (x6_1 : Int).toNat = y257 from Ny257.out.symm] at hr33
      replace hr33 : Kd.C k60 _ A33 y257.length y257 := (by rw [hA33]; exact hr33)
      rw [← hy33, ← hA33, ← hc33] at hcut33
      have HR260 := am hr33
      have HC260 := am (show y257.length ≤ c33 from by rw [hy33, hc33]; exact Nat.sub_le_sub_right hroom33 _)
      clear hr33 hC33 hroom33 hi033 hsz33 hc33
      have KY33 := am hy33
      have KA33 := am hA33
      clear hy33 hA33
      replace q33 := eq_true q33
      refine start_ (n := 10) (S := fun w' => True) (ds := []) #[false, false, false, false, false, false, false, false, false, false] (by kernel_rfl) rfl rfl trivial (fun hHeld => ?_); refine with_tabW impl_NextChunk.tab4 impl_NextChunk.bits4 (fun HT_ HW_ => ?_)
      generalize wr.drew = w31 at HB HR253 HR260 hHeld ⊢
      refine pure_ (i := 0) (N := some 25) (v := ?_) (a' := ?_) #[true, false, false, false, false, false, false, false, false, false] rfl rfl (any_of HT_.out (by kernel_rfl)) (fun _ _ _ h => h) (Or.inl ⟨rfl, ?_⟩) ?_ ?_
      rotate_left
      ·intro w'
       go_simp
       with_reducible rfl
      rotate_left
      ·simp only [Act.put, s2_, s0_, s1_, i64_w, i32_w]
       rfl
      refine pure_ (i := 1) (N := some 26) (v := ?_) (a' := ?_) #[true, true, false, false, false, false, false, false, false, false] rfl rfl (any_of HT_.out (by kernel_rfl)) (fun _ _ _ h => h) (Or.inl ⟨rfl, ?_⟩) ?_ ?_
      rotate_left
      ·intro w'
       go_simp
       with_reducible rfl
      rotate_left
      ·simp only [Act.put, s2_, s0_, s1_, i64_w, i32_w]
       rfl
      refine pure_ (i := 2) (N := some 27) (v := ?_) (a' := ?_) #[true, true, true, false, false, false, false, false, false, false] rfl rfl (any_of HT_.out (by kernel_rfl)) (fun _ _ _ h => h) (Or.inl ⟨rfl, ?_⟩) ?_ ?_
      rotate_left
      ·intro w'
       go_simp
       with_reducible rfl
      rotate_left
      ·simp only [Act.put, s2_, s0_, s1_, i64_w, i32_w]
       rfl
      refine pure_ (i := 4) (N := some 29) (v := ?_) (a' := ?_) #[true, true, true, false, true, false, false, false, false, false] rfl rfl (any_of HT_.out (by kernel_rfl)) (fun _ _ _ h => h) (Or.inl ⟨rfl, ?_⟩) ?_ ?_
      rotate_left
      ·intro w'
       go_simp
       with_reducible rfl
      rotate_left
      ·simp only [Act.put, s2_, s0_, s1_, i64_w, i32_w]
       rfl
      refine pure_ (i := 5) (N := some 30) (v := ?_) (a' := ?_) #[true, true, true, false, true, true, false, false, false, false] rfl rfl (any_of HT_.out (by kernel_rfl)) (fun _ _ _ h => h) (Or.inl ⟨rfl, ?_⟩) ?_ ?_
      rotate_left
      ·intro w'
       go_simp
       with_reducible rfl
      rotate_left
      ·simp only [Act.put, s2_, s0_, s1_, i64_w, i32_w]
       rfl
      refine pure_ (i := 6) (N := some 31) (v := ?_) (a' := ?_) #[true, true, true, false, true, true, true, false, false, false] rfl rfl (any_of HT_.out (by kernel_rfl)) (fun _ _ _ h => h) (Or.inl ⟨rfl, ?_⟩) ?_ ?_
      rotate_left
      ·intro w'
       go_simp
       with_reducible rfl
      rotate_left
      ·simp only [Act.put, s2_, s0_, s1_, i64_w, i32_w]
       rfl
      refine one_ (i := 3) (N := some 28) #[true, true, true, true, true, true, true, false, false, false] rfl rfl (one_of HT_.out (by kernel_rfl)) (by decide) (fun K hK => ?_)
      refine goes_ Try.func112 (by kernel_rfl) rfl #[.slice A0 y250.length c0] rfl rfl rfl (by (try simp only [List.map_toArray, List.map_cons, List.map_nil]); rfl) ?_
      with_reducible refine (impl_clone.calls _ _ y250 t254 _ ?side1 ?side2 A27.out).mono ?_
      (case side1 => repeat (exact (Kd.C_below HR253.out HB.out)))
      (case side2 => exact HC253.out)
      rintro e w34 ⟨v255, rfl, ho0, hb⟩
      refine ⟨_, rfl, ?_⟩
      have HO256 := am (Kd.R_lower ho0 (below_size HB.out))
      replace HB := am (below_step HB.out hb)
      (try clear hb)
      (try clear hb2)
      (try clear hk)
      (try clear hi)
      (try clear ho0)
      refine hK.out _ _ trivial (fun hHeld => ?_)
      clear hK K
      refine norm_ (a' := ?_) ?_ ?_
      rotate_left
      ·show Act.put _ (some 28) _ = _
       simp only [Act.put, s2_, s0_, s1_, i64_w, i32_w]
       rfl
      refine one_ (i := 7) (N := some 32) #[true, true, true, true, true, true, true, true, false, false] rfl rfl (one_of HT_.out (by kernel_rfl)) (by decide) (fun K hK => ?_)
      refine goes_ Try.func112 (by kernel_rfl) rfl #[.slice A33 y257.length c33] rfl rfl rfl (by (try simp only [List.map_toArray, List.map_cons, List.map_nil]); rfl) ?_
      with_reducible refine (impl_clone.calls _ _ y257 t261 _ ?side1 ?side2 A30.out).mono ?_
      (case side1 => repeat (exact (Kd.C_below HR260.out HB.out)))
      (case side2 => exact HC260.out)
      rintro e w35 ⟨v262, rfl, ho0, hb⟩
      refine ⟨_, rfl, ?_⟩
      have HO263 := am (Kd.R_lower (Kd.R_new' ho0 (Kd.R_lt HO256.out)) (below_size HB.out))
      replace HO256 := am (Kd.R_elder' HO256.out (Kd.R_base ho0) hb)
      replace HB := am (below_step HB.out hb)
      (try clear hb)
      (try clear hb2)
      (try clear hk)
      (try clear hi)
      (try clear ho0)
      refine hK.out _ _ trivial (fun hHeld => ?_)
      clear hK K
      refine norm_ (a' := ?_) ?_ ?_
      rotate_left
      ·show Act.put _ (some 32) _ = _
       simp only [Act.put, s2_, s0_, s1_, i64_w, i32_w]
       rfl
      refine pure_ (i := 8) (N := some 4) (v := ?_) (a' := ?_) #[true, true, true, true, true, true, true, true, true, false] rfl rfl (any_of HT_.out (by kernel_rfl)) (fun _ _ _ h => h) (Or.inl ⟨rfl, ?_⟩) ?_ ?_
      rotate_left
      ·intro w'
       go_simp
       with_reducible rfl
      rotate_left
      ·simp only [Act.put, s2_, s0_, s1_, i64_w, i32_w]
       rfl
      refine pure_ (i := 9) (N := some 5) (v := ?_) (a' := ?_) #[true, true, true, true, true, true, true, true, true, true] rfl rfl (any_of HT_.out (by kernel_rfl)) (fun _ _ _ h => h) (Or.inl ⟨rfl, ?_⟩) ?_ ?_
      rotate_left
      ·intro w'
       go_simp
       with_reducible rfl
      rotate_left
      ·simp only [Act.put, s2_, s0_, s1_, i64_w, i32_w]
       rfl
      refine done_ (done_of HT_.out (by kernel_rfl)) ?_
      try go_wp2
      go_ret2
      exact ⟨_, _, rfl, by exact Kd.R_mono HO256.out (fun _ hk => hk.2), by exact Kd.R_mono HO263.out (fun _ hk => hk.2), HB.out⟩
     ·rw [if_neg c26] at H
      exact absurd H (by simp)
    ·rw [if_neg c25] at H
     exact absurd H (by simp)

def spec_l1In.f (a0 : Int) (a1 : Int) (a2 : Int) : Option (Bool) := if a0 ≥ a1 then (some (decide (a0 ≤ a2))) else (some false)
theorem spec_l1In.calls (a0 : Int) (a1 : Int) (a2 : Int) (r : Bool) (w : World) (h : spec_l1In.f a0 a1 a2 = some r) :
  Calls Try.prog 119 #[.int .i64 a0, .int .i64 a1, .int .i64 a2] w fun e w' => e = .returned (.bool r) ∧ Drawn0 w w' := by
 have H : (if a0 ≥ a1 then (some (decide (a0 ≤ a2))) else (some false)) = some r := h
 clear h
 by_cases c4 : a0 ≥ a1
 ·rw [if_pos c4] at H
  have c4b0 : decide (a1 ≤ a0) = true := decide_eq_true c4
  clear c4
  obtain rfl := Option.some.inj H
  go_enter Try.func119, Try.ntmps119
  go_wp2
  go_ret
  exact ⟨rfl, by repeat (exact Drawn0.refl _)⟩
 ·rw [if_neg c4] at H
  have c4b0 : decide (a1 ≤ a0) = false := decide_eq_false c4
  clear c4
  obtain rfl := Option.some.inj H
  go_enter Try.func119, Try.ntmps119
  go_wp2
  go_ret
  exact ⟨rfl, by repeat (exact Drawn0.refl _)⟩

def spec_IsValidRow.f (a0_0 : Int) (a0_1 : Int) (a0_2 : Int) : Option (Bool) := (spec_l1In.f a0_0 0 9).bind fun t265 => (if t265 = true then ((spec_l1In.f a0_1 0 99).bind fun t266 => (if t266 = true then ((spec_l1In.f a0_2 0 3).bind fun t267 => (some t267)) else (some false))) else (some false))
theorem spec_IsValidRow.calls (a0_0 : Int) (a0_1 : Int) (a0_2 : Int) (r : Bool) (w : World) (h : spec_IsValidRow.f a0_0 a0_1 a0_2 = some r) :
  Calls Try.prog 147 #[.agg #[.int .i64 a0_0, .int .i64 a0_1, .int .i64 a0_2]] w fun e w' => e = .returned (.bool r) ∧ Below w.heap.size w w' := by
 have hu60 := Try.underlying60
 have HB := am (Below.refl w.heap.size w)
 have H : ((spec_l1In.f a0_0 0 9).bind fun t265 => (if t265 = true then ((spec_l1In.f a0_1 0 99).bind fun t266 => (if t266 = true then ((spec_l1In.f a0_2 0 3).bind fun t267 => (some t267)) else (some false))) else (some false))) = some r := h
 clear h
 replace H := Option.bind_eq_some_iff.mp H
 obtain ⟨t265, A20, H⟩ := H
 have A2 := am A20
 clear A20
 by_cases c3 : t265 = true
 ·subst c3
  rw [if_pos rfl] at H
  replace H := Option.bind_eq_some_iff.mp H
  obtain ⟨t266, A40, H⟩ := H
  have A4 := am A40
  clear A40
  by_cases c5 : t266 = true
  ·subst c5
   rw [if_pos rfl] at H
   replace H := Option.bind_eq_some_iff.mp H
   obtain ⟨t267, A60, H⟩ := H
   have A6 := am A60
   clear A60
   obtain rfl := Option.some.inj H
   go_enter Try.func147, Try.ntmps147
   go_wp2_with (first | ((with_reducible refine gate_dst (N := 1) rfl ?_); refine box_event ?hg (N := 1) ?hd (cs := #[.int .i64 a0_0, .int .i64 a0_1, .int .i64 a0_2]) (t := 60) ?hr ?_; (case hd => rfl); (case hg => rfl); (case hr => (go_simp; done)); intro gb264 hg w7 hbox hb; have BK264 := am (hbox); have GW264 := am (gw_ hg HB.out); have GE264 := am (gw_ hg HB.out); replace HB := am (below_step HB.out hb); clear hb hbox hg; obtain ⟨hcz8_0, hcz8_1, hcz8_2, hfz8_0, hfz8_1, hfz8_2⟩ := cells3_ BK264.out) | ((with_reducible refine gate_callee (f := 119) rfl ?_); refine goesL_ (some 5) rfl rfl Try.func119 (by kernel_rfl) rfl #[.int .i64 a0_0, .int .i64 0, .int .i64 9] rfl (by (try simp only [List.map_toArray, List.map_cons, List.map_nil]); rfl) ?_; (with_reducible refine (spec_l1In.calls a0_0 0 9 true _ A2.out).mono ?_); rintro e w' ⟨rfl, ⟨nd, rfl⟩⟩; refine ⟨_, rfl, ?_⟩) | (go_at_call 119; (with_reducible refine (spec_l1In.calls a0_1 0 99 true _ A4.out).mono ?_); rintro e w' ⟨rfl, ⟨nd, rfl⟩⟩) | (go_at_call 119; (with_reducible refine (spec_l1In.calls a0_2 0 3 t267 _ A6.out).mono ?_); rintro e w' ⟨rfl, ⟨nd, rfl⟩⟩))
   go_ret
   exact ⟨rfl, by repeat ((with_reducible first | exact HB.out | apply pw_below_drewN))⟩
  ·replace c5 := Bool.eq_false_iff.mpr c5
   subst c5
   rw [if_neg (show ¬ (false = true) by decide)] at H
   obtain rfl := Option.some.inj H
   go_enter Try.func147, Try.ntmps147
   go_wp2_with (first | ((with_reducible refine gate_dst (N := 1) rfl ?_); refine box_event ?hg (N := 1) ?hd (cs := #[.int .i64 a0_0, .int .i64 a0_1, .int .i64 a0_2]) (t := 60) ?hr ?_; (case hd => rfl); (case hg => rfl); (case hr => (go_simp; done)); intro gb264 hg w9 hbox hb; have BK264 := am (hbox); have GW264 := am (gw_ hg HB.out); have GE264 := am (gw_ hg HB.out); replace HB := am (below_step HB.out hb); clear hb hbox hg; obtain ⟨hcz10_0, hcz10_1, hcz10_2, hfz10_0, hfz10_1, hfz10_2⟩ := cells3_ BK264.out) | ((with_reducible refine gate_callee (f := 119) rfl ?_); refine goesL_ (some 5) rfl rfl Try.func119 (by kernel_rfl) rfl #[.int .i64 a0_0, .int .i64 0, .int .i64 9] rfl (by (try simp only [List.map_toArray, List.map_cons, List.map_nil]); rfl) ?_; (with_reducible refine (spec_l1In.calls a0_0 0 9 true _ A2.out).mono ?_); rintro e w' ⟨rfl, ⟨nd, rfl⟩⟩; refine ⟨_, rfl, ?_⟩) | (go_at_call 119; (with_reducible refine (spec_l1In.calls a0_1 0 99 false _ A4.out).mono ?_); rintro e w' ⟨rfl, ⟨nd, rfl⟩⟩))
   go_ret
   exact ⟨rfl, by repeat ((with_reducible first | exact HB.out | apply pw_below_drewN))⟩
 ·replace c3 := Bool.eq_false_iff.mpr c3
  subst c3
  rw [if_neg (show ¬ (false = true) by decide)] at H
  obtain rfl := Option.some.inj H
  go_enter Try.func147, Try.ntmps147
  go_wp2_with (first | ((with_reducible refine gate_dst (N := 1) rfl ?_); refine box_event ?hg (N := 1) ?hd (cs := #[.int .i64 a0_0, .int .i64 a0_1, .int .i64 a0_2]) (t := 60) ?hr ?_; (case hd => rfl); (case hg => rfl); (case hr => (go_simp; done)); intro gb264 hg w11 hbox hb; have BK264 := am (hbox); have GW264 := am (gw_ hg HB.out); have GE264 := am (gw_ hg HB.out); replace HB := am (below_step HB.out hb); clear hb hbox hg; obtain ⟨hcz12_0, hcz12_1, hcz12_2, hfz12_0, hfz12_1, hfz12_2⟩ := cells3_ BK264.out) | ((with_reducible refine gate_callee (f := 119) rfl ?_); refine goesL_ (some 5) rfl rfl Try.func119 (by kernel_rfl) rfl #[.int .i64 a0_0, .int .i64 0, .int .i64 9] rfl (by (try simp only [List.map_toArray, List.map_cons, List.map_nil]); rfl) ?_; (with_reducible refine (spec_l1In.calls a0_0 0 9 false _ A2.out).mono ?_); rintro e w' ⟨rfl, ⟨nd, rfl⟩⟩; refine ⟨_, rfl, ?_⟩))
  go_ret
  exact ⟨rfl, by repeat ((with_reducible first | exact HB.out | apply pw_below_drewN))⟩

def spec_RowCost.f (a0_0 : Int) (a0_1 : Int) (a0_2 : Int) : Option (Int) := (spec_IsValidRow.f a0_0 a0_1 a0_2).bind fun t269 => (if t269 = true then (some (wrap64 (1 + a0_2))) else (some 0))
theorem spec_RowCost.calls (a0_0 : Int) (a0_1 : Int) (a0_2 : Int) (r : Int) (w : World) (h : spec_RowCost.f a0_0 a0_1 a0_2 = some r) :
  Calls Try.prog 113 #[.agg #[.int .i64 a0_0, .int .i64 a0_1, .int .i64 a0_2]] w fun e w' => e = .returned (.int .i64 r) ∧ Below w.heap.size w w' := by
 have hu60 := Try.underlying60
 have HB := am (Below.refl w.heap.size w)
 have H : ((spec_IsValidRow.f a0_0 a0_1 a0_2).bind fun t269 => (if t269 = true then (some (wrap64 (1 + a0_2))) else (some 0))) = some r := h
 clear h
 replace H := Option.bind_eq_some_iff.mp H
 obtain ⟨t269, A20, H⟩ := H
 have A2 := am A20
 clear A20
 by_cases c3 : t269 = true
 ·subst c3
  rw [if_pos rfl] at H
  obtain rfl := Option.some.inj H
  go_enter Try.func113, Try.ntmps113
  go_wp2_with (first | ((with_reducible refine gate_dst (N := 1) rfl ?_); refine box_event ?hg (N := 1) ?hd (cs := #[.int .i64 a0_0, .int .i64 a0_1, .int .i64 a0_2]) (t := 60) ?hr ?_; (case hd => rfl); (case hg => rfl); (case hr => (go_simp; done)); intro gb268 hg w4 hbox hb; have BK268 := am (hbox); have GW268 := am (gw_ hg HB.out); have GE268 := am (gw_ hg HB.out); replace HB := am (below_step HB.out hb); clear hb hbox hg; obtain ⟨hcz5_0, hcz5_1, hcz5_2, hfz5_0, hfz5_1, hfz5_2⟩ := cells3_ BK268.out) | ((with_reducible refine gate_callee (f := 147) rfl ?_); refine goesL_ (some 4) rfl rfl Try.func147 (by kernel_rfl) rfl #[.agg #[.int .i64 a0_0, .int .i64 a0_1, .int .i64 a0_2]] rfl (by (try simp only [List.map_toArray, List.map_cons, List.map_nil]); rfl) ?_; (with_reducible refine (spec_IsValidRow.calls a0_0 a0_1 a0_2 true _ A2.out).mono ?_); rintro e w6 ⟨rfl, hb⟩; refine ⟨_, rfl, ?_⟩; replace BK268 := am (blk_below BK268.out hb); replace HB := am (below_step HB.out hb); (try clear hb); obtain ⟨hcz7_0, hcz7_1, hcz7_2, hfz7_0, hfz7_1, hfz7_2⟩ := cells3_ BK268.out))
  go_ret
  exact ⟨rfl, HB.out⟩
 ·replace c3 := Bool.eq_false_iff.mpr c3
  subst c3
  rw [if_neg (show ¬ (false = true) by decide)] at H
  obtain rfl := Option.some.inj H
  go_enter Try.func113, Try.ntmps113
  go_wp2_with (first | ((with_reducible refine gate_dst (N := 1) rfl ?_); refine box_event ?hg (N := 1) ?hd (cs := #[.int .i64 a0_0, .int .i64 a0_1, .int .i64 a0_2]) (t := 60) ?hr ?_; (case hd => rfl); (case hg => rfl); (case hr => (go_simp; done)); intro gb268 hg w8 hbox hb; have BK268 := am (hbox); have GW268 := am (gw_ hg HB.out); have GE268 := am (gw_ hg HB.out); replace HB := am (below_step HB.out hb); clear hb hbox hg; obtain ⟨hcz9_0, hcz9_1, hcz9_2, hfz9_0, hfz9_1, hfz9_2⟩ := cells3_ BK268.out) | ((with_reducible refine gate_callee (f := 147) rfl ?_); refine goesL_ (some 4) rfl rfl Try.func147 (by kernel_rfl) rfl #[.agg #[.int .i64 a0_0, .int .i64 a0_1, .int .i64 a0_2]] rfl (by (try simp only [List.map_toArray, List.map_cons, List.map_nil]); rfl) ?_; (with_reducible refine (spec_IsValidRow.calls a0_0 a0_1 a0_2 false _ A2.out).mono ?_); rintro e w10 ⟨rfl, hb⟩; refine ⟨_, rfl, ?_⟩; replace BK268 := am (blk_below BK268.out hb); replace HB := am (below_step HB.out hb); (try clear hb)))
  go_ret
  exact ⟨rfl, HB.out⟩

def spec_NextChunk.l0 : Nat → List (S60) → Int → Int → Int → Option ((List (S60)) × (List (S60)))
 | 0, _, _, _, _ => none
 | k + 1, x0, x1, x6, x7 => if x7 < (x0.length : Int) then (if x7 = 0 then (if 0 ≤ x7 then ((spec_RowCost.f ((rd_T60 x0 x7).f0) ((rd_T60 x0 x7).f1) ((rd_T60 x0 x7).f2)).bind fun t271 => (spec_NextChunk.l0 k x0 x1 (wrap64 (x6 + t271)) (wrap64 (x7 + 1)))) else (none)) else (if 0 ≤ x7 then ((spec_RowCost.f ((rd_T60 x0 x7).f0) ((rd_T60 x0 x7).f1) ((rd_T60 x0 x7).f2)).bind fun t273 => (if (wrap64 (x6 + t273)) ≤ x1 then ((spec_RowCost.f ((rd_T60 x0 x7).f0) ((rd_T60 x0 x7).f1) ((rd_T60 x0 x7).f2)).bind fun t275 => (spec_NextChunk.l0 k x0 x1 (wrap64 (x6 + t275)) (wrap64 (x7 + 1)))) else ((some (([] : List (S60)) : List (S60))).bind fun y276 => (if x7 ≤ (x0.length : Int) then ((some (x0.take (x7 : Int).toNat : List (S60))).bind fun y279 => (if y276.length + y279.length < 5864062014805 then ((some (([] : List (S60)) : List (S60))).bind fun y286 => ((some (x0.drop (x7 : Int).toNat : List (S60))).bind fun y289 => (if y286.length + y289.length < 5864062014805 then (some ((y276 ++ y279), (y286 ++ y289))) else (none)))) else (none))) else (none))))) else (none))) else ((some (([] : List (S60)) : List (S60))).bind fun y296 => (if 0 ≤ x7 then (if x7 ≤ (x0.length : Int) then ((some (x0.take (x7 : Int).toNat : List (S60))).bind fun y299 => (if y296.length + y299.length < 5864062014805 then ((some (([] : List (S60)) : List (S60))).bind fun y306 => ((some (x0.drop (x7 : Int).toNat : List (S60))).bind fun y309 => (if y306.length + y309.length < 5864062014805 then (some ((y296 ++ y299), (y306 ++ y309))) else (none)))) else (none))) else (none)) else (none)))
def spec_NextChunk.f (k : Nat) (l0 : List (S60)) (a1 : Int) : Option ((List (S60)) × (List (S60))) := spec_NextChunk.l0 k l0 a1 0 0
def spec_NextChunk.T6 : Bool × List (List Nat × List Nat) := (true, [([], []), ([], []), ([], []), ([1, 2], [1, 2]), ([0, 3], [0, 3]), ([], []), ([], []), ([], []), ([6, 7], [6, 7]), ([5, 8, 4], [5, 8]), ([4, 9, 0, 1, 2, 3, 4], [4]), ([9, 10, 0, 1, 2, 3, 4, 5, 6, 7, 8, 9, 10], [9])])
def spec_NextChunk.B6 : List Nat := [0, 0, 0, 6, 15, 0, 0, 0, 192, 511, 1023, 2047]
theorem spec_NextChunk.tab6 : rtab .any (opsOf Try.f19 6) = spec_NextChunk.T6 := by kernel_rfl
theorem spec_NextChunk.bits6 : waitsOk spec_NextChunk.T6.2 spec_NextChunk.B6 = true := by kernel_rfl
theorem spec_NextChunk.calls (k : Nat) (A0 : Option Addr) (c0 : Nat) (l0 : List (S60)) (a1 : Int) (r1 : List (S60)) (r2 : List (S60)) (w : World) (hr0 : Kd.C k60 w A0 l0.length l0) (hc0 : l0.length ≤ c0) (h : spec_NextChunk.f k l0 a1 = some (r1, r2)) :
  Calls Try.prog 19 #[.slice A0 l0.length c0, .int .i64 a1] w fun e w' => ∃ v0_ v1_ : Value, e = .returned (.tuple #[v0_, v1_]) ∧ Kd.R k60 60 w' w.heap.size (fun k_ => some k_ ≠ (v1_ : Value).ownBlock) v0_ r1 ∧ Kd.R k60 60 w' w.heap.size (fun k_ => some k_ ≠ (v0_ : Value).ownBlock) v1_ r2 ∧ Below w.heap.size w w' := by
 have hu60 := Try.underlying60
 have HR0 := am hr0
 have HC0 := am hc0
 clear hr0 hc0
 have HB := am (Below.refl w.heap.size w)
 have H : (spec_NextChunk.l0 k l0 a1 0 0) = some (r1, r2) := h
 clear h
 have H' := am H
 clear H
 go_enter Try.func19, Try.ntmps19
 go_wp2
 go_loopg [6, 7] k (fun kq v6 v7 w' => ∃ (x6_1 : Int) (x7_1 : Int), v6 = .int .i64 x6_1 ∧ v7 = .int .i64 x7_1 ∧ Aside0 (spec_NextChunk.l0 kq l0 a1 x6_1 x7_1 = some (r1, r2)) ∧ Aside0 (kq ≤ k) ∧ Aside0 (Below w.heap.size w w'))
 case atStart => exact ⟨(0), (0), rfl, rfl, H', ⟨Nat.le_refl _⟩, ⟨HB.out⟩⟩
 case round =>
  clear H'
  obtain ⟨x6_1, x7_1, rfl, rfl, HA, HK1, HB⟩ := hrel
  cases gk with
  | zero => exact absurd HA.out (by simp [spec_NextChunk.l0])
  | succ k1 =>
   have H := HA.out
   clear HA
   simp only [spec_NextChunk.l0] at H
   by_cases c3 : x7_1 < (l0.length : Int)
   ·rw [if_pos c3] at H
    have c3b0 : decide (x7_1 < (l0.length : Int)) = true := decide_eq_true c3
    clear c3
    by_cases c4 : x7_1 = 0
    ·rw [if_pos c4] at H
     have c4b0 : (x7_1 == 0) = true := beq_iff_eq.mpr c4
     have c4b1 : (x7_1 != 0) = false := bne_eq_false_iff_eq.mpr c4
     clear c4
     by_cases c5 : 0 ≤ x7_1
     ·rw [if_pos c5] at H
      have c5b0 : decide (0 ≤ x7_1) = true := decide_eq_true c5
      clear c5
      replace H := Option.bind_eq_some_iff.mp H
      obtain ⟨t271, A60, H⟩ := H
      have A6 := am A60
      clear A60
      have H' := am H
      clear H
      have p270 : 0 ≤ (x7_1 : Int) := of_decide_eq_true (by (with_reducible assumption))
      have q270 : x7_1 < (l0.length : Int) := of_decide_eq_true (by (with_reducible assumption))
      obtain ⟨ad270, e270, hx270_0, hx270_1, hx270_2⟩ := at_T60 HR0.out x7_1 p270 q270
      cases e270
      replace hx270_0 := bc_ HB.out hx270_0
      replace hx270_1 := bc_ HB.out hx270_1
      replace hx270_2 := bc_ HB.out hx270_2
      replace p270 := eq_true p270
      replace q270 := eq_true q270
      go_wp2_with (((with_reducible refine gate_callee (f := 113) rfl ?_); refine goesL_ (some 32) rfl rfl Try.func113 (by kernel_rfl) rfl #[.agg #[.int .i64 ((rd_T60 l0 x7_1).f0), .int .i64 ((rd_T60 l0 x7_1).f1), .int .i64 ((rd_T60 l0 x7_1).f2)]] rfl (by (try simp only [List.map_toArray, List.map_cons, List.map_nil]); rfl) ?_; (with_reducible refine (spec_RowCost.calls ((rd_T60 l0 x7_1).f0) ((rd_T60 l0 x7_1).f1) ((rd_T60 l0 x7_1).f2) t271 _ A6.out).mono ?_); rintro e w7 ⟨rfl, hb⟩; refine ⟨_, rfl, ?_⟩; replace HB := am (below_step HB.out hb); (try clear hb)))
      go_roundg k1
      case measure => have := HK1.out; omega
      case rel => exact ⟨(wrap64 (x6_1 + t271)), (wrap64 (x7_1 + 1)), rfl, rfl, H', ⟨by have := HK1.out; omega⟩, ⟨HB.out⟩⟩
     ·rw [if_neg c5] at H
      exact absurd H (by simp)
    ·rw [if_neg c4] at H
     have c4b0 : (x7_1 == 0) = false := beq_eq_false_iff_ne.mpr c4
     have c4b1 : (x7_1 != 0) = true := bne_iff_ne.mpr c4
     by_cases c8 : 0 ≤ x7_1
     ·rw [if_pos c8] at H
      have c8b0 : decide (0 ≤ x7_1) = true := decide_eq_true c8
      clear c8
      replace H := Option.bind_eq_some_iff.mp H
      obtain ⟨t273, A90, H⟩ := H
      have A9 := am A90
      clear A90
      by_cases c10 : (wrap64 (x6_1 + t273)) ≤ a1
      ·rw [if_pos c10] at H
       have c10b0 : decide ((wrap64 (x6_1 + t273)) ≤ a1) = true := decide_eq_true c10
       clear c10
       replace H := Option.bind_eq_some_iff.mp H
       obtain ⟨t275, A110, H⟩ := H
       have A11 := am A110
       clear A110
       have H' := am H
       clear H
       have p272 : 0 ≤ (x7_1 : Int) := of_decide_eq_true (by (with_reducible assumption))
       have q272 : x7_1 < (l0.length : Int) := of_decide_eq_true (by (with_reducible assumption))
       obtain ⟨ad272, e272, hx272_0, hx272_1, hx272_2⟩ := at_T60 HR0.out x7_1 p272 q272
       cases e272
       replace hx272_0 := bc_ HB.out hx272_0
       replace hx272_1 := bc_ HB.out hx272_1
       replace hx272_2 := bc_ HB.out hx272_2
       replace p272 := eq_true p272
       replace q272 := eq_true q272
       go_wp2_with (first | (go_at_call 113; (with_reducible refine (spec_RowCost.calls ((rd_T60 l0 x7_1).f0) ((rd_T60 l0 x7_1).f1) ((rd_T60 l0 x7_1).f2) t273 _ A9.out).mono ?_); rintro e w12 ⟨rfl, hb⟩; replace HB := am (below_step HB.out hb); (try clear hb); have p274 : 0 ≤ (x7_1 : Int) := of_decide_eq_true (by (with_reducible assumption)); have q274 : x7_1 < (l0.length : Int) := of_decide_eq_true (by (with_reducible assumption)); obtain ⟨ad274, e274, hx274_0, hx274_1, hx274_2⟩ := at_T60 HR0.out x7_1 p274 q274; obtain rfl : ad272 = ad274 := (by injection e274); replace hx274_0 := bc_ HB.out hx274_0; replace hx274_1 := bc_ HB.out hx274_1; replace hx274_2 := bc_ HB.out hx274_2; replace p274 := eq_true p274; replace q274 := eq_true q274) | ((with_reducible refine gate_callee (f := 113) rfl ?_); refine goesL_ (some 32) rfl rfl Try.func113 (by kernel_rfl) rfl #[.agg #[.int .i64 ((rd_T60 l0 x7_1).f0), .int .i64 ((rd_T60 l0 x7_1).f1), .int .i64 ((rd_T60 l0 x7_1).f2)]] rfl (by (try simp only [List.map_toArray, List.map_cons, List.map_nil]); rfl) ?_; (with_reducible refine (spec_RowCost.calls ((rd_T60 l0 x7_1).f0) ((rd_T60 l0 x7_1).f1) ((rd_T60 l0 x7_1).f2) t275 _ A11.out).mono ?_); rintro e w13 ⟨rfl, hb⟩; refine ⟨_, rfl, ?_⟩; replace HB := am (below_step HB.out hb); (try clear hb)))
       go_roundg k1
       case measure => have := HK1.out; omega
       case rel => exact ⟨(wrap64 (x6_1 + t275)), (wrap64 (x7_1 + 1)), rfl, rfl, H', ⟨by have := HK1.out; omega⟩, ⟨HB.out⟩⟩
      ·rw [if_neg c10] at H
       have c10b0 : decide ((wrap64 (x6_1 + t273)) ≤ a1) = false := decide_eq_false c10
       clear c10
       obtain ⟨y276, hy276, H⟩ := bindO_ H
       have Ny276 := am hy276
       clear hy276
       have c14b0 := eq_true (of_decide_eq_true (by (with_reducible assumption)) : 0 ≤ x7_1)
       by_cases c15 : x7_1 ≤ (l0.length : Int)
       ·rw [if_pos c15] at H
        have c15b0 := eq_true c15
        have c15b1 : decide (x7_1 ≤ (l0.length : Int)) = true := decide_eq_true c15
        clear c15
        obtain ⟨y279, hy279, H⟩ := bindO_ H
        have Ny279 := am hy279
        clear hy279
        by_cases c16 : y276.length + y279.length < 5864062014805
        ·rw [if_pos c16] at H
         have LMc16 := am c16
         clear c16
         obtain ⟨y283, hy283⟩ : ∃ y_ : List (S60), y_ = (y276 ++ y279) := ⟨_, rfl⟩
         replace H : ((some (([] : List (S60)) : List (S60))).bind fun y286 => ((some (l0.drop (x7_1 : Int).toNat : List (S60))).bind fun y289 => (if y286.length + y289.length < 5864062014805 then (some (y283, (y286 ++ y289))) else (none)))) = some (r1, r2) := by (rw [hy283]; with_reducible exact H)
         have Ny283 := am hy283
         clear hy283
         obtain ⟨y286, hy286, H⟩ := bindO_ H
         have Ny286 := am hy286
         clear hy286
         have c17b0 := eq_true (of_decide_eq_true (by (with_reducible assumption)) : 0 ≤ x7_1)
         have c18b0 := eq_true (of_decide_eq_true (by (with_reducible assumption)) : x7_1 ≤ (l0.length : Int))
         obtain ⟨y289, hy289, H⟩ := bindO_ H
         have Ny289 := am hy289
         clear hy289
         by_cases c19 : y286.length + y289.length < 5864062014805
         ·rw [if_pos c19] at H
          have LMc19 := am c19
          clear c19
          obtain ⟨y293, hy293⟩ : ∃ y_ : List (S60), y_ = (y286 ++ y289) := ⟨_, rfl⟩
          replace H : (some (y283, y293)) = some (r1, r2) := by (rw [hy293]; with_reducible exact H)
          have Ny293 := am hy293
          clear hy293
          simp only [Option.some.injEq, Prod.mk.injEq] at H
          obtain ⟨rfl, rfl⟩ := H
          have p272 : 0 ≤ (x7_1 : Int) := of_decide_eq_true (by (with_reducible assumption))
          have q272 : x7_1 < (l0.length : Int) := of_decide_eq_true (by (with_reducible assumption))
          obtain ⟨ad272, e272, hx272_0, hx272_1, hx272_2⟩ := at_T60 HR0.out x7_1 p272 q272
          cases e272
          replace hx272_0 := bc_ HB.out hx272_0
          replace hx272_1 := bc_ HB.out hx272_1
          replace hx272_2 := bc_ HB.out hx272_2
          replace p272 := eq_true p272
          replace q272 := eq_true q272
          try go_wp2_with ((go_at_call 113; (with_reducible refine (spec_RowCost.calls ((rd_T60 l0 x7_1).f0) ((rd_T60 l0 x7_1).f1) ((rd_T60 l0 x7_1).f2) t273 _ A9.out).mono ?_); rintro e w20 ⟨rfl, hb⟩; replace HB := am (below_step HB.out hb); (try clear hb)))
          replace HB := am (below_drew1 HB.out)
          have q22 : (x7_1 : Int) ≤ ((l0.length : Int) : Int) := of_decide_eq_true (by (with_reducible assumption))
          obtain ⟨i022, hi022, _, hsz22, _⟩ := info_parts info60
          have hroom22 : l0.length ≤ c0 := HC0.out
          have hC22 : Kd.C k60 _ (some ad272) l0.length l0 := HR0.out
          have hcut22 := cut_to (P := Try.prog) 24 60 .i64 Try.underlying24 hi022 (some ad272) l0.length c0 x7_1 (of_decide_eq_true (by (with_reducible assumption))) q22 hroom22
          have hr22 := Kd.C_take (m := (x7_1 : Int).toNat) hC22 (by omega)
          have hy22 : y279.length = (x7_1 : Int).toNat := (by rw [Ny279.out, List.length_take]; omega)
          rw [← Ny279.out] at hr22
          rw [← hy22] at hcut22
          have HR282 := am hr22
          have HC282 := am (show y279.length ≤ c0 from by omega)
          clear hr22 hC22 hroom22 hi022 hsz22
          have KY22 := am hy22
          clear hy22
          replace q22 := eq_true q22
          have q23 : (x7_1 : Int) ≤ ((l0.length : Int) : Int) := of_decide_eq_true (by (with_reducible assumption))
          obtain ⟨i023, hi023, _, hsz23, _⟩ := info_parts info60
          have hroom23 : l0.length ≤ c0 := HC0.out
          have hC23 : Kd.C k60 _ (some ad272) l0.length l0 := HR0.out
          have q023 : (0 : Int) ≤ (x7_1 : Int) := of_decide_eq_true (by (with_reducible assumption))
          have hcut23 := cut_from (P := Try.prog) 24 60 .i64 Try.underlying24 hi023 3 hsz23 (some ad272) l0.length c0 x7_1 q023 q23
          have hr23 := Kd.C_drop (m := (x7_1 : Int).toNat) (c := c0) hC23 (by omega) hroom23
          obtain ⟨A23, hA23⟩ : ∃ A1, A1 = (if c0 = (x7_1 : Int).toNat then (some ad272) else ((some ad272) : Option Addr).map (·.add ((x7_1 : Int).toNat * 3))) := ⟨_, rfl⟩
          obtain ⟨c23, hc23⟩ : ∃ c1, c1 = c0 - (x7_1 : Int).toNat := ⟨_, rfl⟩
          have hy23 : y289.length = l0.length - (x7_1 : Int).toNat := (by rw [Ny289.out, List.length_drop] <;> omega)
          rw [show (l0).drop (x7_1 : Int).toNat = y289 from Ny289.out.symm] at hr23
          replace hr23 : Kd.C k60 _ A23 y289.length y289 := (by rw [hA23]; exact hr23)
          rw [← hy23, ← hA23, ← hc23] at hcut23
          have HR292 := am hr23
          have HC292 := am (show y289.length ≤ c23 from by rw [hy23, hc23]; exact Nat.sub_le_sub_right hroom23 _)
          clear hr23 hC23 hroom23 hi023 hsz23 hc23
          have KY23 := am hy23
          have KA23 := am hA23
          clear hy23 hA23
          replace q23 := eq_true q23
          refine start_ (n := 12) (S := fun w' => True) (ds := []) #[false, false, false, false, false, false, false, false, false, false, false, false] (by kernel_rfl) rfl rfl trivial (fun hHeld => ?_); refine with_tabW spec_NextChunk.tab6 spec_NextChunk.bits6 (fun HT_ HW_ => ?_)
          generalize w20.drew = w21 at HB HR282 HR292 hHeld ⊢
          refine pure_ (i := 1) (N := some 37) (v := ?_) (a' := ?_) #[false, true, false, false, false, false, false, false, false, false, false, false] rfl rfl (any_of HT_.out (by kernel_rfl)) (fun _ _ _ h => h) (Or.inl ⟨rfl, ?_⟩) ?_ ?_
          rotate_left
          ·intro w'
           go_simp
           with_reducible rfl
          rotate_left
          ·simp only [Act.put, s2_, s0_, s1_, i64_w, i32_w]
           rfl
          refine pure_ (i := 2) (N := some 38) (v := ?_) (a' := ?_) #[false, true, true, false, false, false, false, false, false, false, false, false] rfl rfl (any_of HT_.out (by kernel_rfl)) (fun _ _ _ h => h) (Or.inl ⟨rfl, ?_⟩) ?_ ?_
          rotate_left
          ·intro w'
           go_simp
           with_reducible rfl
          rotate_left
          ·simp only [Act.put, s2_, s0_, s1_, i64_w, i32_w]
           rfl
          refine pure_ (i := 3) (N := some 39) (v := ?_) (a' := ?_) #[false, true, true, true, false, false, false, false, false, false, false, false] rfl rfl (any_of HT_.out (by kernel_rfl)) (fun _ _ _ h => h) (Or.inl ⟨rfl, ?_⟩) ?_ ?_
          rotate_left
          ·intro w'
           go_simp
           with_reducible rfl
          rotate_left
          ·simp only [Act.put, s2_, s0_, s1_, i64_w, i32_w]
           rfl
          refine pure_ (i := 6) (N := some 42) (v := ?_) (a' := ?_) #[false, true, true, true, false, false, true, false, false, false, false, false] rfl rfl (any_of HT_.out (by kernel_rfl)) (fun _ _ _ h => h) (Or.inl ⟨rfl, ?_⟩) ?_ ?_
          rotate_left
          ·intro w'
           go_simp
           with_reducible rfl
          rotate_left
          ·simp only [Act.put, s2_, s0_, s1_, i64_w, i32_w]
           rfl
          refine pure_ (i := 7) (N := some 43) (v := ?_) (a' := ?_) #[false, true, true, true, false, false, true, true, false, false, false, false] rfl rfl (any_of HT_.out (by kernel_rfl)) (fun _ _ _ h => h) (Or.inl ⟨rfl, ?_⟩) ?_ ?_
          rotate_left
          ·intro w'
           go_simp
           with_reducible rfl
          rotate_left
          ·simp only [Act.put, s2_, s0_, s1_, i64_w, i32_w]
           rfl
          refine pure_ (i := 8) (N := some 44) (v := ?_) (a' := ?_) #[false, true, true, true, false, false, true, true, true, false, false, false] rfl rfl (any_of HT_.out (by kernel_rfl)) (fun _ _ _ h => h) (Or.inl ⟨rfl, ?_⟩) ?_ ?_
          rotate_left
          ·intro w'
           go_simp
           with_reducible rfl
          rotate_left
          ·simp only [Act.put, s2_, s0_, s1_, i64_w, i32_w]
           rfl
          refine join_ (σ := Value × Value × Value) 3 #[true, true, true, true, true, true, true, true, true, false, false, false] (fun s_ => [(36, s_.1), (40, s_.2.1), (41, s_.2.2)]) (fun s_ w' => (Kd.R k60 60 w' w.heap.size (fun k_ => some k_ ≠ (s_.2.2 : Value).ownBlock) s_.2.1 y283) ∧ (Kd.R k60 60 w' w.heap.size (fun k_ => some k_ ≠ (s_.2.1 : Value).ownBlock) s_.2.2 y286) ∧ (Below w.heap.size w w')) ?_ ?_
          rotate_left
          ·intro hCont
           refine two_ (i := 0) (j := 5) (Ni := some 36) (Nj := some 41) #[true, true, true, true, false, false, true, true, true, false, false, false] #[false, true, true, true, false, true, true, true, true, false, false, false] rfl rfl rfl rfl (two_of HT_.out (by kernel_rfl)) (by decide) (by decide) (fun K hK => ?_) (fun K hK => ?_)
           ·skip
            refine Kd.R_lit_step k60 _ 60 ?hg (N := 36) ?hd (xs := ([] : List (S60))) (inner := []) (ok := fun _ => True) (okp := fun _ => True) ?hr ?hp (fun _ hk => hk) trivial (Below.refl _ _) (Nat.le_refl _) (by simp) ?_; (case hd => rfl); (case hg => rfl); (case hr => (go_simp; done)); (case hp => exact (Reps.none _ _))
            intro v277 w24 ho25 hb hg_ hnew_
            clear hg_ hnew_
            (rw [← Ny276.out] at ho25)
            have HO278 := am (Kd.R_lower ho25 (below_size HB.out))
            replace HB := am (below_step HB.out hb)
            clear hb ho25
            refine hK.out _ _ trivial (fun hHeld => ?_)
            clear hK K
            refine norm_ (a' := ?_) ?_ ?_
            rotate_left
            ·show Act.put _ (some 36) _ = _
             simp only [Act.put, s2_, s0_, s1_, i64_w, i32_w]
             rfl
            refine two_ (i := 4) (j := 5) (Ni := some 40) (Nj := some 41) #[true, true, true, true, true, false, true, true, true, false, false, false] #[true, true, true, true, false, true, true, true, true, false, false, false] rfl rfl rfl rfl (two_of HT_.out (by kernel_rfl)) (by decide) (by decide) (fun K hK => ?_) (fun K hK => ?_)
            ·skip
             refine Kd.R_append_rows_step k60 (w0 := w) w.heap.size rfl (.tmp 36) (.tmp 39) 24 60 (.agg #[(.int .i64 0), (.int .i64 0), (.int .i64 0)]) 24 rfl Try.underlying24 info60 rfl (by decide) (by omega) v277 y276 y279 _ _ _ (fun _ => True) (fun _ => False) rfl rfl ?aO ?aR (fun _ _ h => h) (fun _ h => h.elim) ?aF ?aB ?aS ?aL ?_
             (case aR => repeat (exact (Kd.C_below HR282.out HB.out)))
             (case aB => exact HB.out)
             (case aF => exact (fun _ _ => trivial))
             (case aO => exact HO278.out)
             (case aS => exact (below_size HB.out))
             (case aL => have := LMc16.out; omega)
             intro v284 w26 ho hb hg hat
             rw [← Ny283.out] at ho
             replace HB := am (hb)
             have HO285 := am (ho)
             clear HO278 ho hb hg hat
             refine hK.out _ _ trivial (fun hHeld => ?_)
             clear hK K
             refine norm_ (a' := ?_) ?_ ?_
             rotate_left
             ·show Act.put _ (some 40) _ = _
              simp only [Act.put, s2_, s0_, s1_, i64_w, i32_w]
              rfl
             refine one_ (i := 5) (N := some 41) #[true, true, true, true, true, true, true, true, true, false, false, false] rfl rfl (one_of HT_.out (by kernel_rfl)) (by decide) (fun K hK => ?_)
             refine Kd.R_lit_step k60 _ 60 ?hg (N := 41) ?hd (xs := ([] : List (S60))) (inner := []) (ok := fun _ => True) (okp := fun _ => True) ?hr ?hp (fun _ hk => hk) trivial (Below.refl _ _) (Nat.le_refl _) (by simp) ?_; (case hd => rfl); (case hg => rfl); (case hr => (go_simp; done)); (case hp => exact (Reps.none _ _))
             intro v287 w27 ho28 hb hg_ hnew_
             clear hg_ hnew_
             (rw [← Ny286.out] at ho28)
             have HO288 := am (Kd.R_lower (Kd.R_new' ho28 (Kd.R_lt HO285.out)) (below_size HB.out))
             replace HO285 := am (Kd.R_elder' HO285.out (Kd.R_base ho28) hb)
             replace HB := am (below_step HB.out hb)
             clear hb ho28
             refine hK.out _ _ trivial (fun hHeld => ?_)
             clear hK K
             refine norm_ (a' := ?_) ?_ ?_
             rotate_left
             ·show Act.put _ (some 41) _ = _
              simp only [Act.put, s2_, s0_, s1_, i64_w, i32_w]
              rfl
             exact norm_ (by simp only [putAll, Act.put, s2_, s0_, s1_]) (hCont (v277, v284, v287) _ ⟨(by exact Kd.R_mono HO285.out (fun _ hk => hk.2)), (by exact Kd.R_mono HO288.out (fun _ hk => hk.2)), HB.out⟩)
            ·skip
             refine Kd.R_lit_step k60 _ 60 ?hg (N := 41) ?hd (xs := ([] : List (S60))) (inner := []) (ok := fun _ => True) (okp := fun _ => True) ?hr ?hp (fun _ hk => hk) trivial (Below.refl _ _) (Nat.le_refl _) (by simp) ?_; (case hd => rfl); (case hg => rfl); (case hr => (go_simp; done)); (case hp => exact (Reps.none _ _))
             intro v287 w26 ho27 hb hg_ hnew_
             clear hg_ hnew_
             (rw [← Ny286.out] at ho27)
             have HO288 := am (Kd.R_lower (Kd.R_new' ho27 (Kd.R_lt HO278.out)) (below_size HB.out))
             replace HO278 := am (Kd.R_elder' HO278.out (Kd.R_base ho27) hb)
             replace HB := am (below_step HB.out hb)
             clear hb ho27
             refine hK.out _ _ trivial (fun hHeld => ?_)
             clear hK K
             refine norm_ (a' := ?_) ?_ ?_
             rotate_left
             ·show Act.put _ (some 41) _ = _
              simp only [Act.put, s2_, s0_, s1_, i64_w, i32_w]
              rfl
             refine one_ (i := 4) (N := some 40) #[true, true, true, true, true, true, true, true, true, false, false, false] rfl rfl (one_of HT_.out (by kernel_rfl)) (by decide) (fun K hK => ?_)
             refine Kd.R_append_rows_step k60 (w0 := w) w.heap.size rfl (.tmp 36) (.tmp 39) 24 60 (.agg #[(.int .i64 0), (.int .i64 0), (.int .i64 0)]) 24 rfl Try.underlying24 info60 rfl (by decide) (by omega) v277 y276 y279 _ _ _ (fun k_ => some k_ ≠ (v287 : Value).ownBlock) (fun _ => False) rfl rfl ?aO ?aR (fun _ _ h => h) (fun _ h => h.elim) ?aF ?aB ?aS ?aL ?_
             (case aR => repeat (exact (Kd.C_below HR282.out HB.out)))
             (case aB => exact HB.out)
             (case aF => exact (fun k_ hk => Kd.fresh' (Kd.R_lt HO288.out) k_ hk))
             (case aO => exact (by exact Kd.R_mono HO278.out (fun _ hk => hk.2)))
             (case aS => exact (below_size HB.out))
             (case aL => have := LMc16.out; omega)
             intro v284 w28 ho hb hg hat
             rw [← Ny283.out] at ho
             replace HO288 := am (Kd.R_after (ok := (fun _ => True)) HO288.out hg hat)
             replace HB := am (hb)
             have HO285 := am (ho)
             clear HO278 ho hb hg hat
             refine hK.out _ _ trivial (fun hHeld => ?_)
             clear hK K
             refine norm_ (a' := ?_) ?_ ?_
             rotate_left
             ·show Act.put _ (some 40) _ = _
              simp only [Act.put, s2_, s0_, s1_, i64_w, i32_w]
              rfl
             exact norm_ (by simp only [putAll, Act.put, s2_, s0_, s1_]) (hCont (v277, v284, v287) _ ⟨HO285.out, (by exact Kd.R_mono HO288.out (fun _ hk => hk.2)), HB.out⟩)
           ·skip
            refine Kd.R_lit_step k60 _ 60 ?hg (N := 41) ?hd (xs := ([] : List (S60))) (inner := []) (ok := fun _ => True) (okp := fun _ => True) ?hr ?hp (fun _ hk => hk) trivial (Below.refl _ _) (Nat.le_refl _) (by simp) ?_; (case hd => rfl); (case hg => rfl); (case hr => (go_simp; done)); (case hp => exact (Reps.none _ _))
            intro v287 w24 ho25 hb hg_ hnew_
            clear hg_ hnew_
            (rw [← Ny286.out] at ho25)
            have HO288 := am (Kd.R_lower ho25 (below_size HB.out))
            replace HB := am (below_step HB.out hb)
            clear hb ho25
            refine hK.out _ _ trivial (fun hHeld => ?_)
            clear hK K
            refine norm_ (a' := ?_) ?_ ?_
            rotate_left
            ·show Act.put _ (some 41) _ = _
             simp only [Act.put, s2_, s0_, s1_, i64_w, i32_w]
             rfl
            refine one_ (i := 0) (N := some 36) #[true, true, true, true, false, true, true, true, true, false, false, false] rfl rfl (one_of HT_.out (by kernel_rfl)) (by decide) (fun K hK => ?_)
            refine Kd.R_lit_step k60 _ 60 ?hg (N := 36) ?hd (xs := ([] : List (S60))) (inner := []) (ok := fun _ => True) (okp := fun _ => True) ?hr ?hp (fun _ hk => hk) trivial (Below.refl _ _) (Nat.le_refl _) (by simp) ?_; (case hd => rfl); (case hg => rfl); (case hr => (go_simp; done)); (case hp => exact (Reps.none _ _))
            intro v277 w26 ho27 hb hg_ hnew_
            clear hg_ hnew_
            (rw [← Ny276.out] at ho27)
            have HO278 := am (Kd.R_lower (Kd.R_new' ho27 (Kd.R_lt HO288.out)) (below_size HB.out))
            replace HO288 := am (Kd.R_elder' HO288.out (Kd.R_base ho27) hb)
            replace HB := am (below_step HB.out hb)
            clear hb ho27
            refine hK.out _ _ trivial (fun hHeld => ?_)
            clear hK K
            refine norm_ (a' := ?_) ?_ ?_
            rotate_left
            ·show Act.put _ (some 36) _ = _
             simp only [Act.put, s2_, s0_, s1_, i64_w, i32_w]
             rfl
            refine one_ (i := 4) (N := some 40) #[true, true, true, true, true, true, true, true, true, false, false, false] rfl rfl (one_of HT_.out (by kernel_rfl)) (by decide) (fun K hK => ?_)
            refine Kd.R_append_rows_step k60 (w0 := w) w.heap.size rfl (.tmp 36) (.tmp 39) 24 60 (.agg #[(.int .i64 0), (.int .i64 0), (.int .i64 0)]) 24 rfl Try.underlying24 info60 rfl (by decide) (by omega) v277 y276 y279 _ _ _ (fun k_ => some k_ ≠ (v287 : Value).ownBlock) (fun _ => False) rfl rfl ?aO ?aR (fun _ _ h => h) (fun _ h => h.elim) ?aF ?aB ?aS ?aL ?_
            (case aR => repeat (exact (Kd.C_below HR282.out HB.out)))
            (case aB => exact HB.out)
            (case aF => exact (fun k_ hk => Kd.fresh' (Kd.R_lt HO288.out) k_ hk))
            (case aO => exact (by exact Kd.R_mono HO278.out (fun _ hk => hk.2)))
            (case aS => exact (below_size HB.out))
            (case aL => have := LMc16.out; omega)
            intro v284 w28 ho hb hg hat
            rw [← Ny283.out] at ho
            replace HO288 := am (Kd.R_after (ok := (fun _ => True)) HO288.out hg hat)
            replace HB := am (hb)
            have HO285 := am (ho)
            clear HO278 ho hb hg hat
            refine hK.out _ _ trivial (fun hHeld => ?_)
            clear hK K
            refine norm_ (a' := ?_) ?_ ?_
            rotate_left
            ·show Act.put _ (some 40) _ = _
             simp only [Act.put, s2_, s0_, s1_, i64_w, i32_w]
             rfl
            exact norm_ (by simp only [putAll, Act.put, s2_, s0_, s1_]) (hCont (v277, v284, v287) _ ⟨HO285.out, (by exact Kd.R_mono HO288.out (fun _ hk => hk.2)), HB.out⟩)
          rintro ⟨v277, v284, v287⟩ w29 ⟨h0_, h1_, h2_⟩
          have HO285 : Aside0 (Kd.R k60 60 w29 w.heap.size (fun k_ => some k_ ≠ (v287 : Value).ownBlock) v284 y283) := ⟨h0_⟩
          have HO288 : Aside0 (Kd.R k60 60 w29 w.heap.size (fun k_ => some k_ ≠ (v284 : Value).ownBlock) v287 y286) := ⟨h1_⟩
          replace HB : Aside0 (Below w.heap.size w w29) := ⟨h2_⟩
          clear h0_ h1_ h2_
          have hHeld := trivial
          refine norm_ (a' := ?_) ?_ ?_
          rotate_left
          ·simp only [putAll, Act.put, s2_, s0_, s1_]
           rfl
          refine one_ (i := 9) (N := some 45) #[true, true, true, true, true, true, true, true, true, true, false, false] rfl rfl (one_of HT_.out (by kernel_rfl)) (by decide) (fun K hK => ?_)
          refine Kd.R_append_rows_step k60 (w0 := w) w.heap.size rfl (.tmp 41) (.tmp 44) 24 60 (.agg #[(.int .i64 0), (.int .i64 0), (.int .i64 0)]) 24 rfl Try.underlying24 info60 rfl (by decide) (by omega) v287 y286 y289 _ _ _ (fun k_ => some k_ ≠ (v284 : Value).ownBlock) (fun _ => False) rfl rfl ?aO ?aR (fun _ _ h => h) (fun _ h => h.elim) ?aF ?aB ?aS ?aL ?_
          (case aR => repeat (exact (Kd.C_below HR292.out HB.out)))
          (case aB => exact HB.out)
          (case aF => exact (fun k_ hk => Kd.fresh' (Kd.R_lt HO285.out) k_ hk))
          (case aO => exact HO288.out)
          (case aS => exact (below_size HB.out))
          (case aL => have := LMc19.out; omega)
          intro v294 w30 ho hb hg hat
          rw [← Ny293.out] at ho
          replace HO285 := am (Kd.R_after (ok := (fun _ => True)) (by exact Kd.R_mono HO285.out (fun _ hk => ⟨trivial, hk⟩)) hg hat)
          replace HB := am (hb)
          have HO295 := am (ho)
          clear HO288 ho hb hg hat
          refine hK.out _ _ trivial (fun hHeld => ?_)
          clear hK K
          refine norm_ (a' := ?_) ?_ ?_
          rotate_left
          ·show Act.put _ (some 45) _ = _
           simp only [Act.put, s2_, s0_, s1_, i64_w, i32_w]
           rfl
          refine pure_ (i := 10) (N := some 4) (v := ?_) (a' := ?_) #[true, true, true, true, true, true, true, true, true, true, true, false] rfl rfl (any_of HT_.out (by kernel_rfl)) (fun _ _ _ h => h) (Or.inl ⟨rfl, ?_⟩) ?_ ?_
          rotate_left
          ·intro w'
           go_simp
           with_reducible rfl
          rotate_left
          ·simp only [Act.put, s2_, s0_, s1_, i64_w, i32_w]
           rfl
          refine pure_ (i := 11) (N := some 5) (v := ?_) (a' := ?_) #[true, true, true, true, true, true, true, true, true, true, true, true] rfl rfl (any_of HT_.out (by kernel_rfl)) (fun _ _ _ h => h) (Or.inl ⟨rfl, ?_⟩) ?_ ?_
          rotate_left
          ·intro w'
           go_simp
           with_reducible rfl
          rotate_left
          ·simp only [Act.put, s2_, s0_, s1_, i64_w, i32_w]
           rfl
          refine done_ (done_of HT_.out (by kernel_rfl)) ?_
          try go_wp2
          go_ret2
          exact ⟨_, _, rfl, by exact Kd.R_mono HO285.out (fun _ hk => hk.2), HO295.out, HB.out⟩
         ·rw [if_neg c19] at H
          exact absurd H (by simp)
        ·rw [if_neg c16] at H
         exact absurd H (by simp)
       ·rw [if_neg c15] at H
        exact absurd H (by simp)
     ·rw [if_neg c8] at H
      exact absurd H (by simp)
   ·rw [if_neg c3] at H
    have c3b0 : decide (x7_1 < (l0.length : Int)) = false := decide_eq_false c3
    clear c3
    obtain ⟨y296, hy296, H⟩ := bindO_ H
    have Ny296 := am hy296
    clear hy296
    by_cases c31 : 0 ≤ x7_1
    ·rw [if_pos c31] at H
     have c31b0 := eq_true c31
     have c31b1 : decide (0 ≤ x7_1) = true := decide_eq_true c31
     clear c31
     by_cases c32 : x7_1 ≤ (l0.length : Int)
     ·rw [if_pos c32] at H
      have c32b0 := eq_true c32
      have c32b1 : decide (x7_1 ≤ (l0.length : Int)) = true := decide_eq_true c32
      clear c32
      obtain ⟨y299, hy299, H⟩ := bindO_ H
      have Ny299 := am hy299
      clear hy299
      by_cases c33 : y296.length + y299.length < 5864062014805
      ·rw [if_pos c33] at H
       have LMc33 := am c33
       clear c33
       obtain ⟨y303, hy303⟩ : ∃ y_ : List (S60), y_ = (y296 ++ y299) := ⟨_, rfl⟩
       replace H : ((some (([] : List (S60)) : List (S60))).bind fun y306 => ((some (l0.drop (x7_1 : Int).toNat : List (S60))).bind fun y309 => (if y306.length + y309.length < 5864062014805 then (some (y303, (y306 ++ y309))) else (none)))) = some (r1, r2) := by (rw [hy303]; with_reducible exact H)
       have Ny303 := am hy303
       clear hy303
       obtain ⟨y306, hy306, H⟩ := bindO_ H
       have Ny306 := am hy306
       clear hy306
       have c34b0 := eq_true (of_decide_eq_true (by (with_reducible assumption)) : 0 ≤ x7_1)
       have c35b0 := eq_true (of_decide_eq_true (by (with_reducible assumption)) : x7_1 ≤ (l0.length : Int))
       obtain ⟨y309, hy309, H⟩ := bindO_ H
       have Ny309 := am hy309
       clear hy309
       by_cases c36 : y306.length + y309.length < 5864062014805
       ·rw [if_pos c36] at H
        have LMc36 := am c36
        clear c36
        obtain ⟨y313, hy313⟩ : ∃ y_ : List (S60), y_ = (y306 ++ y309) := ⟨_, rfl⟩
        replace H : (some (y303, y313)) = some (r1, r2) := by (rw [hy313]; with_reducible exact H)
        have Ny313 := am hy313
        clear hy313
        simp only [Option.some.injEq, Prod.mk.injEq] at H
        obtain ⟨rfl, rfl⟩ := H
        try go_wp2
        replace HB := am (below_drew1 HB.out)
        have q38 : (x7_1 : Int) ≤ ((l0.length : Int) : Int) := of_decide_eq_true (by (with_reducible assumption))
        obtain ⟨i038, hi038, _, hsz38, _⟩ := info_parts info60
        have hroom38 : l0.length ≤ c0 := HC0.out
        have hC38 : Kd.C k60 _ A0 l0.length l0 := HR0.out
        have hcut38 := cut_to (P := Try.prog) 24 60 .i64 Try.underlying24 hi038 A0 l0.length c0 x7_1 (of_decide_eq_true (by (with_reducible assumption))) q38 hroom38
        have hr38 := Kd.C_take (m := (x7_1 : Int).toNat) hC38 (by omega)
        have hy38 : y299.length = (x7_1 : Int).toNat := (by rw [Ny299.out, List.length_take]; omega)
        rw [← Ny299.out] at hr38
        rw [← hy38] at hcut38
        have HR302 := am hr38
        have HC302 := am (show y299.length ≤ c0 from by omega)
        clear hr38 hC38 hroom38 hi038 hsz38
        have KY38 := am hy38
        clear hy38
        replace q38 := eq_true q38
        have q39 : (x7_1 : Int) ≤ ((l0.length : Int) : Int) := of_decide_eq_true (by (with_reducible assumption))
        obtain ⟨i039, hi039, _, hsz39, _⟩ := info_parts info60
        have hroom39 : l0.length ≤ c0 := HC0.out
        have hC39 : Kd.C k60 _ A0 l0.length l0 := HR0.out
        have q039 : (0 : Int) ≤ (x7_1 : Int) := of_decide_eq_true (by (with_reducible assumption))
        have hcut39 := cut_from (P := Try.prog) 24 60 .i64 Try.underlying24 hi039 3 hsz39 A0 l0.length c0 x7_1 q039 q39
        have hr39 := Kd.C_drop (m := (x7_1 : Int).toNat) (c := c0) hC39 (by omega) hroom39
        obtain ⟨A39, hA39⟩ : ∃ A1, A1 = (if c0 = (x7_1 : Int).toNat then A0 else (A0 : Option Addr).map (·.add ((x7_1 : Int).toNat * 3))) := ⟨_, rfl⟩
        obtain ⟨c39, hc39⟩ : ∃ c1, c1 = c0 - (x7_1 : Int).toNat := ⟨_, rfl⟩
        have hy39 : y309.length = l0.length - (x7_1 : Int).toNat := (by rw [Ny309.out, List.length_drop] <;> omega)
        rw [show (l0).drop (x7_1 : Int).toNat = y309 from Ny309.out.symm] at hr39
        replace hr39 : Kd.C k60 _ A39 y309.length y309 := (by rw [hA39]; exact hr39)
        rw [← hy39, ← hA39, ← hc39] at hcut39
        have HR312 := am hr39
        have HC312 := am (show y309.length ≤ c39 from by rw [hy39, hc39]; exact Nat.sub_le_sub_right hroom39 _)
        clear hr39 hC39 hroom39 hi039 hsz39 hc39
        have KY39 := am hy39
        have KA39 := am hA39
        clear hy39 hA39
        replace q39 := eq_true q39
        refine start_ (n := 12) (S := fun w' => True) (ds := []) #[false, false, false, false, false, false, false, false, false, false, false, false] (by kernel_rfl) rfl rfl trivial (fun hHeld => ?_); refine with_tabW spec_NextChunk.tab6 spec_NextChunk.bits6 (fun HT_ HW_ => ?_)
        generalize wr.drew = w37 at HB HR302 HR312 hHeld ⊢
        refine pure_ (i := 1) (N := some 37) (v := ?_) (a' := ?_) #[false, true, false, false, false, false, false, false, false, false, false, false] rfl rfl (any_of HT_.out (by kernel_rfl)) (fun _ _ _ h => h) (Or.inl ⟨rfl, ?_⟩) ?_ ?_
        rotate_left
        ·intro w'
         go_simp
         with_reducible rfl
        rotate_left
        ·simp only [Act.put, s2_, s0_, s1_, i64_w, i32_w]
         rfl
        refine pure_ (i := 2) (N := some 38) (v := ?_) (a' := ?_) #[false, true, true, false, false, false, false, false, false, false, false, false] rfl rfl (any_of HT_.out (by kernel_rfl)) (fun _ _ _ h => h) (Or.inl ⟨rfl, ?_⟩) ?_ ?_
        rotate_left
        ·intro w'
         go_simp
         with_reducible rfl
        rotate_left
        ·simp only [Act.put, s2_, s0_, s1_, i64_w, i32_w]
         rfl
        refine pure_ (i := 3) (N := some 39) (v := ?_) (a' := ?_) #[false, true, true, true, false, false, false, false, false, false, false, false] rfl rfl (any_of HT_.out (by kernel_rfl)) (fun _ _ _ h => h) (Or.inl ⟨rfl, ?_⟩) ?_ ?_
        rotate_left
        ·intro w'
         go_simp
         with_reducible rfl
        rotate_left
        ·simp only [Act.put, s2_, s0_, s1_, i64_w, i32_w]
         rfl
        refine pure_ (i := 6) (N := some 42) (v := ?_) (a' := ?_) #[false, true, true, true, false, false, true, false, false, false, false, false] rfl rfl (any_of HT_.out (by kernel_rfl)) (fun _ _ _ h => h) (Or.inl ⟨rfl, ?_⟩) ?_ ?_
        rotate_left
        ·intro w'
         go_simp
         with_reducible rfl
        rotate_left
        ·simp only [Act.put, s2_, s0_, s1_, i64_w, i32_w]
         rfl
        refine pure_ (i := 7) (N := some 43) (v := ?_) (a' := ?_) #[false, true, true, true, false, false, true, true, false, false, false, false] rfl rfl (any_of HT_.out (by kernel_rfl)) (fun _ _ _ h => h) (Or.inl ⟨rfl, ?_⟩) ?_ ?_
        rotate_left
        ·intro w'
         go_simp
         with_reducible rfl
        rotate_left
        ·simp only [Act.put, s2_, s0_, s1_, i64_w, i32_w]
         rfl
        refine pure_ (i := 8) (N := some 44) (v := ?_) (a' := ?_) #[false, true, true, true, false, false, true, true, true, false, false, false] rfl rfl (any_of HT_.out (by kernel_rfl)) (fun _ _ _ h => h) (Or.inl ⟨rfl, ?_⟩) ?_ ?_
        rotate_left
        ·intro w'
         go_simp
         with_reducible rfl
        rotate_left
        ·simp only [Act.put, s2_, s0_, s1_, i64_w, i32_w]
         rfl
        refine join_ (σ := Value × Value × Value) 3 #[true, true, true, true, true, true, true, true, true, false, false, false] (fun s_ => [(36, s_.1), (40, s_.2.1), (41, s_.2.2)]) (fun s_ w' => (Kd.R k60 60 w' w.heap.size (fun k_ => some k_ ≠ (s_.2.2 : Value).ownBlock) s_.2.1 y303) ∧ (Kd.R k60 60 w' w.heap.size (fun k_ => some k_ ≠ (s_.2.1 : Value).ownBlock) s_.2.2 y306) ∧ (Below w.heap.size w w')) ?_ ?_
        rotate_left
        ·intro hCont
         refine two_ (i := 0) (j := 5) (Ni := some 36) (Nj := some 41) #[true, true, true, true, false, false, true, true, true, false, false, false] #[false, true, true, true, false, true, true, true, true, false, false, false] rfl rfl rfl rfl (two_of HT_.out (by kernel_rfl)) (by decide) (by decide) (fun K hK => ?_) (fun K hK => ?_)
         ·skip
          refine Kd.R_lit_step k60 _ 60 ?hg (N := 36) ?hd (xs := ([] : List (S60))) (inner := []) (ok := fun _ => True) (okp := fun _ => True) ?hr ?hp (fun _ hk => hk) trivial (Below.refl _ _) (Nat.le_refl _) (by simp) ?_; (case hd => rfl); (case hg => rfl); (case hr => (go_simp; done)); (case hp => exact (Reps.none _ _))
          intro v297 w40 ho41 hb hg_ hnew_
          clear hg_ hnew_
          (rw [← Ny296.out] at ho41)
          have HO298 := am (Kd.R_lower ho41 (below_size HB.out))
          replace HB := am (below_step HB.out hb)
          clear hb ho41
          refine hK.out _ _ trivial (fun hHeld => ?_)
          clear hK K
          refine norm_ (a' := ?_) ?_ ?_
          rotate_left
          ·show Act.put _ (some 36) _ = _
           simp only [Act.put, s2_, s0_, s1_, i64_w, i32_w]
           rfl
          refine two_ (i := 4) (j := 5) (Ni := some 40) (Nj := some 41) #[true, true, true, true, true, false, true, true, true, false, false, false] #[true, true, true, true, false, true, true, true, true, false, false, false] rfl rfl rfl rfl (two_of HT_.out (by kernel_rfl)) (by decide) (by decide) (fun K hK => ?_) (fun K hK => ?_)
          ·skip
           refine Kd.R_append_rows_step k60 (w0 := w) w.heap.size rfl (.tmp 36) (.tmp 39) 24 60 (.agg #[(.int .i64 0), (.int .i64 0), (.int .i64 0)]) 24 rfl Try.underlying24 info60 rfl (by decide) (by omega) v297 y296 y299 _ _ _ (fun _ => True) (fun _ => False) rfl rfl ?aO ?aR (fun _ _ h => h) (fun _ h => h.elim) ?aF ?aB ?aS ?aL ?_
           (case aR => repeat (exact (Kd.C_below HR302.out HB.out)))
           (case aB => exact HB.out)
           (case aF => exact (fun _ _ => trivial))
           (case aO => exact HO298.out)
           (case aS => exact (below_size HB.out))
           (case aL => have := LMc33.out; omega)
           intro v304 w42 ho hb hg hat
           rw [← Ny303.out] at ho
           replace HB := am (hb)
           have HO305 := am (ho)
           clear HO298 ho hb hg hat
           refine hK.out _ _ trivial (fun hHeld => ?_)
           clear hK K
           refine norm_ (a' := ?_) ?_ ?_
           rotate_left
           ·show Act.put _ (some 40) _ = _
            simp only [Act.put, s2_, s0_, s1_, i64_w, i32_w]
            rfl
           refine one_ (i := 5) (N := some 41) #[true, true, true, true, true, true, true, true, true, false, false, false] rfl rfl (one_of HT_.out (by kernel_rfl)) (by decide) (fun K hK => ?_)
           refine Kd.R_lit_step k60 _ 60 ?hg (N := 41) ?hd (xs := ([] : List (S60))) (inner := []) (ok := fun _ => True) (okp := fun _ => True) ?hr ?hp (fun _ hk => hk) trivial (Below.refl _ _) (Nat.le_refl _) (by simp) ?_; (case hd => rfl); (case hg => rfl); (case hr => (go_simp; done)); (case hp => exact (Reps.none _ _))
           intro v307 w43 ho44 hb hg_ hnew_
           clear hg_ hnew_
           (rw [← Ny306.out] at ho44)
           have HO308 := am (Kd.R_lower (Kd.R_new' ho44 (Kd.R_lt HO305.out)) (below_size HB.out))
           replace HO305 := am (Kd.R_elder' HO305.out (Kd.R_base ho44) hb)
           replace HB := am (below_step HB.out hb)
           clear hb ho44
           refine hK.out _ _ trivial (fun hHeld => ?_)
           clear hK K
           refine norm_ (a' := ?_) ?_ ?_
           rotate_left
           ·show Act.put _ (some 41) _ = _
            simp only [Act.put, s2_, s0_, s1_, i64_w, i32_w]
            rfl
           exact norm_ (by simp only [putAll, Act.put, s2_, s0_, s1_]) (hCont (v297, v304, v307) _ ⟨(by exact Kd.R_mono HO305.out (fun _ hk => hk.2)), (by exact Kd.R_mono HO308.out (fun _ hk => hk.2)), HB.out⟩)
          ·skip
           refine Kd.R_lit_step k60 _ 60 ?hg (N := 41) ?hd (xs := ([] : List (S60))) (inner := []) (ok := fun _ => True) (okp := fun _ => True) ?hr ?hp (fun _ hk => hk) trivial (Below.refl _ _) (Nat.le_refl _) (by simp) ?_; (case hd => rfl); (case hg => rfl); (case hr => (go_simp; done)); (case hp => exact (Reps.none _ _))
           intro v307 w42 ho43 hb hg_ hnew_
           clear hg_ hnew_
           (rw [← Ny306.out] at ho43)
           have HO308 := am (Kd.R_lower (Kd.R_new' ho43 (Kd.R_lt HO298.out)) (below_size HB.out))
           replace HO298 := am (Kd.R_elder' HO298.out (Kd.R_base ho43) hb)
           replace HB := am (below_step HB.out hb)
           clear hb ho43
           refine hK.out _ _ trivial (fun hHeld => ?_)
           clear hK K
           refine norm_ (a' := ?_) ?_ ?_
           rotate_left
           ·show Act.put _ (some 41) _ = _
            simp only [Act.put, s2_, s0_, s1_, i64_w, i32_w]
            rfl
           refine one_ (i := 4) (N := some 40) #[true, true, true, true, true, true, true, true, true, false, false, false] rfl rfl (one_of HT_.out (by kernel_rfl)) (by decide) (fun K hK => ?_)
           refine Kd.R_append_rows_step k60 (w0 := w) w.heap.size rfl (.tmp 36) (.tmp 39) 24 60 (.agg #[(.int .i64 0), (.int .i64 0), (.int .i64 0)]) 24 rfl Try.underlying24 info60 rfl (by decide) (by omega) v297 y296 y299 _ _ _ (fun k_ => some k_ ≠ (v307 : Value).ownBlock) (fun _ => False) rfl rfl ?aO ?aR (fun _ _ h => h) (fun _ h => h.elim) ?aF ?aB ?aS ?aL ?_
           (case aR => repeat (exact (Kd.C_below HR302.out HB.out)))
           (case aB => exact HB.out)
           (case aF => exact (fun k_ hk => Kd.fresh' (Kd.R_lt HO308.out) k_ hk))
           (case aO => exact (by exact Kd.R_mono HO298.out (fun _ hk => hk.2)))
           (case aS => exact (below_size HB.out))
           (case aL => have := LMc33.out; omega)
           intro v304 w44 ho hb hg hat
           rw [← Ny303.out] at ho
           replace HO308 := am (Kd.R_after (ok := (fun _ => True)) HO308.out hg hat)
           replace HB := am (hb)
           have HO305 := am (ho)
           clear HO298 ho hb hg hat
           refine hK.out _ _ trivial (fun hHeld => ?_)
           clear hK K
           refine norm_ (a' := ?_) ?_ ?_
           rotate_left
           ·show Act.put _ (some 40) _ = _
            simp only [Act.put, s2_, s0_, s1_, i64_w, i32_w]
            rfl
           exact norm_ (by simp only [putAll, Act.put, s2_, s0_, s1_]) (hCont (v297, v304, v307) _ ⟨HO305.out, (by exact Kd.R_mono HO308.out (fun _ hk => hk.2)), HB.out⟩)
         ·skip
          refine Kd.R_lit_step k60 _ 60 ?hg (N := 41) ?hd (xs := ([] : List (S60))) (inner := []) (ok := fun _ => True) (okp := fun _ => True) ?hr ?hp (fun _ hk => hk) trivial (Below.refl _ _) (Nat.le_refl _) (by simp) ?_; (case hd => rfl); (case hg => rfl); (case hr => (go_simp; done)); (case hp => exact (Reps.none _ _))
          intro v307 w40 ho41 hb hg_ hnew_
          clear hg_ hnew_
          (rw [← Ny306.out] at ho41)
          have HO308 := am (Kd.R_lower ho41 (below_size HB.out))
          replace HB := am (below_step HB.out hb)
          clear hb ho41
          refine hK.out _ _ trivial (fun hHeld => ?_)
          clear hK K
          refine norm_ (a' := ?_) ?_ ?_
          rotate_left
          ·show Act.put _ (some 41) _ = _
           simp only [Act.put, s2_, s0_, s1_, i64_w, i32_w]
           rfl
          refine one_ (i := 0) (N := some 36) #[true, true, true, true, false, true, true, true, true, false, false, false] rfl rfl (one_of HT_.out (by kernel_rfl)) (by decide) (fun K hK => ?_)
          refine Kd.R_lit_step k60 _ 60 ?hg (N := 36) ?hd (xs := ([] : List (S60))) (inner := []) (ok := fun _ => True) (okp := fun _ => True) ?hr ?hp (fun _ hk => hk) trivial (Below.refl _ _) (Nat.le_refl _) (by simp) ?_; (case hd => rfl); (case hg => rfl); (case hr => (go_simp; done)); (case hp => exact (Reps.none _ _))
          intro v297 w42 ho43 hb hg_ hnew_
          clear hg_ hnew_
          (rw [← Ny296.out] at ho43)
          have HO298 := am (Kd.R_lower (Kd.R_new' ho43 (Kd.R_lt HO308.out)) (below_size HB.out))
          replace HO308 := am (Kd.R_elder' HO308.out (Kd.R_base ho43) hb)
          replace HB := am (below_step HB.out hb)
          clear hb ho43
          refine hK.out _ _ trivial (fun hHeld => ?_)
          clear hK K
          refine norm_ (a' := ?_) ?_ ?_
          rotate_left
          ·show Act.put _ (some 36) _ = _
           simp only [Act.put, s2_, s0_, s1_, i64_w, i32_w]
           rfl
          refine one_ (i := 4) (N := some 40) #[true, true, true, true, true, true, true, true, true, false, false, false] rfl rfl (one_of HT_.out (by kernel_rfl)) (by decide) (fun K hK => ?_)
          refine Kd.R_append_rows_step k60 (w0 := w) w.heap.size rfl (.tmp 36) (.tmp 39) 24 60 (.agg #[(.int .i64 0), (.int .i64 0), (.int .i64 0)]) 24 rfl Try.underlying24 info60 rfl (by decide) (by omega) v297 y296 y299 _ _ _ (fun k_ => some k_ ≠ (v307 : Value).ownBlock) (fun _ => False) rfl rfl ?aO ?aR (fun _ _ h => h) (fun _ h => h.elim) ?aF ?aB ?aS ?aL ?_
          (case aR => repeat (exact (Kd.C_below HR302.out HB.out)))
          (case aB => exact HB.out)
          (case aF => exact (fun k_ hk => Kd.fresh' (Kd.R_lt HO308.out) k_ hk))
          (case aO => exact (by exact Kd.R_mono HO298.out (fun _ hk => hk.2)))
          (case aS => exact (below_size HB.out))
          (case aL => have := LMc33.out; omega)
          intro v304 w44 ho hb hg hat
          rw [← Ny303.out] at ho
          replace HO308 := am (Kd.R_after (ok := (fun _ => True)) HO308.out hg hat)
          replace HB := am (hb)
          have HO305 := am (ho)
          clear HO298 ho hb hg hat
          refine hK.out _ _ trivial (fun hHeld => ?_)
          clear hK K
          refine norm_ (a' := ?_) ?_ ?_
          rotate_left
          ·show Act.put _ (some 40) _ = _
           simp only [Act.put, s2_, s0_, s1_, i64_w, i32_w]
           rfl
          exact norm_ (by simp only [putAll, Act.put, s2_, s0_, s1_]) (hCont (v297, v304, v307) _ ⟨HO305.out, (by exact Kd.R_mono HO308.out (fun _ hk => hk.2)), HB.out⟩)
        rintro ⟨v297, v304, v307⟩ w45 ⟨h0_, h1_, h2_⟩
        have HO305 : Aside0 (Kd.R k60 60 w45 w.heap.size (fun k_ => some k_ ≠ (v307 : Value).ownBlock) v304 y303) := ⟨h0_⟩
        have HO308 : Aside0 (Kd.R k60 60 w45 w.heap.size (fun k_ => some k_ ≠ (v304 : Value).ownBlock) v307 y306) := ⟨h1_⟩
        replace HB : Aside0 (Below w.heap.size w w45) := ⟨h2_⟩
        clear h0_ h1_ h2_
        have hHeld := trivial
        refine norm_ (a' := ?_) ?_ ?_
        rotate_left
        ·simp only [putAll, Act.put, s2_, s0_, s1_]
         rfl
        refine one_ (i := 9) (N := some 45) #[true, true, true, true, true, true, true, true, true, true, false, false] rfl rfl (one_of HT_.out (by kernel_rfl)) (by decide) (fun K hK => ?_)
        refine Kd.R_append_rows_step k60 (w0 := w) w.heap.size rfl (.tmp 41) (.tmp 44) 24 60 (.agg #[(.int .i64 0), (.int .i64 0), (.int .i64 0)]) 24 rfl Try.underlying24 info60 rfl (by decide) (by omega) v307 y306 y309 _ _ _ (fun k_ => some k_ ≠ (v304 : Value).ownBlock) (fun _ => False) rfl rfl ?aO ?aR (fun _ _ h => h) (fun _ h => h.elim) ?aF ?aB ?aS ?aL ?_
        (case aR => repeat (exact (Kd.C_below HR312.out HB.out)))
        (case aB => exact HB.out)
        (case aF => exact (fun k_ hk => Kd.fresh' (Kd.R_lt HO305.out) k_ hk))
        (case aO => exact HO308.out)
        (case aS => exact (below_size HB.out))
        (case aL => have := LMc36.out; omega)
        intro v314 w46 ho hb hg hat
        rw [← Ny313.out] at ho
        replace HO305 := am (Kd.R_after (ok := (fun _ => True)) (by exact Kd.R_mono HO305.out (fun _ hk => ⟨trivial, hk⟩)) hg hat)
        replace HB := am (hb)
        have HO315 := am (ho)
        clear HO308 ho hb hg hat
        refine hK.out _ _ trivial (fun hHeld => ?_)
        clear hK K
        refine norm_ (a' := ?_) ?_ ?_
        rotate_left
        ·show Act.put _ (some 45) _ = _
         simp only [Act.put, s2_, s0_, s1_, i64_w, i32_w]
         rfl
        refine pure_ (i := 10) (N := some 4) (v := ?_) (a' := ?_) #[true, true, true, true, true, true, true, true, true, true, true, false] rfl rfl (any_of HT_.out (by kernel_rfl)) (fun _ _ _ h => h) (Or.inl ⟨rfl, ?_⟩) ?_ ?_
        rotate_left
        ·intro w'
         go_simp
         with_reducible rfl
        rotate_left
        ·simp only [Act.put, s2_, s0_, s1_, i64_w, i32_w]
         rfl
        refine pure_ (i := 11) (N := some 5) (v := ?_) (a' := ?_) #[true, true, true, true, true, true, true, true, true, true, true, true] rfl rfl (any_of HT_.out (by kernel_rfl)) (fun _ _ _ h => h) (Or.inl ⟨rfl, ?_⟩) ?_ ?_
        rotate_left
        ·intro w'
         go_simp
         with_reducible rfl
        rotate_left
        ·simp only [Act.put, s2_, s0_, s1_, i64_w, i32_w]
         rfl
        refine done_ (done_of HT_.out (by kernel_rfl)) ?_
        try go_wp2
        go_ret2
        exact ⟨_, _, rfl, by exact Kd.R_mono HO305.out (fun _ hk => hk.2), HO315.out, HB.out⟩
       ·rw [if_neg c36] at H
        exact absurd H (by simp)
      ·rw [if_neg c33] at H
       exact absurd H (by simp)
     ·rw [if_neg c32] at H
      exact absurd H (by simp)
    ·rw [if_neg c31] at H
     exact absurd H (by simp)

end Go.Proofs.Ytobndcjmjhehjaa.P
namespace Go.Proofs.Ytobndcjmjhehjaa.P
open Go.RowKit Go.Proofs.YtobndcjmjhehjaaW.PrintWords Go.Proofs.YtobndcjmjhehjaaW.PrintLast Go.Proofs.YtobndcjmjhehjaaW.PrintMore
attribute [local go_sem] max2_int min2_int max_two min_two max_three min_three max_four min_four   -- for this text's walks alone
set_option linter.unusedVariables false
set_option linter.unusedSimpArgs false

attribute [local go_sem high] eqA60
set_option maxHeartbeats 8000000
set_option maxRecDepth 100000
def laws_sameRows.l0 : Nat → List (S60) → List (S60) → Int → Option (Bool)
 | 0, _, _, _ => none
 | k + 1, x0, x1, x5 => if x5 < (x0.length : Int) then (if 0 ≤ x5 then (if x5 < (x1.length : Int) then (if (!(((rd_T60 x0 x5).f0) == ((rd_T60 x1 x5).f0)) || (!(((rd_T60 x0 x5).f1) == ((rd_T60 x1 x5).f1)) || (!(((rd_T60 x0 x5).f2) == ((rd_T60 x1 x5).f2))))) = true then (some false) else (laws_sameRows.l0 k x0 x1 (wrap64 (x5 + 1)))) else (none)) else (none)) else (some true)
def laws_sameRows.f (k : Nat) (l0 : List (S60)) (l1 : List (S60)) : Option (Bool) := if (l0.length : Int) = (l1.length : Int) then (laws_sameRows.l0 k l0 l1 0) else (some false)
theorem laws_sameRows.calls (k : Nat) (A0 : Option Addr) (c0 : Nat) (l0 : List (S60)) (A1 : Option Addr) (c1 : Nat) (l1 : List (S60)) (r : Bool) (w : World) (hr0 : Kd.C k60 w A0 l0.length l0) (hc0 : l0.length ≤ c0) (hr1 : Kd.C k60 w A1 l1.length l1) (hc1 : l1.length ≤ c1) (h : laws_sameRows.f k l0 l1 = some r) :
  Calls Try.prog 20 #[.slice A0 l0.length c0, .slice A1 l1.length c1] w fun e w' => e = .returned (.bool r) ∧ Drawn0 w w' := by
 have hu60 := Try.underlying60
 have HR0 := am hr0
 have HC0 := am hc0
 clear hr0 hc0
 have HR1 := am hr1
 have HC1 := am hc1
 clear hr1 hc1
 have H : (if (l0.length : Int) = (l1.length : Int) then (laws_sameRows.l0 k l0 l1 0) else (some false)) = some r := h
 clear h
 by_cases c3 : (l0.length : Int) = (l1.length : Int)
 ·rw [if_pos c3] at H
  have c3b0 : ((l0.length : Int) == (l1.length : Int)) = true := beq_iff_eq.mpr c3
  have c3b1 : ((l0.length : Int) != (l1.length : Int)) = false := bne_eq_false_iff_eq.mpr c3
  have c3b2 : (l0.length == l1.length) = true := by (simp at c3 ⊢; omega)
  clear c3
  have H' := am H
  clear H
  go_enter Try.func20, Try.ntmps20
  go_wp2
  repeat (go_quiet (fail))
  go_loopg [5] k (fun kq v5 w' => ∃ (x5_1 : Int), v5 = .int .i64 x5_1 ∧ Aside0 (laws_sameRows.l0 kq l0 l1 x5_1 = some r) ∧ Aside0 (kq ≤ k) ∧ Drawn0 w w')
  case atStart => exact ⟨(0), rfl, H', ⟨Nat.le_refl _⟩, by repeat (exact Drawn0.refl _)⟩
  case round =>
   clear H'
   try clear c3b0
   try clear c3b1
   try clear c3b2
   obtain ⟨x5_1, rfl, HA, HK1, ⟨m1, rfl⟩⟩ := hrel
   cases gk with
   | zero => exact absurd HA.out (by simp [laws_sameRows.l0])
   | succ k1 =>
    have H := HA.out
    clear HA
    simp only [laws_sameRows.l0] at H
    by_cases c4 : x5_1 < (l0.length : Int)
    ·rw [if_pos c4] at H
     have c4b0 : decide (x5_1 < (l0.length : Int)) = true := decide_eq_true c4
     clear c4
     by_cases c5 : 0 ≤ x5_1
     ·rw [if_pos c5] at H
      have c5b0 : decide (0 ≤ x5_1) = true := decide_eq_true c5
      clear c5
      by_cases c6 : x5_1 < (l1.length : Int)
      ·rw [if_pos c6] at H
       have c6b0 : decide (x5_1 < (l1.length : Int)) = true := decide_eq_true c6
       clear c6
       by_cases c7 : (!(((rd_T60 l0 x5_1).f0) == ((rd_T60 l1 x5_1).f0)) || (!(((rd_T60 l0 x5_1).f1) == ((rd_T60 l1 x5_1).f1)) || (!(((rd_T60 l0 x5_1).f2) == ((rd_T60 l1 x5_1).f2))))) = true
       ·rw [if_pos c7] at H
        have c7b0 : (!(((rd_T60 l0 x5_1).f0) == ((rd_T60 l1 x5_1).f0)) || (!(((rd_T60 l0 x5_1).f1) == ((rd_T60 l1 x5_1).f1)) || (!(((rd_T60 l0 x5_1).f2) == ((rd_T60 l1 x5_1).f2))))) = true := c7
        clear c7
        obtain rfl := Option.some.inj H
        have p316 : 0 ≤ (x5_1 : Int) := of_decide_eq_true (by (with_reducible assumption))
        have q316 : x5_1 < (l0.length : Int) := of_decide_eq_true (by (with_reducible assumption))
        obtain ⟨ad316, e316, hx316_0, hx316_1, hx316_2⟩ := at_T60 HR0.out x5_1 p316 q316
        cases e316
        replace p316 := eq_true p316
        replace q316 := eq_true q316
        have p317 : 0 ≤ (x5_1 : Int) := of_decide_eq_true (by (with_reducible assumption))
        have q317 : x5_1 < (l1.length : Int) := of_decide_eq_true (by (with_reducible assumption))
        obtain ⟨ad317, e317, hx317_0, hx317_1, hx317_2⟩ := at_T60 HR1.out x5_1 p317 q317
        cases e317
        replace p317 := eq_true p317
        replace q317 := eq_true q317
        go_wp2
        repeat (go_quiet (fail); try go_wp2)
        go_ret
        exact ⟨rfl, by repeat (first | exact Drawn0.refl _ | apply Drawn0.step)⟩
       ·rw [if_neg c7] at H
        have c7b0 : (!(((rd_T60 l0 x5_1).f0) == ((rd_T60 l1 x5_1).f0)) || (!(((rd_T60 l0 x5_1).f1) == ((rd_T60 l1 x5_1).f1)) || (!(((rd_T60 l0 x5_1).f2) == ((rd_T60 l1 x5_1).f2))))) = false := by simpa using c7
        clear c7
        have H' := am H
        clear H
        have p316 : 0 ≤ (x5_1 : Int) := of_decide_eq_true (by (with_reducible assumption))
        have q316 : x5_1 < (l0.length : Int) := of_decide_eq_true (by (with_reducible assumption))
        obtain ⟨ad316, e316, hx316_0, hx316_1, hx316_2⟩ := at_T60 HR0.out x5_1 p316 q316
        cases e316
        replace p316 := eq_true p316
        replace q316 := eq_true q316
        have p317 : 0 ≤ (x5_1 : Int) := of_decide_eq_true (by (with_reducible assumption))
        have q317 : x5_1 < (l1.length : Int) := of_decide_eq_true (by (with_reducible assumption))
        obtain ⟨ad317, e317, hx317_0, hx317_1, hx317_2⟩ := at_T60 HR1.out x5_1 p317 q317
        cases e317
        replace p317 := eq_true p317
        replace q317 := eq_true q317
        go_wp2
        repeat (go_quiet (fail); try go_wp2)
        go_roundg k1
        case measure => have := HK1.out; omega
        case rel => exact ⟨(wrap64 (x5_1 + 1)), rfl, H', ⟨by have := HK1.out; omega⟩, by repeat (first | exact Drawn0.refl _ | apply Drawn0.step)⟩
      ·rw [if_neg c6] at H
       exact absurd H (by simp)
     ·rw [if_neg c5] at H
      exact absurd H (by simp)
    ·rw [if_neg c4] at H
     have c4b0 : decide (x5_1 < (l0.length : Int)) = false := decide_eq_false c4
     clear c4
     obtain rfl := Option.some.inj H
     go_wp2
     repeat (go_quiet (fail))
     go_ret
     exact ⟨rfl, by repeat (first | exact Drawn0.refl _ | apply Drawn0.step)⟩
 ·rw [if_neg c3] at H
  have c3b0 : ((l0.length : Int) == (l1.length : Int)) = false := beq_eq_false_iff_ne.mpr c3
  have c3b1 : ((l0.length : Int) != (l1.length : Int)) = true := bne_iff_ne.mpr c3
  have c3b2 : (l0.length == l1.length) = false := by (simp at c3 ⊢; omega)
  obtain rfl := Option.some.inj H
  go_enter Try.func20, Try.ntmps20
  go_wp2
  repeat (go_quiet (fail))
  go_ret
  exact ⟨rfl, by repeat (exact Drawn0.refl _)⟩

end Go.Proofs.Ytobndcjmjhehjaa.P
namespace Go.Proofs.Ytobndcjmjhehjaa.P
open Go.RowKit Go.Proofs.YtobndcjmjhehjaaW.PrintWords Go.Proofs.YtobndcjmjhehjaaW.PrintLast Go.Proofs.YtobndcjmjhehjaaW.PrintMore
attribute [local go_sem] max2_int min2_int max_two min_two max_three min_three max_four min_four   -- for this text's walks alone
set_option linter.unusedVariables false
set_option linter.unusedSimpArgs false
set_option maxHeartbeats 8000000
set_option maxRecDepth 100000
def spec_TotalCost.l0 : Nat → List (S60) → Int → Int → Option (Int)
 | 0, _, _, _ => none
 | k + 1, x0, x3, x4 => if x4 < (x0.length : Int) then (if 0 ≤ x4 then ((spec_RowCost.f ((rd_T60 x0 x4).f0) ((rd_T60 x0 x4).f1) ((rd_T60 x0 x4).f2)).bind fun t319 => (spec_TotalCost.l0 k x0 (wrap64 (x3 + t319)) (wrap64 (x4 + 1)))) else (none)) else (some x3)
def spec_TotalCost.f (k : Nat) (l0 : List (S60)) : Option (Int) := spec_TotalCost.l0 k l0 0 0
theorem spec_TotalCost.calls (k : Nat) (A0 : Option Addr) (c0 : Nat) (l0 : List (S60)) (r : Int) (w : World) (hr0 : Kd.C k60 w A0 l0.length l0) (hc0 : l0.length ≤ c0) (h : spec_TotalCost.f k l0 = some r) :
  Calls Try.prog 21 #[.slice A0 l0.length c0] w fun e w' => e = .returned (.int .i64 r) ∧ Below w.heap.size w w' := by
 have hu60 := Try.underlying60
 have HR0 := am hr0
 have HC0 := am hc0
 clear hr0 hc0
 have HB := am (Below.refl w.heap.size w)
 have H : (spec_TotalCost.l0 k l0 0 0) = some r := h
 clear h
 have H' := am H
 clear H
 go_enter Try.func21, Try.ntmps21
 go_wp2
 go_loopg [3, 4] k (fun kq v3 v4 w' => ∃ (x3_1 : Int) (x4_1 : Int), v3 = .int .i64 x3_1 ∧ v4 = .int .i64 x4_1 ∧ Aside0 (spec_TotalCost.l0 kq l0 x3_1 x4_1 = some r) ∧ Aside0 (kq ≤ k) ∧ Aside0 (Below w.heap.size w w'))
 case atStart => exact ⟨(0), (0), rfl, rfl, H', ⟨Nat.le_refl _⟩, ⟨HB.out⟩⟩
 case round =>
  clear H'
  obtain ⟨x3_1, x4_1, rfl, rfl, HA, HK1, HB⟩ := hrel
  cases gk with
  | zero => exact absurd HA.out (by simp [spec_TotalCost.l0])
  | succ k1 =>
   have H := HA.out
   clear HA
   simp only [spec_TotalCost.l0] at H
   by_cases c2 : x4_1 < (l0.length : Int)
   ·rw [if_pos c2] at H
    have c2b0 : decide (x4_1 < (l0.length : Int)) = true := decide_eq_true c2
    clear c2
    by_cases c3 : 0 ≤ x4_1
    ·rw [if_pos c3] at H
     have c3b0 : decide (0 ≤ x4_1) = true := decide_eq_true c3
     clear c3
     replace H := Option.bind_eq_some_iff.mp H
     obtain ⟨t319, A40, H⟩ := H
     have A4 := am A40
     clear A40
     have H' := am H
     clear H
     have p318 : 0 ≤ (x4_1 : Int) := of_decide_eq_true (by (with_reducible assumption))
     have q318 : x4_1 < (l0.length : Int) := of_decide_eq_true (by (with_reducible assumption))
     obtain ⟨ad318, e318, hx318_0, hx318_1, hx318_2⟩ := at_T60 HR0.out x4_1 p318 q318
     cases e318
     replace hx318_0 := bc_ HB.out hx318_0
     replace hx318_1 := bc_ HB.out hx318_1
     replace hx318_2 := bc_ HB.out hx318_2
     replace p318 := eq_true p318
     replace q318 := eq_true q318
     go_wp2_with (((with_reducible refine gate_callee (f := 113) rfl ?_); refine goesL_ (some 16) rfl rfl Try.func113 (by kernel_rfl) rfl #[.agg #[.int .i64 ((rd_T60 l0 x4_1).f0), .int .i64 ((rd_T60 l0 x4_1).f1), .int .i64 ((rd_T60 l0 x4_1).f2)]] rfl (by (try simp only [List.map_toArray, List.map_cons, List.map_nil]); rfl) ?_; (with_reducible refine (spec_RowCost.calls ((rd_T60 l0 x4_1).f0) ((rd_T60 l0 x4_1).f1) ((rd_T60 l0 x4_1).f2) t319 _ A4.out).mono ?_); rintro e w5 ⟨rfl, hb⟩; refine ⟨_, rfl, ?_⟩; replace HB := am (below_step HB.out hb); (try clear hb)))
     go_roundg k1
     case measure => have := HK1.out; omega
     case rel => exact ⟨(wrap64 (x3_1 + t319)), (wrap64 (x4_1 + 1)), rfl, rfl, H', ⟨by have := HK1.out; omega⟩, ⟨HB.out⟩⟩
    ·rw [if_neg c3] at H
     exact absurd H (by simp)
   ·rw [if_neg c2] at H
    have c2b0 : decide (x4_1 < (l0.length : Int)) = false := decide_eq_false c2
    clear c2
    obtain rfl := Option.some.inj H
    go_wp2
    go_ret
    exact ⟨rfl, HB.out⟩

def spec_l7Kind.f (s0_0 : List Int) (s0_1 : Int) (s0_2 : Int) : Option (Int × Int × Int) := (spec_l1Once.f s0_0 s0_1 s0_2 14).bind fun bt320 => (if bt320.1 = true then ((spec_l1PickInt.f s0_0 bt320.2.1 bt320.2.2 ([0, 5] : List Int)).bind fun bt326 => (some (bt326.1, bt326.2.1, bt326.2.2))) else ((spec_l1Below.f s0_0 bt320.2.1 bt320.2.2 4).bind fun bt329 => (some (wrap64 (1 + bt329.1), bt329.2.1, bt329.2.2))))
theorem spec_l7Kind.calls (g : Nat) (s0_0 : List Int) (s0_1 : Int) (s0_2 : Int) (r1 : Int) (r2 : Int) (r3 : Int) (w0 w : World) (hI : IsS163 w0 w g s0_0 s0_1 s0_2) (hB : Below w0.heap.size w0 w) (h : spec_l7Kind.f s0_0 s0_1 s0_2 = some (r1, r2, r3)) :
  Calls Try.prog 114 #[.pointer (some ⟨g, 0, none⟩)] w fun e w' => e = .returned (.int .i64 r1) ∧ IsS163 w0 w' g s0_0 r2 r3 ∧ Below w0.heap.size w0 w' ∧ KeepBut w w' g none := by
 have HI0 := am hI
 have HK := am (KeepBut.refl w g none)
 have HL := am hB.size
 clear hI
 have HW0 := am hB.size
 have HB := am hB
 clear hB
 have H : ((spec_l1Once.f s0_0 s0_1 s0_2 14).bind fun bt320 => (if bt320.1 = true then ((spec_l1PickInt.f s0_0 bt320.2.1 bt320.2.2 ([0, 5] : List Int)).bind fun bt326 => (some (bt326.1, bt326.2.1, bt326.2.2))) else ((spec_l1Below.f s0_0 bt320.2.1 bt320.2.2 4).bind fun bt329 => (some (wrap64 (1 + bt329.1), bt329.2.1, bt329.2.2))))) = some (r1, r2, r3) := h
 clear h
 replace H := Option.bind_eq_some_iff.mp H
 obtain ⟨⟨t320, t321, t322⟩, A20, H⟩ := H
 have A2 := am A20
 clear A20
 by_cases c3 : t320 = true
 ·subst c3
  rw [if_pos rfl] at H
  obtain ⟨y323, hy323⟩ : ∃ y_ : List Int, y_ = ([0, 5] : List Int) := ⟨_, rfl⟩
  replace H : ((spec_l1PickInt.f s0_0 t321 t322 y323).bind fun bt326 => (some (bt326.1, bt326.2.1, bt326.2.2))) = some (r1, r2, r3) := by (rw [hy323]; with_reducible exact H)
  have Ny323 := am hy323
  clear hy323
  replace H := Option.bind_eq_some_iff.mp H
  obtain ⟨⟨t326, t327, t328⟩, A40, H⟩ := H
  have A4 := am A40
  clear A40
  simp only [Option.some.injEq, Prod.mk.injEq] at H
  obtain ⟨rfl, rfl, rfl⟩ := H
  go_enter Try.func114, Try.ntmps114
  go_wp2_with (first | ((with_reducible refine gate_callee (f := 158) rfl ?_); refine goesL_ (some 4) rfl rfl Try.func158 (by kernel_rfl) rfl #[.pointer (some ⟨g, 0, none⟩), .int .i64 14] rfl (by (try simp only [List.map_toArray, List.map_cons, List.map_nil]); rfl) ?_; (with_reducible refine (spec_l1Once.calls g s0_0 s0_1 s0_2 14 true t321 t322 w0 _ ?side1 ?side2 A2.out).mono ?_); (case side1 => repeat (with_reducible exact HI0.out)); (case side2 => repeat (with_reducible exact HB.out)); rintro e w5 ⟨rfl, hi, hb, hk⟩; refine ⟨_, rfl, ?_⟩; replace HK := am (KeepBut.trans HK.out hk (.inl rfl)); replace HB := am (hb); replace HI0 := am (hi); (try clear hb); (try clear hk); (try clear hi)) | ((with_reducible refine gate_dst (N := 6) rfl ?_); refine Kd.R_lit (Kd.int .i64) _ 3 ?hg (N := 6) ?hd (xs := ([0, 5] : List Int)) (inner := [.int .i64 0, .int .i64 5]) (ok := fun _ => True) (okp := fun _ => True) ?hr ?hp (fun _ hk => hk) trivial (Below.refl _ _) (Nat.le_refl _) (by simp) ?_; (case hd => rfl); (case hg => rfl); (case hr => (go_simp; done)); (case hp => exact (Reps.one (show Kd.M (Kd.int .i64) _ _ _ 0 [.int .i64 0] from rfl) (Reps.one (show Kd.M (Kd.int .i64) _ _ _ 5 [.int .i64 5] from rfl) (Reps.none _ _)))); intro v324 w6 ho7 hb hg_ hnew_; clear hg_ hnew_; (rw [← Ny323.out] at ho7); have HO325 := am (Kd.R_lower ho7 (keep_size (w := w) (g := g) (row := none) HK.out)); replace HI0 := am (IsS163.below HI0.out hb); replace HK := am (KeepBut.trans HK.out (KeepBut.of_below hb g none) (.inl rfl)); replace HB := am (below_step HB.out hb); clear hb ho7; obtain ⟨Ao8, co8, eo8⟩ := Kd.R_slice HO325.out; subst eo8) | ((with_reducible refine gate_callee (f := 110) rfl ?_); refine goesL_ (some 7) rfl rfl Try.func110 (by kernel_rfl) rfl #[.pointer (some ⟨g, 0, none⟩), .slice Ao8 y323.length co8] rfl (by (try simp only [List.map_toArray, List.map_cons, List.map_nil]); rfl) ?_; (with_reducible refine (spec_l1PickInt.calls g s0_0 t321 t322 _ _ y323 t326 t327 t328 w0 _ ?side1 ?side2 ?side3 ?side4 ?side5 A4.out).mono ?_); (case side1 => repeat (with_reducible exact HI0.out)); (case side2 => repeat (with_reducible exact HB.out)); (case side3 => repeat (exact (Kd.R_reads' HO325.out).2.2)); (case side4 => exact (Kd.R_reads' HO325.out).2.1); (case side5 => exact far_slice (IsS163.own_ne HI0.out HO325.out (by decide))); rintro e w9 ⟨rfl, hi, hb, hk⟩; refine ⟨_, rfl, ?_⟩; replace HO325 := am (Kd.R_mono (Kd.R_keep (IsS163.apart (show IsS163 w0 _ g s0_0 t321 t322 from by exact HI0.out) HO325.out (by decide)) hk (fun _ h => h.2)) (fun _ h => h.1)); replace HK := am (KeepBut.trans HK.out hk (.inl rfl)); replace HB := am (hb); replace HI0 := am (hi); (try clear hb); (try clear hk); (try clear hi)))
  go_ret
  exact ⟨rfl, HI0.out, HB.out, HK.out⟩
 ·replace c3 := Bool.eq_false_iff.mpr c3
  subst c3
  rw [if_neg (show ¬ (false = true) by decide)] at H
  replace H := Option.bind_eq_some_iff.mp H
  obtain ⟨⟨t329, t330, t331⟩, A100, H⟩ := H
  have A10 := am A100
  clear A100
  simp only [Option.some.injEq, Prod.mk.injEq] at H
  obtain ⟨rfl, rfl, rfl⟩ := H
  go_enter Try.func114, Try.ntmps114
  go_wp2_with (first | ((with_reducible refine gate_callee (f := 158) rfl ?_); refine goesL_ (some 4) rfl rfl Try.func158 (by kernel_rfl) rfl #[.pointer (some ⟨g, 0, none⟩), .int .i64 14] rfl (by (try simp only [List.map_toArray, List.map_cons, List.map_nil]); rfl) ?_; (with_reducible refine (spec_l1Once.calls g s0_0 s0_1 s0_2 14 false t321 t322 w0 _ ?side1 ?side2 A2.out).mono ?_); (case side1 => repeat (with_reducible exact HI0.out)); (case side2 => repeat (with_reducible exact HB.out)); rintro e w11 ⟨rfl, hi, hb, hk⟩; refine ⟨_, rfl, ?_⟩; replace HK := am (KeepBut.trans HK.out hk (.inl rfl)); replace HB := am (hb); replace HI0 := am (hi); (try clear hb); (try clear hk); (try clear hi)) | ((with_reducible refine gate_callee (f := 177) rfl ?_); refine goesL_ (some 9) rfl rfl Try.func177 (by kernel_rfl) rfl #[.pointer (some ⟨g, 0, none⟩), .int .i64 4] rfl (by (try simp only [List.map_toArray, List.map_cons, List.map_nil]); rfl) ?_; (with_reducible refine (spec_l1Below.calls g s0_0 t321 t322 4 t329 t330 t331 w0 _ ?side1 ?side2 A10.out).mono ?_); (case side1 => repeat (with_reducible exact HI0.out)); (case side2 => repeat (with_reducible exact HB.out)); rintro e w12 ⟨rfl, hi, hb, hk⟩; refine ⟨_, rfl, ?_⟩; replace HK := am (KeepBut.trans HK.out hk (.inl rfl)); replace HB := am (hb); replace HI0 := am (hi); (try clear hb); (try clear hk); (try clear hi)))
  go_ret
  exact ⟨rfl, HI0.out, HB.out, HK.out⟩

def spec_l11Grant.f (s0_0 : List Int) (s0_1 : Int) (s0_2 : Int) : Option (Int × Int × Int) := (spec_l1Once.f s0_0 s0_1 s0_2 14).bind fun bt332 => (if bt332.1 = true then ((spec_l1PickInt.f s0_0 bt332.2.1 bt332.2.2 ([7, 61] : List Int)).bind fun bt338 => (some (bt338.1, bt338.2.1, bt338.2.2))) else ((spec_l1PickInt.f s0_0 bt332.2.1 bt332.2.2 ([8, 8, 9, 12, 20, 60] : List Int)).bind fun bt344 => (some (bt344.1, bt344.2.1, bt344.2.2))))
theorem spec_l11Grant.calls (g : Nat) (s0_0 : List Int) (s0_1 : Int) (s0_2 : Int) (r1 : Int) (r2 : Int) (r3 : Int) (w0 w : World) (hI : IsS163 w0 w g s0_0 s0_1 s0_2) (hB : Below w0.heap.size w0 w) (h : spec_l11Grant.f s0_0 s0_1 s0_2 = some (r1, r2, r3)) :
  Calls Try.prog 115 #[.pointer (some ⟨g, 0, none⟩)] w fun e w' => e = .returned (.int .i64 r1) ∧ IsS163 w0 w' g s0_0 r2 r3 ∧ Below w0.heap.size w0 w' ∧ KeepBut w w' g none := by
 have HI0 := am hI
 have HK := am (KeepBut.refl w g none)
 have HL := am hB.size
 clear hI
 have HW0 := am hB.size
 have HB := am hB
 clear hB
 have H : ((spec_l1Once.f s0_0 s0_1 s0_2 14).bind fun bt332 => (if bt332.1 = true then ((spec_l1PickInt.f s0_0 bt332.2.1 bt332.2.2 ([7, 61] : List Int)).bind fun bt338 => (some (bt338.1, bt338.2.1, bt338.2.2))) else ((spec_l1PickInt.f s0_0 bt332.2.1 bt332.2.2 ([8, 8, 9, 12, 20, 60] : List Int)).bind fun bt344 => (some (bt344.1, bt344.2.1, bt344.2.2))))) = some (r1, r2, r3) := h
 clear h
 replace H := Option.bind_eq_some_iff.mp H
 obtain ⟨⟨t332, t333, t334⟩, A20, H⟩ := H
 have A2 := am A20
 clear A20
 by_cases c3 : t332 = true
 ·subst c3
  rw [if_pos rfl] at H
  obtain ⟨y335, hy335⟩ : ∃ y_ : List Int, y_ = ([7, 61] : List Int) := ⟨_, rfl⟩
  replace H : ((spec_l1PickInt.f s0_0 t333 t334 y335).bind fun bt338 => (some (bt338.1, bt338.2.1, bt338.2.2))) = some (r1, r2, r3) := by (rw [hy335]; with_reducible exact H)
  have Ny335 := am hy335
  clear hy335
  replace H := Option.bind_eq_some_iff.mp H
  obtain ⟨⟨t338, t339, t340⟩, A40, H⟩ := H
  have A4 := am A40
  clear A40
  simp only [Option.some.injEq, Prod.mk.injEq] at H
  obtain ⟨rfl, rfl, rfl⟩ := H
  go_enter Try.func115, Try.ntmps115
  go_wp2_with (first | ((with_reducible refine gate_callee (f := 158) rfl ?_); refine goesL_ (some 4) rfl rfl Try.func158 (by kernel_rfl) rfl #[.pointer (some ⟨g, 0, none⟩), .int .i64 14] rfl (by (try simp only [List.map_toArray, List.map_cons, List.map_nil]); rfl) ?_; (with_reducible refine (spec_l1Once.calls g s0_0 s0_1 s0_2 14 true t333 t334 w0 _ ?side1 ?side2 A2.out).mono ?_); (case side1 => repeat (with_reducible exact HI0.out)); (case side2 => repeat (with_reducible exact HB.out)); rintro e w5 ⟨rfl, hi, hb, hk⟩; refine ⟨_, rfl, ?_⟩; replace HK := am (KeepBut.trans HK.out hk (.inl rfl)); replace HB := am (hb); replace HI0 := am (hi); (try clear hb); (try clear hk); (try clear hi)) | ((with_reducible refine gate_dst (N := 6) rfl ?_); refine Kd.R_lit (Kd.int .i64) _ 3 ?hg (N := 6) ?hd (xs := ([7, 61] : List Int)) (inner := [.int .i64 7, .int .i64 61]) (ok := fun _ => True) (okp := fun _ => True) ?hr ?hp (fun _ hk => hk) trivial (Below.refl _ _) (Nat.le_refl _) (by simp) ?_; (case hd => rfl); (case hg => rfl); (case hr => (go_simp; done)); (case hp => exact (Reps.one (show Kd.M (Kd.int .i64) _ _ _ 7 [.int .i64 7] from rfl) (Reps.one (show Kd.M (Kd.int .i64) _ _ _ 61 [.int .i64 61] from rfl) (Reps.none _ _)))); intro v336 w6 ho7 hb hg_ hnew_; clear hg_ hnew_; (rw [← Ny335.out] at ho7); have HO337 := am (Kd.R_lower ho7 (keep_size (w := w) (g := g) (row := none) HK.out)); replace HI0 := am (IsS163.below HI0.out hb); replace HK := am (KeepBut.trans HK.out (KeepBut.of_below hb g none) (.inl rfl)); replace HB := am (below_step HB.out hb); clear hb ho7; obtain ⟨Ao8, co8, eo8⟩ := Kd.R_slice HO337.out; subst eo8) | ((with_reducible refine gate_callee (f := 110) rfl ?_); refine goesL_ (some 7) rfl rfl Try.func110 (by kernel_rfl) rfl #[.pointer (some ⟨g, 0, none⟩), .slice Ao8 y335.length co8] rfl (by (try simp only [List.map_toArray, List.map_cons, List.map_nil]); rfl) ?_; (with_reducible refine (spec_l1PickInt.calls g s0_0 t333 t334 _ _ y335 t338 t339 t340 w0 _ ?side1 ?side2 ?side3 ?side4 ?side5 A4.out).mono ?_); (case side1 => repeat (with_reducible exact HI0.out)); (case side2 => repeat (with_reducible exact HB.out)); (case side3 => repeat (exact (Kd.R_reads' HO337.out).2.2)); (case side4 => exact (Kd.R_reads' HO337.out).2.1); (case side5 => exact far_slice (IsS163.own_ne HI0.out HO337.out (by decide))); rintro e w9 ⟨rfl, hi, hb, hk⟩; refine ⟨_, rfl, ?_⟩; replace HO337 := am (Kd.R_mono (Kd.R_keep (IsS163.apart (show IsS163 w0 _ g s0_0 t333 t334 from by exact HI0.out) HO337.out (by decide)) hk (fun _ h => h.2)) (fun _ h => h.1)); replace HK := am (KeepBut.trans HK.out hk (.inl rfl)); replace HB := am (hb); replace HI0 := am (hi); (try clear hb); (try clear hk); (try clear hi)))
  go_ret
  exact ⟨rfl, HI0.out, HB.out, HK.out⟩
 ·replace c3 := Bool.eq_false_iff.mpr c3
  subst c3
  rw [if_neg (show ¬ (false = true) by decide)] at H
  obtain ⟨y341, hy341⟩ : ∃ y_ : List Int, y_ = ([8, 8, 9, 12, 20, 60] : List Int) := ⟨_, rfl⟩
  replace H : ((spec_l1PickInt.f s0_0 t333 t334 y341).bind fun bt344 => (some (bt344.1, bt344.2.1, bt344.2.2))) = some (r1, r2, r3) := by (rw [hy341]; with_reducible exact H)
  have Ny341 := am hy341
  clear hy341
  replace H := Option.bind_eq_some_iff.mp H
  obtain ⟨⟨t344, t345, t346⟩, A100, H⟩ := H
  have A10 := am A100
  clear A100
  simp only [Option.some.injEq, Prod.mk.injEq] at H
  obtain ⟨rfl, rfl, rfl⟩ := H
  go_enter Try.func115, Try.ntmps115
  go_wp2_with (first | ((with_reducible refine gate_callee (f := 158) rfl ?_); refine goesL_ (some 4) rfl rfl Try.func158 (by kernel_rfl) rfl #[.pointer (some ⟨g, 0, none⟩), .int .i64 14] rfl (by (try simp only [List.map_toArray, List.map_cons, List.map_nil]); rfl) ?_; (with_reducible refine (spec_l1Once.calls g s0_0 s0_1 s0_2 14 false t333 t334 w0 _ ?side1 ?side2 A2.out).mono ?_); (case side1 => repeat (with_reducible exact HI0.out)); (case side2 => repeat (with_reducible exact HB.out)); rintro e w11 ⟨rfl, hi, hb, hk⟩; refine ⟨_, rfl, ?_⟩; replace HK := am (KeepBut.trans HK.out hk (.inl rfl)); replace HB := am (hb); replace HI0 := am (hi); (try clear hb); (try clear hk); (try clear hi)) | ((with_reducible refine gate_dst (N := 9) rfl ?_); refine Kd.R_lit (Kd.int .i64) _ 3 ?hg (N := 9) ?hd (xs := ([8, 8, 9, 12, 20, 60] : List Int)) (inner := [.int .i64 8, .int .i64 8, .int .i64 9, .int .i64 12, .int .i64 20, .int .i64 60]) (ok := fun _ => True) (okp := fun _ => True) ?hr ?hp (fun _ hk => hk) trivial (Below.refl _ _) (Nat.le_refl _) (by simp) ?_; (case hd => rfl); (case hg => rfl); (case hr => (go_simp; done)); (case hp => exact (Reps.one (show Kd.M (Kd.int .i64) _ _ _ 8 [.int .i64 8] from rfl) (Reps.one (show Kd.M (Kd.int .i64) _ _ _ 8 [.int .i64 8] from rfl) (Reps.one (show Kd.M (Kd.int .i64) _ _ _ 9 [.int .i64 9] from rfl) (Reps.one (show Kd.M (Kd.int .i64) _ _ _ 12 [.int .i64 12] from rfl) (Reps.one (show Kd.M (Kd.int .i64) _ _ _ 20 [.int .i64 20] from rfl) (Reps.one (show Kd.M (Kd.int .i64) _ _ _ 60 [.int .i64 60] from rfl) (Reps.none _ _)))))))); intro v342 w12 ho13 hb hg_ hnew_; clear hg_ hnew_; (rw [← Ny341.out] at ho13); have HO343 := am (Kd.R_lower ho13 (keep_size (w := w) (g := g) (row := none) HK.out)); replace HI0 := am (IsS163.below HI0.out hb); replace HK := am (KeepBut.trans HK.out (KeepBut.of_below hb g none) (.inl rfl)); replace HB := am (below_step HB.out hb); clear hb ho13; obtain ⟨Ao14, co14, eo14⟩ := Kd.R_slice HO343.out; subst eo14) | ((with_reducible refine gate_callee (f := 110) rfl ?_); refine goesL_ (some 10) rfl rfl Try.func110 (by kernel_rfl) rfl #[.pointer (some ⟨g, 0, none⟩), .slice Ao14 y341.length co14] rfl (by (try simp only [List.map_toArray, List.map_cons, List.map_nil]); rfl) ?_; (with_reducible refine (spec_l1PickInt.calls g s0_0 t333 t334 _ _ y341 t344 t345 t346 w0 _ ?side1 ?side2 ?side3 ?side4 ?side5 A10.out).mono ?_); (case side1 => repeat (with_reducible exact HI0.out)); (case side2 => repeat (with_reducible exact HB.out)); (case side3 => repeat (exact (Kd.R_reads' HO343.out).2.2)); (case side4 => exact (Kd.R_reads' HO343.out).2.1); (case side5 => exact far_slice (IsS163.own_ne HI0.out HO343.out (by decide))); rintro e w15 ⟨rfl, hi, hb, hk⟩; refine ⟨_, rfl, ?_⟩; replace HO343 := am (Kd.R_mono (Kd.R_keep (IsS163.apart (show IsS163 w0 _ g s0_0 t333 t334 from by exact HI0.out) HO343.out (by decide)) hk (fun _ h => h.2)) (fun _ h => h.1)); replace HK := am (KeepBut.trans HK.out hk (.inl rfl)); replace HB := am (hb); replace HI0 := am (hi); (try clear hb); (try clear hk); (try clear hi)))
  go_ret
  exact ⟨rfl, HI0.out, HB.out, HK.out⟩

def spec_DrawBlockNestedLoopJoin.f (k : Nat) (l0 : List Int) : Option (Int × (List (S60)) × (List (S60)) × Int) := (spec_l1New.f k l0).bind fun bt347 => ((spec_l7Kind.f bt347.1 bt347.2.1 bt347.2.2).bind fun bt351 => ((spec_l2Bent.f k bt347.1 bt351.2.1 bt351.2.2 7).bind fun bt354 => ((spec_l2Bent.f k bt347.1 bt354.2.1 bt354.2.2 9).bind fun bt359 => ((spec_l11Grant.f bt347.1 bt359.2.1 bt359.2.2).bind fun bt364 => (some (bt351.1, bt354.1, bt359.1, bt364.1))))))
theorem spec_DrawBlockNestedLoopJoin.calls (k : Nat) (A0 : Option Addr) (c0 : Nat) (l0 : List Int) (r1 : Int) (r2 : List (S60)) (r3 : List (S60)) (r4 : Int) (w : World) (hr0 : Kd.C (Kd.int .u8) w A0 l0.length l0) (hc0 : l0.length ≤ c0) (h : spec_DrawBlockNestedLoopJoin.f k l0 = some (r1, r2, r3, r4)) :
  Calls Try.prog 22 #[.slice A0 l0.length c0] w fun e w' => ∃ v1_ v2_ : Value, e = .returned (.tuple #[.int .i64 r1, v1_, v2_, .int .i64 r4]) ∧ Kd.R k60 60 w' w.heap.size (fun k_ => some k_ ≠ (v2_ : Value).ownBlock) v1_ r2 ∧ Kd.R k60 60 w' w.heap.size (fun k_ => some k_ ≠ (v1_ : Value).ownBlock) v2_ r3 ∧ Below w.heap.size w w' := by
 have HR0 := am hr0
 have HC0 := am hc0
 clear hr0 hc0
 have HB := am (Below.refl w.heap.size w)
 have H : ((spec_l1New.f k l0).bind fun bt347 => ((spec_l7Kind.f bt347.1 bt347.2.1 bt347.2.2).bind fun bt351 => ((spec_l2Bent.f k bt347.1 bt351.2.1 bt351.2.2 7).bind fun bt354 => ((spec_l2Bent.f k bt347.1 bt354.2.1 bt354.2.2 9).bind fun bt359 => ((spec_l11Grant.f bt347.1 bt359.2.1 bt359.2.2).bind fun bt364 => (some (bt351.1, bt354.1, bt359.1, bt364.1))))))) = some (r1, r2, r3, r4) := h
 clear h
 replace H := Option.bind_eq_some_iff.mp H
 obtain ⟨⟨t347, t348, t349⟩, A20, H⟩ := H
 have A2 := am A20
 clear A20
 replace H := Option.bind_eq_some_iff.mp H
 obtain ⟨⟨t351, t352, t353⟩, A30, H⟩ := H
 have A3 := am A30
 clear A30
 replace H := Option.bind_eq_some_iff.mp H
 obtain ⟨⟨t354, t357, t358⟩, A40, H⟩ := H
 have A4 := am A40
 clear A40
 replace H := Option.bind_eq_some_iff.mp H
 obtain ⟨⟨t359, t362, t363⟩, A50, H⟩ := H
 have A5 := am A50
 clear A50
 replace H := Option.bind_eq_some_iff.mp H
 obtain ⟨⟨t364, t365, t366⟩, A60, H⟩ := H
 have A6 := am A60
 clear A60
 simp only [Option.some.injEq, Prod.mk.injEq] at H
 obtain ⟨rfl, rfl, rfl, rfl⟩ := H
 go_enter Try.func22, Try.ntmps22
 go_wp2_with (first | ((with_reducible refine gate_callee (f := 108) rfl ?_); refine goesL_ (some 11) rfl rfl Try.func108 (by kernel_rfl) rfl #[.slice A0 l0.length c0] rfl (by (try simp only [List.map_toArray, List.map_cons, List.map_nil]); rfl) ?_; (with_reducible refine (spec_l1New.calls k _ _ l0 t347 t348 t349 w _ ?side1 ?side2 ?side3 A2.out).mono ?_); (case side1 => repeat (with_reducible exact HB.out)); (case side2 => exact HR0.out); (case side3 => exact HC0.out); rintro e w7 ⟨g350, rfl, hi, hb, hb2⟩; refine ⟨_, rfl, ?_⟩; replace HB := am (hb); have HI350 := am (hi); (try clear hb); (try clear hb2); (try clear hk); (try clear hi)) | ((with_reducible refine gate_callee (f := 114) rfl ?_); refine goesL_ (some 13) rfl rfl Try.func114 (by kernel_rfl) rfl #[.pointer (some ⟨g350, 0, none⟩)] rfl (by (try simp only [List.map_toArray, List.map_cons, List.map_nil]); rfl) ?_; (with_reducible refine (spec_l7Kind.calls g350 t347 t348 t349 t351 t352 t353 w _ ?side1 ?side2 A3.out).mono ?_); (case side1 => repeat (with_reducible exact HI350.out)); (case side2 => repeat (with_reducible exact HB.out)); rintro e w8 ⟨rfl, hi, hb, hk⟩; refine ⟨_, rfl, ?_⟩; replace HB := am (hb); replace HI350 := am (hi); (try clear hb); (try clear hb2); (try clear hk); (try clear hi)) | ((with_reducible refine gate_callee (f := 109) rfl ?_); refine goesL_ (some 15) rfl rfl Try.func109 (by kernel_rfl) rfl #[.pointer (some ⟨g350, 0, none⟩), .int .i64 7] rfl (by (try simp only [List.map_toArray, List.map_cons, List.map_nil]); rfl) ?_; (with_reducible refine (spec_l2Bent.calls k g350 t347 t352 t353 7 t354 t357 t358 w _ ?side1 ?side2 A4.out).mono ?_); (case side1 => repeat (with_reducible exact HI350.out)); (case side2 => repeat (with_reducible exact HB.out)); rintro e w9 ⟨v355, rfl, ho0, hi, hb, hk⟩; refine ⟨_, rfl, ?_⟩; have HO356 := am (Kd.R_lower ho0 (below_size HB.out)); replace HB := am (hb); replace HI350 := am (hi); (try clear hb); (try clear hb2); (try clear hk); (try clear hi); (try clear ho0)) | ((with_reducible refine gate_callee (f := 109) rfl ?_); refine goesL_ (some 17) rfl rfl Try.func109 (by kernel_rfl) rfl #[.pointer (some ⟨g350, 0, none⟩), .int .i64 9] rfl (by (try simp only [List.map_toArray, List.map_cons, List.map_nil]); rfl) ?_; (with_reducible refine (spec_l2Bent.calls k g350 t347 t357 t358 9 t359 t362 t363 w _ ?side1 ?side2 A5.out).mono ?_); (case side1 => repeat (with_reducible exact HI350.out)); (case side2 => repeat (with_reducible exact HB.out)); rintro e w10 ⟨v360, rfl, ho0, hi, hb, hk⟩; refine ⟨_, rfl, ?_⟩; have HO361 := am (Kd.R_lower (Kd.R_new' ho0 (Kd.R_lt HO356.out)) (below_size HB.out)); replace HO356 := am (Kd.R_mono (Kd.R_told (Kd.R_oldK (IsS163.apart (show IsS163 w _ g350 t347 t357 t358 from by exact HI350.out) HO356.out (by decide)) hk) (Kd.R_base ho0)) (fun _ h_ => h_.1)); replace HB := am (hb); replace HI350 := am (hi); (try clear hb); (try clear hb2); (try clear hk); (try clear hi); (try clear ho0)) | ((with_reducible refine gate_callee (f := 115) rfl ?_); refine goesL_ (some 22) rfl rfl Try.func115 (by kernel_rfl) rfl #[.pointer (some ⟨g350, 0, none⟩)] rfl (by (try simp only [List.map_toArray, List.map_cons, List.map_nil]); rfl) ?_; (with_reducible refine (spec_l11Grant.calls g350 t347 t362 t363 t364 t365 t366 w _ ?side1 ?side2 A6.out).mono ?_); (case side1 => repeat (with_reducible exact HI350.out)); (case side2 => repeat (with_reducible exact HB.out)); rintro e w11 ⟨rfl, hi, hb, hk⟩; refine ⟨_, rfl, ?_⟩; replace HO356 := am (Kd.R_mono (Kd.R_keep (IsS163.apart (show IsS163 w _ g350 t347 t362 t363 from by exact HI350.out) HO356.out (by decide)) hk (fun _ h => h.2)) (fun _ h => h.1)); replace HO361 := am (Kd.R_mono (Kd.R_keep (IsS163.apart (show IsS163 w _ g350 t347 t362 t363 from by exact HI350.out) HO361.out (by decide)) hk (fun _ h => h.2)) (fun _ h => h.1)); replace HB := am (hb); replace HI350 := am (hi); (try clear hb); (try clear hb2); (try clear hk); (try clear hi)))
 refine bodyPost_ret (results_list (rs := [.tmp 2, .tmp 3, .tmp 4, .tmp 5]) rfl (by simp) (.tmp (.tmp (.tmp (.tmp .nil))))) rfl ?_
 exact ⟨_, _, rfl, by exact Kd.R_mono HO356.out (fun _ hk => hk.2), by exact Kd.R_mono HO361.out (fun _ hk => hk.2), HB.out⟩

def impl_IsValidJoinKind.f (a0 : Int) : Option (Bool) := (impl_within.f a0 1 4).bind fun t367 => (some t367)
theorem impl_IsValidJoinKind.calls (a0 : Int) (r : Bool) (w : World) (h : impl_IsValidJoinKind.f a0 = some r) :
  Calls Try.prog 132 #[.int .i64 a0] w fun e w' => e = .returned (.bool r) ∧ Drawn0 w w' := by
 have H : ((impl_within.f a0 1 4).bind fun t367 => (some t367)) = some r := h
 clear h
 replace H := Option.bind_eq_some_iff.mp H
 obtain ⟨t367, A20, H⟩ := H
 have A2 := am A20
 clear A20
 obtain rfl := Option.some.inj H
 go_enter Try.func132, Try.ntmps132
 go_wp2_with (((with_reducible refine gate_callee (f := 134) rfl ?_); refine goesL_ (some 4) rfl rfl Try.func134 (by kernel_rfl) rfl #[.int .i64 a0, .int .i64 1, .int .i64 4] rfl (by (try simp only [List.map_toArray, List.map_cons, List.map_nil]); rfl) ?_; (with_reducible refine (impl_within.calls a0 1 4 t367 _ A2.out).mono ?_); rintro e w' ⟨rfl, ⟨nd, rfl⟩⟩; refine ⟨_, rfl, ?_⟩))
 go_ret
 exact ⟨rfl, by repeat (first | exact Drawn0.refl _ | apply Drawn0.step)⟩

def impl_allValid.l0 : Nat → List (S60) → Int → Int → Option (Bool)
 | 0, _, _, _ => none
 | k + 1, x5, x6, x7 => if x7 < x6 then (if 0 ≤ x7 then (if x7 < (x5.length : Int) then ((impl_IsValidRow.f ((rd_T60 x5 x7).f0) ((rd_T60 x5 x7).f1) ((rd_T60 x5 x7).f2)).bind fun t370 => (if t370 = true then (impl_allValid.l0 k x5 x6 (wrap64 (x7 + 1))) else (some false))) else (none)) else (none)) else (some true)
def impl_allValid.f (k : Nat) (l0 : List (S60)) : Option (Bool) := impl_allValid.l0 k l0 (l0.length : Int) 0
theorem impl_allValid.calls (k : Nat) (A0 : Option Addr) (c0 : Nat) (l0 : List (S60)) (r : Bool) (w : World) (hr0 : Kd.C k60 w A0 l0.length l0) (hc0 : l0.length ≤ c0) (h : impl_allValid.f k l0 = some r) :
  Calls Try.prog 183 #[.slice A0 l0.length c0] w fun e w' => e = .returned (.bool r) ∧ Below w.heap.size w w' := by
 have hu60 := Try.underlying60
 have HR0 := am hr0
 have HC0 := am hc0
 clear hr0 hc0
 have HB := am (Below.refl w.heap.size w)
 have H : (impl_allValid.l0 k l0 (l0.length : Int) 0) = some r := h
 clear h
 have H' := am H
 clear H
 go_enter Try.func183, Try.ntmps183
 go_wp2
 go_loopg [7] k (fun kq v7 w' => ∃ (x7_1 : Int), v7 = .int .i64 x7_1 ∧ Aside0 (impl_allValid.l0 kq l0 (l0.length : Int) x7_1 = some r) ∧ Aside0 (kq ≤ k) ∧ Aside0 (Below w.heap.size w w'))
 case atStart => exact ⟨(0), rfl, H', ⟨Nat.le_refl _⟩, ⟨HB.out⟩⟩
 case round =>
  clear H'
  obtain ⟨x7_1, rfl, HA, HK1, HB⟩ := hrel
  cases gk with
  | zero => exact absurd HA.out (by simp [impl_allValid.l0])
  | succ k1 =>
   have H := HA.out
   clear HA
   simp only [impl_allValid.l0] at H
   by_cases c2 : x7_1 < (l0.length : Int)
   ·rw [if_pos c2] at H
    have c2b0 : decide (x7_1 < (l0.length : Int)) = true := decide_eq_true c2
    clear c2
    by_cases c3 : 0 ≤ x7_1
    ·rw [if_pos c3] at H
     have c3b0 : decide (0 ≤ x7_1) = true := decide_eq_true c3
     clear c3
     by_cases c4 : x7_1 < (l0.length : Int)
     ·rw [if_pos c4] at H
      have c4b0 : decide (x7_1 < (l0.length : Int)) = true := decide_eq_true c4
      clear c4
      replace H := Option.bind_eq_some_iff.mp H
      obtain ⟨t370, A50, H⟩ := H
      have A5 := am A50
      clear A50
      by_cases c6 : t370 = true
      ·subst c6
       rw [if_pos rfl] at H
       have H' := am H
       clear H
       have p368 : 0 ≤ (x7_1 : Int) := of_decide_eq_true (by (with_reducible assumption))
       have q368 : x7_1 < (l0.length : Int) := of_decide_eq_true (by (with_reducible assumption))
       obtain ⟨ad368, e368, hx368_0, hx368_1, hx368_2⟩ := at_T60 HR0.out x7_1 p368 q368
       cases e368
       replace hx368_0 := bc_ HB.out hx368_0
       replace hx368_1 := bc_ HB.out hx368_1
       replace hx368_2 := bc_ HB.out hx368_2
       replace p368 := eq_true p368
       replace q368 := eq_true q368
       go_wp2_with (first | ((with_reducible refine gate_dst (N := 4) rfl ?_); refine box_event ?hg (N := 4) ?hd (cs := #[.int .i64 0, .int .i64 0, .int .i64 0]) (t := 60) ?hr ?_; (case hd => rfl); (case hg => rfl); (case hr => (go_simp; done)); intro gb369 hg w7 hbox hb; have BK369 := am (hbox); have GW369 := am (gw_ hg HB.out); have GE369 := am (gw_ hg HB.out); replace HB := am (below_step HB.out hb); clear hb hbox hg; obtain ⟨hcz8_0, hcz8_1, hcz8_2, hfz8_0, hfz8_1, hfz8_2⟩ := cells3_ BK369.out) | ((with_reducible refine gate_callee (f := 196) rfl ?_); refine goesL_ (some 12) rfl rfl Try.func196 (by kernel_rfl) rfl #[.agg #[.int .i64 ((rd_T60 l0 x7_1).f0), .int .i64 ((rd_T60 l0 x7_1).f1), .int .i64 ((rd_T60 l0 x7_1).f2)]] rfl (by (try simp only [List.map_toArray, List.map_cons, List.map_nil]); rfl) ?_; (with_reducible refine (impl_IsValidRow.calls ((rd_T60 l0 x7_1).f0) ((rd_T60 l0 x7_1).f1) ((rd_T60 l0 x7_1).f2) true _ A5.out).mono ?_); rintro e w9 ⟨rfl, hb⟩; refine ⟨_, rfl, ?_⟩; replace BK369 := am (blk_below (g := gb369) (o := .cells #[.int .i64 ((rd_T60 l0 x7_1).f0), .int .i64 ((rd_T60 l0 x7_1).f1), .int .i64 ((rd_T60 l0 x7_1).f2)] 60 (0, 0)) (by refine blk_put (cs := #[.int .i64 ((rd_T60 l0 x7_1).f0), .int .i64 ((rd_T60 l0 x7_1).f1), .int .i64 0]) ?_ 2 _ rfl; refine blk_put (cs := #[.int .i64 ((rd_T60 l0 x7_1).f0), .int .i64 0, .int .i64 0]) ?_ 1 _ rfl; refine blk_put (cs := #[.int .i64 0, .int .i64 0, .int .i64 0]) ?_ 0 _ rfl; exact BK369.out) hb); replace HB := am (below_step (by repeat (with_reducible first | exact HB.out | refine below_set ?_ GE369.out)) hb); (try clear hb)))
       go_roundg k1
       case measure => have := HK1.out; omega
       case rel => exact ⟨(wrap64 (x7_1 + 1)), rfl, H', ⟨by have := HK1.out; omega⟩, ⟨HB.out⟩⟩
      ·replace c6 := Bool.eq_false_iff.mpr c6
       subst c6
       rw [if_neg (show ¬ (false = true) by decide)] at H
       obtain rfl := Option.some.inj H
       have p368 : 0 ≤ (x7_1 : Int) := of_decide_eq_true (by (with_reducible assumption))
       have q368 : x7_1 < (l0.length : Int) := of_decide_eq_true (by (with_reducible assumption))
       obtain ⟨ad368, e368, hx368_0, hx368_1, hx368_2⟩ := at_T60 HR0.out x7_1 p368 q368
       cases e368
       replace hx368_0 := bc_ HB.out hx368_0
       replace hx368_1 := bc_ HB.out hx368_1
       replace hx368_2 := bc_ HB.out hx368_2
       replace p368 := eq_true p368
       replace q368 := eq_true q368
       go_wp2_with (first | ((with_reducible refine gate_dst (N := 4) rfl ?_); refine box_event ?hg (N := 4) ?hd (cs := #[.int .i64 0, .int .i64 0, .int .i64 0]) (t := 60) ?hr ?_; (case hd => rfl); (case hg => rfl); (case hr => (go_simp; done)); intro gb369 hg w10 hbox hb; have BK369 := am (hbox); have GW369 := am (gw_ hg HB.out); have GE369 := am (gw_ hg HB.out); replace HB := am (below_step HB.out hb); clear hb hbox hg; obtain ⟨hcz11_0, hcz11_1, hcz11_2, hfz11_0, hfz11_1, hfz11_2⟩ := cells3_ BK369.out) | ((with_reducible refine gate_callee (f := 196) rfl ?_); refine goesL_ (some 12) rfl rfl Try.func196 (by kernel_rfl) rfl #[.agg #[.int .i64 ((rd_T60 l0 x7_1).f0), .int .i64 ((rd_T60 l0 x7_1).f1), .int .i64 ((rd_T60 l0 x7_1).f2)]] rfl (by (try simp only [List.map_toArray, List.map_cons, List.map_nil]); rfl) ?_; (with_reducible refine (impl_IsValidRow.calls ((rd_T60 l0 x7_1).f0) ((rd_T60 l0 x7_1).f1) ((rd_T60 l0 x7_1).f2) false _ A5.out).mono ?_); rintro e w12 ⟨rfl, hb⟩; refine ⟨_, rfl, ?_⟩; replace BK369 := am (blk_below (g := gb369) (o := .cells #[.int .i64 ((rd_T60 l0 x7_1).f0), .int .i64 ((rd_T60 l0 x7_1).f1), .int .i64 ((rd_T60 l0 x7_1).f2)] 60 (0, 0)) (by refine blk_put (cs := #[.int .i64 ((rd_T60 l0 x7_1).f0), .int .i64 ((rd_T60 l0 x7_1).f1), .int .i64 0]) ?_ 2 _ rfl; refine blk_put (cs := #[.int .i64 ((rd_T60 l0 x7_1).f0), .int .i64 0, .int .i64 0]) ?_ 1 _ rfl; refine blk_put (cs := #[.int .i64 0, .int .i64 0, .int .i64 0]) ?_ 0 _ rfl; exact BK369.out) hb); replace HB := am (below_step (by repeat (with_reducible first | exact HB.out | refine below_set ?_ GE369.out)) hb); (try clear hb)))
       go_ret
       exact ⟨rfl, HB.out⟩
     ·rw [if_neg c4] at H
      exact absurd H (by simp)
    ·rw [if_neg c3] at H
     exact absurd H (by simp)
   ·rw [if_neg c2] at H
    have c2b0 : decide (x7_1 < (l0.length : Int)) = false := decide_eq_false c2
    clear c2
    obtain rfl := Option.some.inj H
    go_wp2
    go_ret
    exact ⟨rfl, HB.out⟩

def impl_AreValidRows.f (k : Nat) (l0 : List (S60)) : Option (Bool) := if (l0.length : Int) ≤ 24 then ((impl_allValid.f k l0).bind fun t371 => (some t371)) else (some false)
theorem impl_AreValidRows.calls (k : Nat) (A0 : Option Addr) (c0 : Nat) (l0 : List (S60)) (r : Bool) (w : World) (hr0 : Kd.C k60 w A0 l0.length l0) (hc0 : l0.length ≤ c0) (h : impl_AreValidRows.f k l0 = some r) :
  Calls Try.prog 133 #[.slice A0 l0.length c0] w fun e w' => e = .returned (.bool r) ∧ Below w.heap.size w w' := by
 have HR0 := am hr0
 have HC0 := am hc0
 clear hr0 hc0
 have HB := am (Below.refl w.heap.size w)
 have H : (if (l0.length : Int) ≤ 24 then ((impl_allValid.f k l0).bind fun t371 => (some t371)) else (some false)) = some r := h
 clear h
 by_cases c2 : (l0.length : Int) ≤ 24
 ·rw [if_pos c2] at H
  have c2b0 : decide ((l0.length : Int) ≤ 24) = true := decide_eq_true c2
  have c2b1 : decide (l0.length ≤ 24) = true := decide_eq_true (by omega)
  clear c2
  replace H := Option.bind_eq_some_iff.mp H
  obtain ⟨t371, A30, H⟩ := H
  have A3 := am A30
  clear A30
  obtain rfl := Option.some.inj H
  go_enter Try.func133, Try.ntmps133
  go_wp2_with ((go_at_call 183; (with_reducible refine (impl_allValid.calls k _ _ l0 t371 _ ?side1 ?side2 A3.out).mono ?_); (case side1 => repeat (exact HR0.out)); (case side2 => exact HC0.out); rintro e w4 ⟨rfl, hb⟩; replace HB := am (below_step HB.out hb); (try clear hb)))
  go_ret
  exact ⟨rfl, HB.out⟩
 ·rw [if_neg c2] at H
  have c2b0 : decide ((l0.length : Int) ≤ 24) = false := decide_eq_false c2
  have c2b1 : decide (l0.length ≤ 24) = false := decide_eq_false (by omega)
  clear c2
  obtain rfl := Option.some.inj H
  go_enter Try.func133, Try.ntmps133
  go_wp2
  go_ret
  exact ⟨rfl, HB.out⟩

end Go.Proofs.Ytobndcjmjhehjaa.P
