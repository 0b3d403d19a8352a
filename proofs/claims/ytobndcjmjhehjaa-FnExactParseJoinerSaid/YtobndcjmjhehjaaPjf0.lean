/- For every string the law FnExactParseJoiner of the given program returns true and leaves its argument as it was; no condition. -/
import Derived.Test.YtobndcjmjhehjaaPjb
namespace Go.Proofs.Ytobndcjmjhehjaa.P
open Go.RowKit Go.Proofs.YtobndcjmjhehjaaW.PrintWords Go.Proofs.YtobndcjmjhehjaaW.PrintLast Go.Proofs.YtobndcjmjhehjaaW.PrintMore
attribute [local go_sem] max2_int min2_int max_two min_two max_three min_three max_four min_four   -- for this text's walks alone
set_option linter.unusedVariables false
set_option linter.unusedSimpArgs false
set_option maxHeartbeats 8000000
set_option maxRecDepth 100000
def spec_l2Cut.l0 : Nat → ByteArray → Int → List ByteArray → Int → Int → Option (List ByteArray)
 | 0, _, _, _, _, _ => none
 | k + 1, x0, x1, x5, x6, x7 => if x7 < (x0.size : Int) then (if 0 ≤ x7 then (if (bt x0 x7) = x1 then (if 0 ≤ x6 then (if x6 ≤ x7 then (if x7 ≤ (x0.size : Int) then (if x5.length < 8796093022208 then (spec_l2Cut.l0 k x0 x1 (x5 ++ [x0.extract (x6 : Int).toNat (x7 : Int).toNat]) (wrap64 (x7 + 1)) (wrap64 (x7 + 1))) else (none)) else (none)) else (none)) else (none)) else (spec_l2Cut.l0 k x0 x1 x5 x6 (wrap64 (x7 + 1)))) else (none)) else (if 0 ≤ x6 then (if x6 ≤ (x0.size : Int) then (if x5.length < 8796093022208 then (some (x5 ++ [x0.extract (x6 : Int).toNat x0.size])) else (none)) else (none)) else (none))
def spec_l2Cut.f (k : Nat) (a0 : ByteArray) (a1 : Int) : Option (List ByteArray) := spec_l2Cut.l0 k a0 a1 ([] : List ByteArray) 0 0
theorem spec_l2Cut.calls (k : Nat) (a0 : ByteArray) (a1 : Int) (r : List ByteArray) (w : World) (h : spec_l2Cut.f k a0 a1 = some r) :
  Calls Try.prog 135 #[.string a0, .int .u8 a1] w fun e w' => ∃ v0_ : Value, e = .returned (v0_) ∧ Kd.R Kd.string 9 w' w.heap.size (fun _ => True) v0_ r ∧ Below w.heap.size w w' := by
 have HB := Aside0.mk (Below.refl w.heap.size w)
 have H : (spec_l2Cut.l0 k a0 a1 ([] : List ByteArray) 0 0) = some r := h
 clear h
 obtain ⟨y1106, hy1106⟩ : ∃ y_ : List ByteArray, y_ = ([] : List ByteArray) := ⟨_, rfl⟩
 replace H : (spec_l2Cut.l0 k a0 a1 y1106 0 0) = some r := by (rw [hy1106]; with_reducible exact H)
 have Ny1106 := Aside0.mk hy1106
 clear hy1106
 have H' := Aside0.mk H
 clear H
 go_enter Try.func135, Try.ntmps135
 go_wp2_with (((with_reducible refine gate_dst (N := 8) rfl ?_); refine Kd.R_lit Kd.string _ 9 ?hg (N := 8) ?hd (xs := ([] : List ByteArray)) (inner := []) (ok := fun _ => True) (okp := fun _ => True) ?hr ?hp (fun _ hk => hk) trivial (Below.refl _ _) (Nat.le_refl _) (by simp) ?_; (case hd => rfl); (case hg => rfl); (case hr => (go_simp; done)); (case hp => exact (Reps.none _ _)); intro v1107 w3 ho4 hb hg_ hnew_; clear hg_ hnew_; (rw [← Ny1106.out] at ho4); have n0_ := Aside0.mk (Kd.R_lower ho4 (below_size HB.out)); have n1_ := Aside0.mk (below_step HB.out hb); clear HB; have HO1108 := n0_; have HB := n1_; clear n0_ n1_; clear hb ho4))
 go_loopg [5, 6, 7] k (fun kq v5 v6 v7 w' => ∃ (x5_1 : List ByteArray) (x6_1 : Int) (x7_1 : Int), v6 = .int .i64 x6_1 ∧ v7 = .int .i64 x7_1 ∧ Aside0 (spec_l2Cut.l0 kq a0 a1 x5_1 x6_1 x7_1 = some r) ∧ Aside0 (kq ≤ k) ∧ Aside0 (Kd.R Kd.string 9 w' w.heap.size (fun _ => True) v5 x5_1) ∧ Aside0 (Below w.heap.size w w'))
 case atStart => exact ⟨(y1106), (0), (0), rfl, rfl, H', ⟨Nat.le_refl _⟩, ⟨HO1108.out⟩, ⟨HB.out⟩⟩
 case round =>
  clear H'
  obtain ⟨x5_1, x6_1, x7_1, rfl, rfl, HA, HK1, HO_5, HB⟩ := hrel
  cases gk with
  | zero => exact absurd HA.out (by simp [spec_l2Cut.l0])
  | succ k1 =>
   have H := HA.out
   clear HA
   simp only [spec_l2Cut.l0] at H
   by_cases c5 : x7_1 < (a0.size : Int)
   ·rw [if_pos c5] at H
    have c5b0 : decide (x7_1 < (a0.size : Int)) = true := decide_eq_true c5
    clear c5
    by_cases c6 : 0 ≤ x7_1
    ·rw [if_pos c6] at H
     have c6b0 : decide (0 ≤ x7_1) = true := decide_eq_true c6
     clear c6
     by_cases c8 : (bt a0 x7_1) = a1
     ·rw [if_pos c8] at H
      have c8b0 : ((bt a0 x7_1) == a1) = true := beq_iff_eq.mpr c8
      have c8b1 : ((bt a0 x7_1) != a1) = false := bne_eq_false_iff_eq.mpr c8
      clear c8
      by_cases c9 : 0 ≤ x6_1
      ·rw [if_pos c9] at H
       have c9b0 := eq_true c9
       have c9b1 : decide (0 ≤ x6_1) = true := decide_eq_true c9
       clear c9
       by_cases c10 : x6_1 ≤ x7_1
       ·rw [if_pos c10] at H
        have c10b0 := eq_true c10
        have c10b1 : decide (x6_1 ≤ x7_1) = true := decide_eq_true c10
        clear c10
        by_cases c11 : x7_1 ≤ (a0.size : Int)
        ·rw [if_pos c11] at H
         have c11b0 := eq_true c11
         have c11b1 : decide (x7_1 ≤ (a0.size : Int)) = true := decide_eq_true c11
         clear c11
         by_cases c12 : x5_1.length < 8796093022208
         ·rw [if_pos c12] at H
          have LMc12 := Aside0.mk c12
          clear c12
          obtain ⟨y1109, hy1109⟩ : ∃ y_ : List ByteArray, y_ = (x5_1 ++ [a0.extract (x6_1 : Int).toNat (x7_1 : Int).toNat]) := ⟨_, rfl⟩
          replace H : (spec_l2Cut.l0 k1 a0 a1 y1109 (wrap64 (x7_1 + 1)) (wrap64 (x7_1 + 1))) = some r := by (rw [hy1109]; with_reducible exact H)
          have Ny1109 := Aside0.mk hy1109
          clear hy1109
          have H' := Aside0.mk H
          clear H
          have p7 : 0 ≤ (x7_1 : Int) := of_decide_eq_true (by (with_reducible assumption))
          have q7 : x7_1 < (a0.size : Int) := of_decide_eq_true (by (with_reducible assumption))
          have hx7 := bt_at a0 x7_1
          replace p7 := eq_true p7
          replace q7 := eq_true q7
          go_wp2_with (((with_reducible refine gate_builtin (b := .append) (xs := #[.tmp 20, .tmp 25]) rfl ?_); at_builtin; refine Kd.R_append Kd.string (w0 := w) w.heap.size rfl (.tmp 20) (.tmp 25) 134 9 (.string ⟨#[]⟩) 16 rfl Try.underlying134 info9 rfl (by decide) (by omega) u5 x5_1 (a0.extract (x6_1 : Int).toNat (x7_1 : Int).toNat) [.string (a0.extract (x6_1 : Int).toNat (x7_1 : Int).toNat)] (fun _ => True) (fun _ => False) rfl rfl ?aP (fun _ hk => hk.elim) ?aF ?aO ?aB ?aS ?aL ?_; (case aP => exact rfl); (case aB => exact HB.out); (case aF => exact (fun _ _ => trivial)); (case aO => exact HO_5.out); (case aS => exact (below_size HB.out)); (case aL => have := LMc12.out; omega); intro v1110 w13 ho hb hg hat; rw [← Ny1109.out] at ho; have n0_ := Aside0.mk (hb); have n1_ := Aside0.mk (ho); clear HB; clear HO_5; have HB := n0_; have HO1111 := n1_; clear n0_ n1_; clear ho hb hg hat))
          go_roundg k1
          case measure => have := HK1.out; omega
          case rel => exact ⟨(y1109), (wrap64 (x7_1 + 1)), (wrap64 (x7_1 + 1)), rfl, rfl, H', ⟨by have := HK1.out; omega⟩, ⟨HO1111.out⟩, ⟨HB.out⟩⟩
         ·rw [if_neg c12] at H
          exact absurd H (by simp)
        ·rw [if_neg c11] at H
         exact absurd H (by simp)
       ·rw [if_neg c10] at H
        exact absurd H (by simp)
      ·rw [if_neg c9] at H
       exact absurd H (by simp)
     ·rw [if_neg c8] at H
      have c8b0 : ((bt a0 x7_1) == a1) = false := beq_eq_false_iff_ne.mpr c8
      have c8b1 : ((bt a0 x7_1) != a1) = true := bne_iff_ne.mpr c8
      have H' := Aside0.mk H
      clear H
      have p7 : 0 ≤ (x7_1 : Int) := of_decide_eq_true (by (with_reducible assumption))
      have q7 : x7_1 < (a0.size : Int) := of_decide_eq_true (by (with_reducible assumption))
      have hx7 := bt_at a0 x7_1
      replace p7 := eq_true p7
      replace q7 := eq_true q7
      go_wp2
      go_roundg k1
      case measure => have := HK1.out; omega
      case rel => exact ⟨(x5_1), (x6_1), (wrap64 (x7_1 + 1)), rfl, rfl, H', ⟨by have := HK1.out; omega⟩, ⟨HO_5.out⟩, ⟨HB.out⟩⟩
    ·rw [if_neg c6] at H
     exact absurd H (by simp)
   ·rw [if_neg c5] at H
    have c5b0 : decide (x7_1 < (a0.size : Int)) = false := decide_eq_false c5
    clear c5
    by_cases c14 : 0 ≤ x6_1
    ·rw [if_pos c14] at H
     have c14b0 := eq_true c14
     have c14b1 : decide (0 ≤ x6_1) = true := decide_eq_true c14
     clear c14
     by_cases c15 : x6_1 ≤ (a0.size : Int)
     ·rw [if_pos c15] at H
      have c15b0 := eq_true c15
      have c15b1 : decide (x6_1 ≤ (a0.size : Int)) = true := decide_eq_true c15
      clear c15
      by_cases c16 : x5_1.length < 8796093022208
      ·rw [if_pos c16] at H
       have LMc16 := Aside0.mk c16
       clear c16
       obtain ⟨y1112, hy1112⟩ : ∃ y_ : List ByteArray, y_ = (x5_1 ++ [a0.extract (x6_1 : Int).toNat a0.size]) := ⟨_, rfl⟩
       replace H : (some y1112) = some r := by (rw [hy1112]; with_reducible exact H)
       have Ny1112 := Aside0.mk hy1112
       clear hy1112
       obtain rfl := Option.some.inj H
       go_wp2_with (((with_reducible refine gate_builtin (b := .append) (xs := #[.tmp 29, .tmp 33]) rfl ?_); at_builtin; refine Kd.R_append Kd.string (w0 := w) w.heap.size rfl (.tmp 29) (.tmp 33) 134 9 (.string ⟨#[]⟩) 16 rfl Try.underlying134 info9 rfl (by decide) (by omega) u5 x5_1 (a0.extract (x6_1 : Int).toNat a0.size) [.string (a0.extract (x6_1 : Int).toNat a0.size)] (fun _ => True) (fun _ => False) rfl rfl ?aP (fun _ hk => hk.elim) ?aF ?aO ?aB ?aS ?aL ?_; (case aP => exact rfl); (case aB => exact HB.out); (case aF => exact (fun _ _ => trivial)); (case aO => exact HO_5.out); (case aS => exact (below_size HB.out)); (case aL => have := LMc16.out; omega); intro v1113 w17 ho hb hg hat; rw [← Ny1112.out] at ho; have n0_ := Aside0.mk (hb); have n1_ := Aside0.mk (ho); clear HB; clear HO_5; have HB := n0_; have HO1114 := n1_; clear n0_ n1_; clear ho hb hg hat))
       go_ret
       exact ⟨_, rfl, HO1114.out, HB.out⟩
      ·rw [if_neg c16] at H
       exact absurd H (by simp)
     ·rw [if_neg c15] at H
      exact absurd H (by simp)
    ·rw [if_neg c14] at H
     exact absurd H (by simp)

def spec_FormatInt.l0 : Nat → Int → ByteArray → Bool → Option (ByteArray)
 | 0, _, _, _ => none
 | k + 1, x0, x3, x4 => if x0 = 0 then (if x4 = true then (if 1 + x3.size ≤ 9223372036854775807 then (some ((⟨#[45]⟩ : ByteArray) ++ x3)) else (none)) else (some x3)) else (if (Int.tmod x0 10) < 0 then ((some (([(wrap64 (48 + (wrap64 (-(Int.tmod x0 10))))) % 256] : List Int) : List Int)).bind fun y1115 => (if (strOfNums y1115).size + x3.size ≤ 9223372036854775807 then (spec_FormatInt.l0 k (wrap64 (Int.tdiv x0 10)) ((strOfNums y1115) ++ x3) x4) else (none))) else ((some (([(wrap64 (48 + (Int.tmod x0 10))) % 256] : List Int) : List Int)).bind fun y1118 => (if (strOfNums y1118).size + x3.size ≤ 9223372036854775807 then (spec_FormatInt.l0 k (wrap64 (Int.tdiv x0 10)) ((strOfNums y1118) ++ x3) x4) else (none))))
def spec_FormatInt.f (k : Nat) (a0 : Int) : Option (ByteArray) := if a0 = 0 then (some (⟨#[48]⟩ : ByteArray)) else (spec_FormatInt.l0 k a0 (⟨#[]⟩ : ByteArray) (decide (a0 < 0)))
theorem spec_FormatInt.calls (k : Nat) (a0 : Int) (r : ByteArray) (w : World) (h : spec_FormatInt.f k a0 = some r) :
  Calls Try.prog 184 #[.int .i64 a0] w fun e w' => e = .returned (.string r) ∧ Below w.heap.size w w' := by
 have HB := Aside0.mk (Below.refl w.heap.size w)
 have H : (if a0 = 0 then (some (⟨#[48]⟩ : ByteArray)) else (spec_FormatInt.l0 k a0 (⟨#[]⟩ : ByteArray) (decide (a0 < 0)))) = some r := h
 clear h
 by_cases c2 : a0 = 0
 ·rw [if_pos c2] at H
  have c2b0 : (a0 == 0) = true := beq_iff_eq.mpr c2
  have c2b1 : (a0 != 0) = false := bne_eq_false_iff_eq.mpr c2
  clear c2
  obtain rfl := Option.some.inj H
  go_enter Try.func184, Try.ntmps184
  go_wp2
  go_ret
  exact ⟨rfl, HB.out⟩
 ·rw [if_neg c2] at H
  have c2b0 : (a0 == 0) = false := beq_eq_false_iff_ne.mpr c2
  have c2b1 : (a0 != 0) = true := bne_iff_ne.mpr c2
  have H' := Aside0.mk H
  clear H
  go_enter Try.func184, Try.ntmps184
  go_wp2
  go_loopg [0, 3] k (fun kq v0 v3 w' => ∃ (x0_1 : Int) (x3_1 : ByteArray), v0 = .int .i64 x0_1 ∧ v3 = .string x3_1 ∧ Aside0 (spec_FormatInt.l0 kq x0_1 x3_1 (decide (a0 < 0)) = some r) ∧ Aside0 (kq ≤ k) ∧ Aside0 (Below w.heap.size w w'))
  case atStart => exact ⟨(a0), ((⟨#[]⟩ : ByteArray)), rfl, rfl, H', ⟨Nat.le_refl _⟩, ⟨HB.out⟩⟩
  case round =>
   clear H'
   try clear c2
   try clear c2b0
   try clear c2b1
   obtain ⟨x0_1, x3_1, rfl, rfl, HA, HK1, HB⟩ := hrel
   cases gk with
   | zero => exact absurd HA.out (by simp [spec_FormatInt.l0])
   | succ k1 =>
    have H := HA.out
    clear HA
    simp only [spec_FormatInt.l0] at H
    by_cases c3 : x0_1 = 0
    ·rw [if_pos c3] at H
     have c3b0 : (x0_1 == 0) = true := beq_iff_eq.mpr c3
     have c3b1 : (x0_1 != 0) = false := bne_eq_false_iff_eq.mpr c3
     clear c3
     by_cases c4 : (decide (a0 < 0)) = true
     ·rw [if_pos c4] at H
      have c4b0 : (decide (a0 < 0)) = true := c4
      (try (have c4b1 : a0 < 0 := by simpa using c4))
      clear c4
      by_cases c5 : 1 + x3_1.size ≤ 9223372036854775807
      ·rw [if_pos c5] at H
       have c5b0 := eq_true c5
       have c5b1 : decide (1 + x3_1.size ≤ 9223372036854775807) = true := decide_eq_true c5
       try have c5b2 : (9223372036854775807 < 1 + x3_1.size) = False := eq_false (Nat.not_lt.2 c5)
       obtain rfl := Option.some.inj H
       go_wp2
       go_ret
       exact ⟨rfl, HB.out⟩
      ·rw [if_neg c5] at H
       exact absurd H (by simp)
     ·rw [if_neg c4] at H
      have c4b0 : (decide (a0 < 0)) = false := by simpa using c4
      (try (have c4b1 : ¬ (a0 < 0) := by simpa using c4))
      clear c4
      obtain rfl := Option.some.inj H
      go_wp2
      go_ret
      exact ⟨rfl, HB.out⟩
    ·rw [if_neg c3] at H
     have c3b0 : (x0_1 == 0) = false := beq_eq_false_iff_ne.mpr c3
     have c3b1 : (x0_1 != 0) = true := bne_iff_ne.mpr c3
     by_cases c6 : (Int.tmod x0_1 10) < 0
     ·rw [if_pos c6] at H
      have c6b0 : decide ((Int.tmod x0_1 10) < 0) = true := decide_eq_true c6
      clear c6
      obtain ⟨y1115, hy1115, H⟩ := bindO_ H
      have Ny1115 := Aside0.mk hy1115
      clear hy1115
      by_cases c7 : (strOfNums y1115).size + x3_1.size ≤ 9223372036854775807
      ·rw [if_pos c7] at H
       have c7b0 := eq_true c7
       have c7b1 : decide ((strOfNums y1115).size + x3_1.size ≤ 9223372036854775807) = true := decide_eq_true c7
       try have c7b2 : (9223372036854775807 < (strOfNums y1115).size + x3_1.size) = False := eq_false (Nat.not_lt.2 c7)
       have H' := Aside0.mk H
       clear H
       go_wp2_with (((with_reducible refine gate_dst (N := 21) rfl ?_); refine Kd.R_lit (Kd.int .u8) _ 5 ?hg (N := 21) ?hd (xs := ([(wrap64 (48 + (wrap64 (-(Int.tmod x0_1 10))))) % 256] : List Int)) (inner := [.int .u8 ((wrap64 (48 + (wrap64 (-(Int.tmod x0_1 10))))) % 256)]) (ok := fun _ => True) (okp := fun _ => True) ?hr ?hp (fun _ hk => hk) trivial (Below.refl _ _) (Nat.le_refl _) (by simp) ?_; (case hd => rfl); (case hg => rfl); (case hr => (go_simp; done)); (case hp => exact (Reps.one (show Kd.M (Kd.int .u8) _ _ _ ((wrap64 (48 + (wrap64 (-(Int.tmod x0_1 10))))) % 256) [.int .u8 ((wrap64 (48 + (wrap64 (-(Int.tmod x0_1 10))))) % 256)] from rfl) (Reps.none _ _))); intro v1116 w8 ho9 hb hg_ hnew_; clear hg_ hnew_; (rw [← Ny1115.out] at ho9); have n0_ := Aside0.mk (Kd.R_lower ho9 (below_size HB.out)); have n1_ := Aside0.mk (below_step HB.out hb); clear HB; have HO1117 := n0_; have HB := n1_; clear n0_ n1_; clear hb ho9; have hcv10 := own_string (P := Try.prog) Try.underlying22 Try.underlying5 Try.underlying9 (Kd.own_of_R HO1117.out)))
       go_roundg k1
       case measure => have := HK1.out; omega
       case rel => exact ⟨(wrap64 (Int.tdiv x0_1 10)), ((strOfNums y1115) ++ x3_1), rfl, rfl, H', ⟨by have := HK1.out; omega⟩, ⟨HB.out⟩⟩
      ·rw [if_neg c7] at H
       exact absurd H (by simp)
     ·rw [if_neg c6] at H
      have c6b0 : decide ((Int.tmod x0_1 10) < 0) = false := decide_eq_false c6
      clear c6
      obtain ⟨y1118, hy1118, H⟩ := bindO_ H
      have Ny1118 := Aside0.mk hy1118
      clear hy1118
      by_cases c11 : (strOfNums y1118).size + x3_1.size ≤ 9223372036854775807
      ·rw [if_pos c11] at H
       have c11b0 := eq_true c11
       have c11b1 : decide ((strOfNums y1118).size + x3_1.size ≤ 9223372036854775807) = true := decide_eq_true c11
       try have c11b2 : (9223372036854775807 < (strOfNums y1118).size + x3_1.size) = False := eq_false (Nat.not_lt.2 c11)
       have H' := Aside0.mk H
       clear H
       go_wp2_with (((with_reducible refine gate_dst (N := 21) rfl ?_); refine Kd.R_lit (Kd.int .u8) _ 5 ?hg (N := 21) ?hd (xs := ([(wrap64 (48 + (Int.tmod x0_1 10))) % 256] : List Int)) (inner := [.int .u8 ((wrap64 (48 + (Int.tmod x0_1 10))) % 256)]) (ok := fun _ => True) (okp := fun _ => True) ?hr ?hp (fun _ hk => hk) trivial (Below.refl _ _) (Nat.le_refl _) (by simp) ?_; (case hd => rfl); (case hg => rfl); (case hr => (go_simp; done)); (case hp => exact (Reps.one (show Kd.M (Kd.int .u8) _ _ _ ((wrap64 (48 + (Int.tmod x0_1 10))) % 256) [.int .u8 ((wrap64 (48 + (Int.tmod x0_1 10))) % 256)] from rfl) (Reps.none _ _))); intro v1119 w12 ho13 hb hg_ hnew_; clear hg_ hnew_; (rw [← Ny1118.out] at ho13); have n0_ := Aside0.mk (Kd.R_lower ho13 (below_size HB.out)); have n1_ := Aside0.mk (below_step HB.out hb); clear HB; have HO1120 := n0_; have HB := n1_; clear n0_ n1_; clear hb ho13; have hcv14 := own_string (P := Try.prog) Try.underlying22 Try.underlying5 Try.underlying9 (Kd.own_of_R HO1120.out)))
       go_roundg k1
       case measure => have := HK1.out; omega
       case rel => exact ⟨(wrap64 (Int.tdiv x0_1 10)), ((strOfNums y1118) ++ x3_1), rfl, rfl, H', ⟨by have := HK1.out; omega⟩, ⟨HB.out⟩⟩
      ·rw [if_neg c11] at H
       exact absurd H (by simp)

mutual
def spec_ParseInt.l0 : Nat → ByteArray → Int → Int → Int → Option (Int × Bool)
 | 0, _, _, _, _ => none
 | k + 1, x0, x4, x5, x6 => if x6 < (x0.size : Int) then (spec_ParseInt.j1 k x0 x4 x5 x6 (decide (x6 < 11))) else (spec_ParseInt.j1 k x0 x4 x5 x6 false)
def spec_ParseInt.j1 : Nat → ByteArray → Int → Int → Int → Bool → Option (Int × Bool)
 | 0, _, _, _, _, _ => none
 | k + 1, x0, x4, x5, x6, x14 => if x14 = true then (if 0 ≤ x6 then (if x6 < (x0.size : Int) then (if (bt x0 x6) ≥ 48 then (if (bt x0 x6) ≤ 57 then (spec_ParseInt.l0 k x0 (wrap64 ((wrap64 (x4 * 10)) + (((bt x0 x6) - 48) % 256))) (wrap64 (x5 + 1)) (wrap64 (x6 + 1))) else (spec_ParseInt.l0 k x0 x4 x5 (wrap64 (x6 + 1)))) else (spec_ParseInt.l0 k x0 x4 x5 (wrap64 (x6 + 1)))) else (none)) else (none)) else (if (x0.size : Int) > 0 then (if 0 < (x0.size : Int) then (spec_ParseInt.j2 k x0 x4 x5 ((bt x0 0) == 45)) else (none)) else (spec_ParseInt.j2 k x0 x4 x5 false))
def spec_ParseInt.j2 : Nat → ByteArray → Int → Int → Bool → Option (Int × Bool)
 | 0, _, _, _, _ => none
 | k + 1, x0, x4, x5, x44 => if x44 = true then (if x5 > 9 then (some (0, false)) else (if (x0.size : Int) > 10 then (some (0, false)) else ((spec_FormatInt.f k (wrap64 (-x4))).bind fun t1121 => (if t1121.toList = x0.toList then (some (wrap64 (-x4), true)) else (some (0, false)))))) else (if x5 > 9 then (some (0, false)) else (if (x0.size : Int) > 10 then (some (0, false)) else ((spec_FormatInt.f k x4).bind fun t1122 => (if t1122.toList = x0.toList then (some (x4, true)) else (some (0, false))))))
end
def spec_ParseInt.f (k : Nat) (a0 : ByteArray) : Option (Int × Bool) := spec_ParseInt.l0 k a0 0 0 0
theorem spec_ParseInt.calls (k : Nat) (a0 : ByteArray) (r1 : Int) (r2 : Bool) (w : World) (h : spec_ParseInt.f k a0 = some (r1, r2)) :
  Calls Try.prog 136 #[.string a0] w fun e w' => e = .returned (.tuple #[.int .i64 r1, .bool r2]) ∧ Below w.heap.size w w' := by
 have HB := Aside0.mk (Below.refl w.heap.size w)
 have H : (spec_ParseInt.l0 k a0 0 0 0) = some (r1, r2) := h
 clear h
 have H' := Aside0.mk H
 clear H
 go_enter Try.func136, Try.ntmps136
 go_wp2
 go_loopg [4, 5, 6] k (fun kq v4 v5 v6 w' => ∃ (x4_1 : Int) (x5_1 : Int) (x6_1 : Int), v4 = .int .i64 x4_1 ∧ v5 = .int .i64 x5_1 ∧ v6 = .int .i64 x6_1 ∧ Aside0 (spec_ParseInt.l0 kq a0 x4_1 x5_1 x6_1 = some (r1, r2)) ∧ Aside0 (kq ≤ k) ∧ Aside0 (Below w.heap.size w w'))
 case atStart => exact ⟨(0), (0), (0), rfl, rfl, rfl, H', ⟨Nat.le_refl _⟩, ⟨HB.out⟩⟩
 case round =>
  clear H'
  obtain ⟨x4_1, x5_1, x6_1, rfl, rfl, rfl, HA, HK1, HB⟩ := hrel
  cases gk with
  | zero => exact absurd HA.out (by simp [spec_ParseInt.l0])
  | succ k1 =>
   have H := HA.out
   clear HA
   simp only [spec_ParseInt.l0] at H
   have HC2 := Aside0.mk H
   clear H
   go_upto_region 4 with (fail)
   go_cut [14] (fun v14 wc => ∃ (kq : Nat) (x14_1 : Bool), v14 = .bool x14_1 ∧ Aside0 (spec_ParseInt.j1 kq a0 x4_1 x5_1 x6_1 x14_1 = some (r1, r2)) ∧ Aside0 (kq ≤ k1) ∧ Aside0 (Below w.heap.size w wc))
   case first =>
    have H := HC2.out
    clear HC2
    by_cases c3 : x6_1 < (a0.size : Int)
    ·rw [if_pos c3] at H
     have c3b0 : decide (x6_1 < (a0.size : Int)) = true := decide_eq_true c3
     clear c3
     (skip)
     have H' := Aside0.mk H
     clear H
     go_wp2
     go_meet
     case rel => exact ⟨_, (decide (x6_1 < 11)), rfl, H', ⟨by have := HK1.out; omega⟩, ⟨HB.out⟩⟩
    ·rw [if_neg c3] at H
     have c3b0 : decide (x6_1 < (a0.size : Int)) = false := decide_eq_false c3
     clear c3
     (skip)
     have H' := Aside0.mk H
     clear H
     go_wp2
     go_meet
     case rel => exact ⟨_, (false), rfl, H', ⟨by have := HK1.out; omega⟩, ⟨HB.out⟩⟩
   case rest =>
    clear HC2
    obtain ⟨kq, x14_1, rfl, HA, HJ1, HB⟩ := hcut
    cases kq with
    | zero => exact absurd HA.out (by simp [spec_ParseInt.j1])
    | succ kj1 =>
     have H := HA.out
     clear HA
     simp only [spec_ParseInt.j1] at H
     by_cases c4 : x14_1 = true
     ·subst c4
      rw [if_pos rfl] at H
      by_cases c5 : 0 ≤ x6_1
      ·rw [if_pos c5] at H
       have c5b0 : decide (0 ≤ x6_1) = true := decide_eq_true c5
       clear c5
       by_cases c6 : x6_1 < (a0.size : Int)
       ·rw [if_pos c6] at H
        have c6b0 : decide (x6_1 < (a0.size : Int)) = true := decide_eq_true c6
        clear c6
        by_cases c8 : (bt a0 x6_1) ≥ 48
        ·rw [if_pos c8] at H
         have c8b0 : decide (48 ≤ (bt a0 x6_1)) = true := decide_eq_true c8
         clear c8
         by_cases c10 : (bt a0 x6_1) ≤ 57
         ·rw [if_pos c10] at H
          have c10b0 : decide ((bt a0 x6_1) ≤ 57) = true := decide_eq_true c10
          clear c10
          have H' := Aside0.mk H
          clear H
          have p7 : 0 ≤ (x6_1 : Int) := of_decide_eq_true (by (with_reducible assumption))
          have q7 : x6_1 < (a0.size : Int) := of_decide_eq_true (by (with_reducible assumption))
          have hx7 := bt_at a0 x6_1
          replace p7 := eq_true p7
          replace q7 := eq_true q7
          have p9 : 0 ≤ (x6_1 : Int) := of_decide_eq_true (by (with_reducible assumption))
          have q9 : x6_1 < (a0.size : Int) := of_decide_eq_true (by (with_reducible assumption))
          have hx9 := bt_at a0 x6_1
          replace p9 := eq_true p9
          replace q9 := eq_true q9
          have p11 : 0 ≤ (x6_1 : Int) := of_decide_eq_true (by (with_reducible assumption))
          have q11 : x6_1 < (a0.size : Int) := of_decide_eq_true (by (with_reducible assumption))
          have hx11 := bt_at a0 x6_1
          replace p11 := eq_true p11
          replace q11 := eq_true q11
          go_wp2
          go_roundg kj1
          case measure => have := HK1.out; have := HJ1.out; omega
          case rel => exact ⟨(wrap64 ((wrap64 (x4_1 * 10)) + (((bt a0 x6_1) - 48) % 256))), (wrap64 (x5_1 + 1)), (wrap64 (x6_1 + 1)), rfl, rfl, rfl, H', ⟨by have := HK1.out; have := HJ1.out; omega⟩, ⟨HB.out⟩⟩
         ·rw [if_neg c10] at H
          have c10b0 : decide ((bt a0 x6_1) ≤ 57) = false := decide_eq_false c10
          clear c10
          have H' := Aside0.mk H
          clear H
          have p7 : 0 ≤ (x6_1 : Int) := of_decide_eq_true (by (with_reducible assumption))
          have q7 : x6_1 < (a0.size : Int) := of_decide_eq_true (by (with_reducible assumption))
          have hx7 := bt_at a0 x6_1
          replace p7 := eq_true p7
          replace q7 := eq_true q7
          have p9 : 0 ≤ (x6_1 : Int) := of_decide_eq_true (by (with_reducible assumption))
          have q9 : x6_1 < (a0.size : Int) := of_decide_eq_true (by (with_reducible assumption))
          have hx9 := bt_at a0 x6_1
          replace p9 := eq_true p9
          replace q9 := eq_true q9
          go_wp2
          go_roundg kj1
          case measure => have := HK1.out; have := HJ1.out; omega
          case rel => exact ⟨(x4_1), (x5_1), (wrap64 (x6_1 + 1)), rfl, rfl, rfl, H', ⟨by have := HK1.out; have := HJ1.out; omega⟩, ⟨HB.out⟩⟩
        ·rw [if_neg c8] at H
         have c8b0 : decide (48 ≤ (bt a0 x6_1)) = false := decide_eq_false c8
         clear c8
         have H' := Aside0.mk H
         clear H
         have p7 : 0 ≤ (x6_1 : Int) := of_decide_eq_true (by (with_reducible assumption))
         have q7 : x6_1 < (a0.size : Int) := of_decide_eq_true (by (with_reducible assumption))
         have hx7 := bt_at a0 x6_1
         replace p7 := eq_true p7
         replace q7 := eq_true q7
         go_wp2
         go_roundg kj1
         case measure => have := HK1.out; have := HJ1.out; omega
         case rel => exact ⟨(x4_1), (x5_1), (wrap64 (x6_1 + 1)), rfl, rfl, rfl, H', ⟨by have := HK1.out; have := HJ1.out; omega⟩, ⟨HB.out⟩⟩
       ·rw [if_neg c6] at H
        exact absurd H (by simp)
      ·rw [if_neg c5] at H
       exact absurd H (by simp)
     ·replace c4 := Bool.eq_false_iff.mpr c4
      subst c4
      rw [if_neg (show ¬ (false = true) by decide)] at H
      have HC12 := Aside0.mk H
      clear H
      go_upto_region 9 with (fail)
      go_cut [44] (fun v44 wc => ∃ (kq : Nat) (x44_11 : Bool), v44 = .bool x44_11 ∧ Aside0 (spec_ParseInt.j2 kq a0 x4_1 x5_1 x44_11 = some (r1, r2)) ∧ Aside0 (kq ≤ kj1) ∧ Aside0 (Below w.heap.size w wc))
      case first =>
       have H := HC12.out
       clear HC12
       by_cases c13 : (a0.size : Int) > 0
       ·rw [if_pos c13] at H
        have c13b0 : decide (0 < (a0.size : Int)) = true := decide_eq_true c13
        have c13b1 : decide (0 < a0.size) = true := decide_eq_true (by omega)
        clear c13
        (skip)
        by_cases c14 : 0 < (a0.size : Int)
        ·rw [if_pos c14] at H
         have c14b0 : decide (0 < (a0.size : Int)) = true := decide_eq_true c14
         have c14b1 : decide (0 < a0.size) = true := decide_eq_true (by omega)
         clear c14
         have H' := Aside0.mk H
         clear H
         have p15 : 0 ≤ (0 : Int) := (by omega)
         have q15 : 0 < a0.size := (by have : (0 : Int) < (a0.size : Int) := of_decide_eq_true (by (with_reducible assumption)); omega)
         have hx15 : ∀ h : 0 < a0.size, ((a0[0]'h).toNat : Int) = bt a0 0 := bt_at a0 0
         clear p15
         have qi15 : (0 < (a0.size : Int)) = True := eq_true (of_decide_eq_true (by (with_reducible assumption)))
         replace q15 := eq_true q15
         go_wp2
         go_meet
         case rel => exact ⟨_, (((bt a0 0) == 45)), rfl, H', ⟨by have := HK1.out; have := HJ1.out; omega⟩, ⟨HB.out⟩⟩
        ·rw [if_neg c14] at H
         exact absurd H (by simp)
       ·rw [if_neg c13] at H
        have c13b0 : decide (0 < (a0.size : Int)) = false := decide_eq_false c13
        have c13b1 : decide (0 < a0.size) = false := decide_eq_false (by omega)
        clear c13
        (skip)
        have H' := Aside0.mk H
        clear H
        go_wp2
        go_meet
        case rel => exact ⟨_, (false), rfl, H', ⟨by have := HK1.out; have := HJ1.out; omega⟩, ⟨HB.out⟩⟩
      case rest =>
       clear HC12
       obtain ⟨kq, x44_11, rfl, HA, HJ11, HB⟩ := hcut
       cases kq with
       | zero => exact absurd HA.out (by simp [spec_ParseInt.j2])
       | succ kj11 =>
        have H := HA.out
        clear HA
        simp only [spec_ParseInt.j2] at H
        by_cases c16 : x44_11 = true
        ·subst c16
         rw [if_pos rfl] at H
         by_cases c17 : x5_1 > 9
         ·rw [if_pos c17] at H
          have c17b0 : decide (9 < x5_1) = true := decide_eq_true c17
          clear c17
          simp only [Option.some.injEq, Prod.mk.injEq] at H
          obtain ⟨rfl, rfl⟩ := H
          go_wp2
          go_ret2
          exact ⟨rfl, HB.out⟩
         ·rw [if_neg c17] at H
          have c17b0 : decide (9 < x5_1) = false := decide_eq_false c17
          clear c17
          by_cases c18 : (a0.size : Int) > 10
          ·rw [if_pos c18] at H
           have c18b0 : decide (10 < (a0.size : Int)) = true := decide_eq_true c18
           have c18b1 : decide (10 < a0.size) = true := decide_eq_true (by omega)
           clear c18
           simp only [Option.some.injEq, Prod.mk.injEq] at H
           obtain ⟨rfl, rfl⟩ := H
           go_wp2
           go_ret2
           exact ⟨rfl, HB.out⟩
          ·rw [if_neg c18] at H
           have c18b0 : decide (10 < (a0.size : Int)) = false := decide_eq_false c18
           have c18b1 : decide (10 < a0.size) = false := decide_eq_false (by omega)
           clear c18
           replace H := Option.bind_eq_some_iff.mp H
           obtain ⟨t1121, A190, H⟩ := H
           have A19 := Aside0.mk A190
           clear A190
           by_cases c20 : t1121.toList = a0.toList
           ·rw [if_pos c20] at H
            have c20b0 : (t1121.toList == a0.toList) = true := beq_iff_eq.mpr c20
            have c20b1 : (t1121.toList != a0.toList) = false := bne_eq_false_iff_eq.mpr c20
            clear c20
            simp only [Option.some.injEq, Prod.mk.injEq] at H
            obtain ⟨rfl, rfl⟩ := H
            go_wp2_with ((go_at_call 184; (with_reducible refine (spec_FormatInt.calls kj11 (wrap64 (-x4_1)) t1121 _ A19.out).mono ?_); rintro e w21 ⟨rfl, hb⟩; have n0_ := Aside0.mk (below_step HB.out hb); clear HB; have HB := n0_; clear n0_; (try clear hb)))
            go_ret2
            exact ⟨rfl, HB.out⟩
           ·rw [if_neg c20] at H
            have c20b0 : (t1121.toList == a0.toList) = false := beq_eq_false_iff_ne.mpr c20
            have c20b1 : (t1121.toList != a0.toList) = true := bne_iff_ne.mpr c20
            simp only [Option.some.injEq, Prod.mk.injEq] at H
            obtain ⟨rfl, rfl⟩ := H
            go_wp2_with ((go_at_call 184; (with_reducible refine (spec_FormatInt.calls kj11 (wrap64 (-x4_1)) t1121 _ A19.out).mono ?_); rintro e w22 ⟨rfl, hb⟩; have n0_ := Aside0.mk (below_step HB.out hb); clear HB; have HB := n0_; clear n0_; (try clear hb)))
            go_ret2
            exact ⟨rfl, HB.out⟩
        ·replace c16 := Bool.eq_false_iff.mpr c16
         subst c16
         rw [if_neg (show ¬ (false = true) by decide)] at H
         by_cases c23 : x5_1 > 9
         ·rw [if_pos c23] at H
          have c23b0 : decide (9 < x5_1) = true := decide_eq_true c23
          clear c23
          simp only [Option.some.injEq, Prod.mk.injEq] at H
          obtain ⟨rfl, rfl⟩ := H
          go_wp2
          go_ret2
          exact ⟨rfl, HB.out⟩
         ·rw [if_neg c23] at H
          have c23b0 : decide (9 < x5_1) = false := decide_eq_false c23
          clear c23
          by_cases c24 : (a0.size : Int) > 10
          ·rw [if_pos c24] at H
           have c24b0 : decide (10 < (a0.size : Int)) = true := decide_eq_true c24
           have c24b1 : decide (10 < a0.size) = true := decide_eq_true (by omega)
           clear c24
           simp only [Option.some.injEq, Prod.mk.injEq] at H
           obtain ⟨rfl, rfl⟩ := H
           go_wp2
           go_ret2
           exact ⟨rfl, HB.out⟩
          ·rw [if_neg c24] at H
           have c24b0 : decide (10 < (a0.size : Int)) = false := decide_eq_false c24
           have c24b1 : decide (10 < a0.size) = false := decide_eq_false (by omega)
           clear c24
           replace H := Option.bind_eq_some_iff.mp H
           obtain ⟨t1122, A250, H⟩ := H
           have A25 := Aside0.mk A250
           clear A250
           by_cases c26 : t1122.toList = a0.toList
           ·rw [if_pos c26] at H
            have c26b0 : (t1122.toList == a0.toList) = true := beq_iff_eq.mpr c26
            have c26b1 : (t1122.toList != a0.toList) = false := bne_eq_false_iff_eq.mpr c26
            clear c26
            simp only [Option.some.injEq, Prod.mk.injEq] at H
            obtain ⟨rfl, rfl⟩ := H
            go_wp2_with ((go_at_call 184; (with_reducible refine (spec_FormatInt.calls kj11 x4_1 t1122 _ A25.out).mono ?_); rintro e w27 ⟨rfl, hb⟩; have n0_ := Aside0.mk (below_step HB.out hb); clear HB; have HB := n0_; clear n0_; (try clear hb)))
            go_ret2
            exact ⟨rfl, HB.out⟩
           ·rw [if_neg c26] at H
            have c26b0 : (t1122.toList == a0.toList) = false := beq_eq_false_iff_ne.mpr c26
            have c26b1 : (t1122.toList != a0.toList) = true := bne_iff_ne.mpr c26
            simp only [Option.some.injEq, Prod.mk.injEq] at H
            obtain ⟨rfl, rfl⟩ := H
            go_wp2_with ((go_at_call 184; (with_reducible refine (spec_FormatInt.calls kj11 x4_1 t1122 _ A25.out).mono ?_); rintro e w28 ⟨rfl, hb⟩; have n0_ := Aside0.mk (below_step HB.out hb); clear HB; have HB := n0_; clear n0_; (try clear hb)))
            go_ret2
            exact ⟨rfl, HB.out⟩

def spec_l1In.f (a0 : Int) (a1 : Int) (a2 : Int) : Option (Bool) := if a0 ≥ a1 then (some (decide (a0 ≤ a2))) else (some false)
theorem spec_l1In.calls (a0 : Int) (a1 : Int) (a2 : Int) (r : Bool) (w : World) (h : spec_l1In.f a0 a1 a2 = some r) :
  Calls Try.prog 119 #[.int .i64 a0, .int .i64 a1, .int .i64 a2] w fun e w' => e = .returned (.bool r) ∧ Drawn0 w w' := by
 have H : (if a0 ≥ a1 then (some (decide (a0 ≤ a2))) else (some false)) = some r := h
 clear h
 by_cases c4 : a0 ≥ a1
 ·rw [if_pos c4] at H
  have c4b0 : decide (a1 ≤ a0) = true := decide_eq_true c4
  clear c4
  obtain rfl := Option.some.inj H
  go_enter Try.func119, Try.ntmps119
  go_wp2
  go_ret
  exact ⟨rfl, by repeat (exact Drawn0.refl _)⟩
 ·rw [if_neg c4] at H
  have c4b0 : decide (a1 ≤ a0) = false := decide_eq_false c4
  clear c4
  obtain rfl := Option.some.inj H
  go_enter Try.func119, Try.ntmps119
  go_wp2
  go_ret
  exact ⟨rfl, by repeat (exact Drawn0.refl _)⟩

def spec_IsValidRow.f (a0_0 : Int) (a0_1 : Int) (a0_2 : Int) : Option (Bool) := (spec_l1In.f a0_0 0 9).bind fun t265 => (if t265 = true then ((spec_l1In.f a0_1 0 99).bind fun t266 => (if t266 = true then ((spec_l1In.f a0_2 0 3).bind fun t267 => (some t267)) else (some false))) else (some false))
theorem spec_IsValidRow.calls (a0_0 : Int) (a0_1 : Int) (a0_2 : Int) (r : Bool) (w : World) (h : spec_IsValidRow.f a0_0 a0_1 a0_2 = some r) :
  Calls Try.prog 147 #[.agg #[.int .i64 a0_0, .int .i64 a0_1, .int .i64 a0_2]] w fun e w' => e = .returned (.bool r) ∧ Below w.heap.size w w' := by
 have hu60 := Try.underlying60
 have HB := Aside0.mk (Below.refl w.heap.size w)
 have H : ((spec_l1In.f a0_0 0 9).bind fun t265 => (if t265 = true then ((spec_l1In.f a0_1 0 99).bind fun t266 => (if t266 = true then ((spec_l1In.f a0_2 0 3).bind fun t267 => (some t267)) else (some false))) else (some false))) = some r := h
 clear h
 replace H := Option.bind_eq_some_iff.mp H
 obtain ⟨t265, A20, H⟩ := H
 have A2 := Aside0.mk A20
 clear A20
 by_cases c3 : t265 = true
 ·subst c3
  rw [if_pos rfl] at H
  replace H := Option.bind_eq_some_iff.mp H
  obtain ⟨t266, A40, H⟩ := H
  have A4 := Aside0.mk A40
  clear A40
  by_cases c5 : t266 = true
  ·subst c5
   rw [if_pos rfl] at H
   replace H := Option.bind_eq_some_iff.mp H
   obtain ⟨t267, A60, H⟩ := H
   have A6 := Aside0.mk A60
   clear A60
   obtain rfl := Option.some.inj H
   go_enter Try.func147, Try.ntmps147
   go_wp2_with (first | ((with_reducible refine gate_dst (N := 1) rfl ?_); refine box_event ?hg (N := 1) ?hd (cs := #[.int .i64 a0_0, .int .i64 a0_1, .int .i64 a0_2]) (t := 60) ?hr ?_; (case hd => rfl); (case hg => rfl); (case hr => (go_simp; done)); intro gb264 hg w7 hbox hb; have n0_ := Aside0.mk (below_step HB.out hb); have n1_ := Aside0.mk (hbox); have n2_ := Aside0.mk ((by rw [hg]; exact (below_size HB.out) : w.heap.size ≤ gb264)); have n3_ := Aside0.mk ((by rw [hg]; exact (below_size HB.out) : w.heap.size ≤ gb264)); clear HB; have HB := n0_; have BK264 := n1_; have GW264 := n2_; have GE264 := n3_; clear n0_ n1_ n2_ n3_; clear hb hbox hg; have hcz8_0 : w7.cell? ⟨gb264, 0, none⟩ = some (.int .i64 a0_0) := (blk_cell BK264.out 0).trans rfl; have hcz8_1 : w7.cell? ⟨gb264, 1, none⟩ = some (.int .i64 a0_1) := (blk_cell BK264.out 1).trans rfl; have hcz8_2 : w7.cell? ⟨gb264, 2, none⟩ = some (.int .i64 a0_2) := (blk_cell BK264.out 2).trans rfl; have hfz8_0 := blk_frozen BK264.out 0; have hfz8_1 := blk_frozen BK264.out 1; have hfz8_2 := blk_frozen BK264.out 2) | ((with_reducible refine gate_callee (f := 119) rfl ?_); refine goesL_ (some 5) rfl rfl Try.func119 (by kernel_rfl) rfl #[.int .i64 a0_0, .int .i64 0, .int .i64 9] rfl (by (try simp only [List.map_toArray, List.map_cons, List.map_nil]); rfl) ?_; (with_reducible refine (spec_l1In.calls a0_0 0 9 true _ A2.out).mono ?_); rintro e w' ⟨rfl, ⟨nd, rfl⟩⟩; refine ⟨_, rfl, ?_⟩) | (go_at_call 119; (with_reducible refine (spec_l1In.calls a0_1 0 99 true _ A4.out).mono ?_); rintro e w' ⟨rfl, ⟨nd, rfl⟩⟩) | (go_at_call 119; (with_reducible refine (spec_l1In.calls a0_2 0 3 t267 _ A6.out).mono ?_); rintro e w' ⟨rfl, ⟨nd, rfl⟩⟩))
   go_ret
   exact ⟨rfl, by repeat ((with_reducible first | exact HB.out | apply pw_below_drewN))⟩
  ·replace c5 := Bool.eq_false_iff.mpr c5
   subst c5
   rw [if_neg (show ¬ (false = true) by decide)] at H
   obtain rfl := Option.some.inj H
   go_enter Try.func147, Try.ntmps147
   go_wp2_with (first | ((with_reducible refine gate_dst (N := 1) rfl ?_); refine box_event ?hg (N := 1) ?hd (cs := #[.int .i64 a0_0, .int .i64 a0_1, .int .i64 a0_2]) (t := 60) ?hr ?_; (case hd => rfl); (case hg => rfl); (case hr => (go_simp; done)); intro gb264 hg w9 hbox hb; have n0_ := Aside0.mk (below_step HB.out hb); have n1_ := Aside0.mk (hbox); have n2_ := Aside0.mk ((by rw [hg]; exact (below_size HB.out) : w.heap.size ≤ gb264)); have n3_ := Aside0.mk ((by rw [hg]; exact (below_size HB.out) : w.heap.size ≤ gb264)); clear HB; have HB := n0_; have BK264 := n1_; have GW264 := n2_; have GE264 := n3_; clear n0_ n1_ n2_ n3_; clear hb hbox hg; have hcz10_0 : w9.cell? ⟨gb264, 0, none⟩ = some (.int .i64 a0_0) := (blk_cell BK264.out 0).trans rfl; have hcz10_1 : w9.cell? ⟨gb264, 1, none⟩ = some (.int .i64 a0_1) := (blk_cell BK264.out 1).trans rfl; have hcz10_2 : w9.cell? ⟨gb264, 2, none⟩ = some (.int .i64 a0_2) := (blk_cell BK264.out 2).trans rfl; have hfz10_0 := blk_frozen BK264.out 0; have hfz10_1 := blk_frozen BK264.out 1; have hfz10_2 := blk_frozen BK264.out 2) | ((with_reducible refine gate_callee (f := 119) rfl ?_); refine goesL_ (some 5) rfl rfl Try.func119 (by kernel_rfl) rfl #[.int .i64 a0_0, .int .i64 0, .int .i64 9] rfl (by (try simp only [List.map_toArray, List.map_cons, List.map_nil]); rfl) ?_; (with_reducible refine (spec_l1In.calls a0_0 0 9 true _ A2.out).mono ?_); rintro e w' ⟨rfl, ⟨nd, rfl⟩⟩; refine ⟨_, rfl, ?_⟩) | (go_at_call 119; (with_reducible refine (spec_l1In.calls a0_1 0 99 false _ A4.out).mono ?_); rintro e w' ⟨rfl, ⟨nd, rfl⟩⟩))
   go_ret
   exact ⟨rfl, by repeat ((with_reducible first | exact HB.out | apply pw_below_drewN))⟩
 ·replace c3 := Bool.eq_false_iff.mpr c3
  subst c3
  rw [if_neg (show ¬ (false = true) by decide)] at H
  obtain rfl := Option.some.inj H
  go_enter Try.func147, Try.ntmps147
  go_wp2_with (first | ((with_reducible refine gate_dst (N := 1) rfl ?_); refine box_event ?hg (N := 1) ?hd (cs := #[.int .i64 a0_0, .int .i64 a0_1, .int .i64 a0_2]) (t := 60) ?hr ?_; (case hd => rfl); (case hg => rfl); (case hr => (go_simp; done)); intro gb264 hg w11 hbox hb; have n0_ := Aside0.mk (below_step HB.out hb); have n1_ := Aside0.mk (hbox); have n2_ := Aside0.mk ((by rw [hg]; exact (below_size HB.out) : w.heap.size ≤ gb264)); have n3_ := Aside0.mk ((by rw [hg]; exact (below_size HB.out) : w.heap.size ≤ gb264)); clear HB; have HB := n0_; have BK264 := n1_; have GW264 := n2_; have GE264 := n3_; clear n0_ n1_ n2_ n3_; clear hb hbox hg; have hcz12_0 : w11.cell? ⟨gb264, 0, none⟩ = some (.int .i64 a0_0) := (blk_cell BK264.out 0).trans rfl; have hcz12_1 : w11.cell? ⟨gb264, 1, none⟩ = some (.int .i64 a0_1) := (blk_cell BK264.out 1).trans rfl; have hcz12_2 : w11.cell? ⟨gb264, 2, none⟩ = some (.int .i64 a0_2) := (blk_cell BK264.out 2).trans rfl; have hfz12_0 := blk_frozen BK264.out 0; have hfz12_1 := blk_frozen BK264.out 1; have hfz12_2 := blk_frozen BK264.out 2) | ((with_reducible refine gate_callee (f := 119) rfl ?_); refine goesL_ (some 5) rfl rfl Try.func119 (by kernel_rfl) rfl #[.int .i64 a0_0, .int .i64 0, .int .i64 9] rfl (by (try simp only [List.map_toArray, List.map_cons, List.map_nil]); rfl) ?_; (with_reducible refine (spec_l1In.calls a0_0 0 9 false _ A2.out).mono ?_); rintro e w' ⟨rfl, ⟨nd, rfl⟩⟩; refine ⟨_, rfl, ?_⟩))
  go_ret
  exact ⟨rfl, by repeat ((with_reducible first | exact HB.out | apply pw_below_drewN))⟩

def spec_AreValidRows.l0 : Nat → List (S60) → Int → Option (Bool)
 | 0, _, _ => none
 | k + 1, x0, x3 => if x3 < (x0.length : Int) then (if 0 ≤ x3 then ((spec_IsValidRow.f ((rd_T60 x0 x3).f0) ((rd_T60 x0 x3).f1) ((rd_T60 x0 x3).f2)).bind fun t503 => (if t503 = true then (spec_AreValidRows.l0 k x0 (wrap64 (x3 + 1))) else (some false))) else (none)) else (some (decide ((x0.length : Int) ≤ 24)))
def spec_AreValidRows.f (k : Nat) (l0 : List (S60)) : Option (Bool) := spec_AreValidRows.l0 k l0 0
theorem spec_AreValidRows.calls (k : Nat) (A0 : Option Addr) (c0 : Nat) (l0 : List (S60)) (r : Bool) (w : World) (hr0 : Kd.C k60 w A0 l0.length l0) (hc0 : l0.length ≤ c0) (h : spec_AreValidRows.f k l0 = some r) :
  Calls Try.prog 46 #[.slice A0 l0.length c0] w fun e w' => e = .returned (.bool r) ∧ Below w.heap.size w w' := by
 have hu60 := Try.underlying60
 have HR0 := Aside0.mk hr0
 have HC0 := Aside0.mk hc0
 clear hr0 hc0
 have HB := Aside0.mk (Below.refl w.heap.size w)
 have H : (spec_AreValidRows.l0 k l0 0) = some r := h
 clear h
 have H' := Aside0.mk H
 clear H
 go_enter Try.func46, Try.ntmps46
 go_wp2
 go_loopg [3] k (fun kq v3 w' => ∃ (x3_1 : Int), v3 = .int .i64 x3_1 ∧ Aside0 (spec_AreValidRows.l0 kq l0 x3_1 = some r) ∧ Aside0 (kq ≤ k) ∧ Aside0 (Below w.heap.size w w'))
 case atStart => exact ⟨(0), rfl, H', ⟨Nat.le_refl _⟩, ⟨HB.out⟩⟩
 case round =>
  clear H'
  obtain ⟨x3_1, rfl, HA, HK1, HB⟩ := hrel
  cases gk with
  | zero => exact absurd HA.out (by simp [spec_AreValidRows.l0])
  | succ k1 =>
   have H := HA.out
   clear HA
   simp only [spec_AreValidRows.l0] at H
   by_cases c2 : x3_1 < (l0.length : Int)
   ·rw [if_pos c2] at H
    have c2b0 : decide (x3_1 < (l0.length : Int)) = true := decide_eq_true c2
    clear c2
    by_cases c3 : 0 ≤ x3_1
    ·rw [if_pos c3] at H
     have c3b0 : decide (0 ≤ x3_1) = true := decide_eq_true c3
     clear c3
     replace H := Option.bind_eq_some_iff.mp H
     obtain ⟨t503, A40, H⟩ := H
     have A4 := Aside0.mk A40
     clear A40
     by_cases c5 : t503 = true
     ·subst c5
      rw [if_pos rfl] at H
      have H' := Aside0.mk H
      clear H
      have p502 : 0 ≤ (x3_1 : Int) := of_decide_eq_true (by (with_reducible assumption))
      have q502 : x3_1 < (l0.length : Int) := of_decide_eq_true (by (with_reducible assumption))
      obtain ⟨ad502, e502, hx502_0, hx502_1, hx502_2⟩ := at_T60 HR0.out x3_1 p502 q502
      cases e502
      replace hx502_0 := (HB.out.cell (World.block_lt_of_cell? w _ hx502_0)).trans hx502_0
      replace hx502_1 := (HB.out.cell (World.block_lt_of_cell? w _ hx502_1)).trans hx502_1
      replace hx502_2 := (HB.out.cell (World.block_lt_of_cell? w _ hx502_2)).trans hx502_2
      replace p502 := eq_true p502
      replace q502 := eq_true q502
      go_wp2_with (((with_reducible refine gate_callee (f := 147) rfl ?_); refine goesL_ (some 14) rfl rfl Try.func147 (by kernel_rfl) rfl #[.agg #[.int .i64 ((rd_T60 l0 x3_1).f0), .int .i64 ((rd_T60 l0 x3_1).f1), .int .i64 ((rd_T60 l0 x3_1).f2)]] rfl (by (try simp only [List.map_toArray, List.map_cons, List.map_nil]); rfl) ?_; (with_reducible refine (spec_IsValidRow.calls ((rd_T60 l0 x3_1).f0) ((rd_T60 l0 x3_1).f1) ((rd_T60 l0 x3_1).f2) true _ A4.out).mono ?_); rintro e w6 ⟨rfl, hb⟩; refine ⟨_, rfl, ?_⟩; have n0_ := Aside0.mk (below_step HB.out hb); clear HB; have HB := n0_; clear n0_; (try clear hb)))
      go_roundg k1
      case measure => have := HK1.out; omega
      case rel => exact ⟨(wrap64 (x3_1 + 1)), rfl, H', ⟨by have := HK1.out; omega⟩, ⟨HB.out⟩⟩
     ·replace c5 := Bool.eq_false_iff.mpr c5
      subst c5
      rw [if_neg (show ¬ (false = true) by decide)] at H
      obtain rfl := Option.some.inj H
      have p502 : 0 ≤ (x3_1 : Int) := of_decide_eq_true (by (with_reducible assumption))
      have q502 : x3_1 < (l0.length : Int) := of_decide_eq_true (by (with_reducible assumption))
      obtain ⟨ad502, e502, hx502_0, hx502_1, hx502_2⟩ := at_T60 HR0.out x3_1 p502 q502
      cases e502
      replace hx502_0 := (HB.out.cell (World.block_lt_of_cell? w _ hx502_0)).trans hx502_0
      replace hx502_1 := (HB.out.cell (World.block_lt_of_cell? w _ hx502_1)).trans hx502_1
      replace hx502_2 := (HB.out.cell (World.block_lt_of_cell? w _ hx502_2)).trans hx502_2
      replace p502 := eq_true p502
      replace q502 := eq_true q502
      go_wp2_with (((with_reducible refine gate_callee (f := 147) rfl ?_); refine goesL_ (some 14) rfl rfl Try.func147 (by kernel_rfl) rfl #[.agg #[.int .i64 ((rd_T60 l0 x3_1).f0), .int .i64 ((rd_T60 l0 x3_1).f1), .int .i64 ((rd_T60 l0 x3_1).f2)]] rfl (by (try simp only [List.map_toArray, List.map_cons, List.map_nil]); rfl) ?_; (with_reducible refine (spec_IsValidRow.calls ((rd_T60 l0 x3_1).f0) ((rd_T60 l0 x3_1).f1) ((rd_T60 l0 x3_1).f2) false _ A4.out).mono ?_); rintro e w7 ⟨rfl, hb⟩; refine ⟨_, rfl, ?_⟩; have n0_ := Aside0.mk (below_step HB.out hb); clear HB; have HB := n0_; clear n0_; (try clear hb)))
      go_ret
      exact ⟨rfl, HB.out⟩
    ·rw [if_neg c3] at H
     exact absurd H (by simp)
   ·rw [if_neg c2] at H
    have c2b0 : decide (x3_1 < (l0.length : Int)) = false := decide_eq_false c2
    clear c2
    obtain rfl := Option.some.inj H
    go_wp2
    go_ret
    exact ⟨rfl, HB.out⟩

def spec_FormatRow.f (k : Nat) (a0_0 : Int) (a0_1 : Int) (a0_2 : Int) : Option (ByteArray) := (spec_IsValidRow.f a0_0 a0_1 a0_2).bind fun t1124 => (if t1124 = true then ((spec_FormatInt.f k a0_0).bind fun t1125 => (if t1125.size + 1 ≤ 9223372036854775807 then ((spec_FormatInt.f k a0_1).bind fun t1126 => (if (t1125 ++ (⟨#[46]⟩ : ByteArray)).size + t1126.size ≤ 9223372036854775807 then (if ((t1125 ++ (⟨#[46]⟩ : ByteArray)) ++ t1126).size + 1 ≤ 9223372036854775807 then ((spec_FormatInt.f k a0_2).bind fun t1127 => (if (((t1125 ++ (⟨#[46]⟩ : ByteArray)) ++ t1126) ++ (⟨#[46]⟩ : ByteArray)).size + t1127.size ≤ 9223372036854775807 then (some ((((t1125 ++ (⟨#[46]⟩ : ByteArray)) ++ t1126) ++ (⟨#[46]⟩ : ByteArray)) ++ t1127)) else (none))) else (none)) else (none))) else (none))) else (some (⟨#[]⟩ : ByteArray)))
def spec_FormatRow.T3 : Bool × List (List Nat × List Nat) := (true, [([], []), ([0], [0]), ([1], [1]), ([2], [2]), ([], []), ([4], [4]), ([5, 2], [5]), ([3, 6], [3, 6]), ([7], [7]), ([], []), ([9], [9]), ([10, 6], [10]), ([8, 11], [8, 11]), ([12, 11, 0, 1, 2, 3, 4, 5, 6, 7, 8, 9, 10, 11, 12], [12])])
def spec_FormatRow.B3 : List Nat := [0, 1, 3, 7, 0, 16, 55, 127, 255, 0, 512, 1655, 4095, 8191]
theorem spec_FormatRow.tab3 : rtab .any (opsOf Try.f198 3) = spec_FormatRow.T3 := by kernel_rfl
theorem spec_FormatRow.bits3 : waitsOk spec_FormatRow.T3.2 spec_FormatRow.B3 = true := by kernel_rfl
theorem spec_FormatRow.calls (k : Nat) (a0_0 : Int) (a0_1 : Int) (a0_2 : Int) (r : ByteArray) (w : World) (h : spec_FormatRow.f k a0_0 a0_1 a0_2 = some r) :
  Calls Try.prog 198 #[.agg #[.int .i64 a0_0, .int .i64 a0_1, .int .i64 a0_2]] w fun e w' => e = .returned (.string r) ∧ Below w.heap.size w w' := by
 have hu60 := Try.underlying60
 have HB := Aside0.mk (Below.refl w.heap.size w)
 have H : ((spec_IsValidRow.f a0_0 a0_1 a0_2).bind fun t1124 => (if t1124 = true then ((spec_FormatInt.f k a0_0).bind fun t1125 => (if t1125.size + 1 ≤ 9223372036854775807 then ((spec_FormatInt.f k a0_1).bind fun t1126 => (if (t1125 ++ (⟨#[46]⟩ : ByteArray)).size + t1126.size ≤ 9223372036854775807 then (if ((t1125 ++ (⟨#[46]⟩ : ByteArray)) ++ t1126).size + 1 ≤ 9223372036854775807 then ((spec_FormatInt.f k a0_2).bind fun t1127 => (if (((t1125 ++ (⟨#[46]⟩ : ByteArray)) ++ t1126) ++ (⟨#[46]⟩ : ByteArray)).size + t1127.size ≤ 9223372036854775807 then (some ((((t1125 ++ (⟨#[46]⟩ : ByteArray)) ++ t1126) ++ (⟨#[46]⟩ : ByteArray)) ++ t1127)) else (none))) else (none)) else (none))) else (none))) else (some (⟨#[]⟩ : ByteArray)))) = some r := h
 clear h
 replace H := Option.bind_eq_some_iff.mp H
 obtain ⟨t1124, A20, H⟩ := H
 have A2 := Aside0.mk A20
 clear A20
 by_cases c3 : t1124 = true
 ·subst c3
  rw [if_pos rfl] at H
  replace H := Option.bind_eq_some_iff.mp H
  obtain ⟨t1125, A40, H⟩ := H
  have A4 := Aside0.mk A40
  clear A40
  by_cases c5 : t1125.size + 1 ≤ 9223372036854775807
  ·rw [if_pos c5] at H
   have c5b0 := eq_true c5
   have c5b1 : decide (t1125.size + 1 ≤ 9223372036854775807) = true := decide_eq_true c5
   try have c5b2 : (9223372036854775807 < t1125.size + 1) = False := eq_false (Nat.not_lt.2 c5)
   replace H := Option.bind_eq_some_iff.mp H
   obtain ⟨t1126, A60, H⟩ := H
   have A6 := Aside0.mk A60
   clear A60
   by_cases c7 : (t1125 ++ (⟨#[46]⟩ : ByteArray)).size + t1126.size ≤ 9223372036854775807
   ·rw [if_pos c7] at H
    have c7b0 := eq_true c7
    have c7b1 : decide ((t1125 ++ (⟨#[46]⟩ : ByteArray)).size + t1126.size ≤ 9223372036854775807) = true := decide_eq_true c7
    try have c7b3 : (9223372036854775807 < t1125.size + 1 + t1126.size) = False := eq_false (by have h_ := c7; simp only [ByteArray.size_append] at h_; (exact Nat.not_lt.2 h_))
    try have c7b2 : (9223372036854775807 < (t1125 ++ (⟨#[46]⟩ : ByteArray)).size + t1126.size) = False := eq_false (Nat.not_lt.2 c7)
    by_cases c8 : ((t1125 ++ (⟨#[46]⟩ : ByteArray)) ++ t1126).size + 1 ≤ 9223372036854775807
    ·rw [if_pos c8] at H
     have c8b0 := eq_true c8
     have c8b1 : decide (((t1125 ++ (⟨#[46]⟩ : ByteArray)) ++ t1126).size + 1 ≤ 9223372036854775807) = true := decide_eq_true c8
     try have c8b3 : (9223372036854775807 < t1125.size + 1 + t1126.size + 1) = False := eq_false (by have h_ := c8; simp only [ByteArray.size_append] at h_; (exact Nat.not_lt.2 h_))
     try have c8b2 : (9223372036854775807 < ((t1125 ++ (⟨#[46]⟩ : ByteArray)) ++ t1126).size + 1) = False := eq_false (Nat.not_lt.2 c8)
     replace H := Option.bind_eq_some_iff.mp H
     obtain ⟨t1127, A90, H⟩ := H
     have A9 := Aside0.mk A90
     clear A90
     by_cases c10 : (((t1125 ++ (⟨#[46]⟩ : ByteArray)) ++ t1126) ++ (⟨#[46]⟩ : ByteArray)).size + t1127.size ≤ 9223372036854775807
     ·rw [if_pos c10] at H
      have c10b0 := eq_true c10
      have c10b1 : decide ((((t1125 ++ (⟨#[46]⟩ : ByteArray)) ++ t1126) ++ (⟨#[46]⟩ : ByteArray)).size + t1127.size ≤ 9223372036854775807) = true := decide_eq_true c10
      try have c10b3 : (9223372036854775807 < t1125.size + 1 + t1126.size + 1 + t1127.size) = False := eq_false (by have h_ := c10; simp only [ByteArray.size_append] at h_; (exact Nat.not_lt.2 h_))
      try have c10b2 : (9223372036854775807 < (((t1125 ++ (⟨#[46]⟩ : ByteArray)) ++ t1126) ++ (⟨#[46]⟩ : ByteArray)).size + t1127.size) = False := eq_false (Nat.not_lt.2 c10)
      obtain rfl := Option.some.inj H
      go_enter Try.func198, Try.ntmps198
      try go_wp2_with (first | ((with_reducible refine gate_dst (N := 1) rfl ?_); refine box_event ?hg (N := 1) ?hd (cs := #[.int .i64 a0_0, .int .i64 a0_1, .int .i64 a0_2]) (t := 60) ?hr ?_; (case hd => rfl); (case hg => rfl); (case hr => (go_simp; done)); intro gb1123 hg w11 hbox hb; have n0_ := Aside0.mk (below_step HB.out hb); have n1_ := Aside0.mk (hbox); have n2_ := Aside0.mk ((by rw [hg]; exact (below_size HB.out) : w.heap.size ≤ gb1123)); have n3_ := Aside0.mk ((by rw [hg]; exact (below_size HB.out) : w.heap.size ≤ gb1123)); clear HB; have HB := n0_; have BK1123 := n1_; have GW1123 := n2_; have GE1123 := n3_; clear n0_ n1_ n2_ n3_; clear hb hbox hg; have hcz12_0 : w11.cell? ⟨gb1123, 0, none⟩ = some (.int .i64 a0_0) := (blk_cell BK1123.out 0).trans rfl; have hcz12_1 : w11.cell? ⟨gb1123, 1, none⟩ = some (.int .i64 a0_1) := (blk_cell BK1123.out 1).trans rfl; have hcz12_2 : w11.cell? ⟨gb1123, 2, none⟩ = some (.int .i64 a0_2) := (blk_cell BK1123.out 2).trans rfl; have hfz12_0 := blk_frozen BK1123.out 0; have hfz12_1 := blk_frozen BK1123.out 1; have hfz12_2 := blk_frozen BK1123.out 2) | ((with_reducible refine gate_callee (f := 147) rfl ?_); refine goesL_ (some 4) rfl rfl Try.func147 (by kernel_rfl) rfl #[.agg #[.int .i64 a0_0, .int .i64 a0_1, .int .i64 a0_2]] rfl (by (try simp only [List.map_toArray, List.map_cons, List.map_nil]); rfl) ?_; (with_reducible refine (spec_IsValidRow.calls a0_0 a0_1 a0_2 true _ A2.out).mono ?_); rintro e w13 ⟨rfl, hb⟩; refine ⟨_, rfl, ?_⟩; have n0_ := Aside0.mk (blk_below (g := gb1123) (o := .cells #[.int .i64 a0_0, .int .i64 a0_1, .int .i64 a0_2] 60 (0, 0)) BK1123.out hb); have n1_ := Aside0.mk (below_step HB.out hb); clear BK1123; clear HB; have BK1123 := n0_; have HB := n1_; clear n0_ n1_; (try clear hb)))
      have n0_ := Aside0.mk (blk_drew BK1123.out)
      have n1_ := Aside0.mk (below_drew1 HB.out)
      clear BK1123
      clear HB
      have BK1123 := n0_
      have HB := n1_
      clear n0_ n1_
      refine start_ (n := 14) (S := fun w' => w'.cell? ⟨gb1123, 0, none⟩ = some (.int .i64 a0_0) ∧ w'.cell? ⟨gb1123, 1, none⟩ = some (.int .i64 a0_1) ∧ w'.cell? ⟨gb1123, 2, none⟩ = some (.int .i64 a0_2)) (ds := []) #[false, false, false, false, false, false, false, false, false, false, false, false, false, false] (by kernel_rfl) rfl rfl ⟨(blk_cell BK1123.out 0).trans rfl, (blk_cell BK1123.out 1).trans rfl, (blk_cell BK1123.out 2).trans rfl⟩ (fun hHeld => ?_); refine with_tabW spec_FormatRow.tab3 spec_FormatRow.bits3 (fun HT_ HW_ => ?_)
      generalize w13.drew = w14 at BK1123 HB hHeld ⊢
      refine pure_ (i := 0) (N := some 6) (v := ?_) (a' := ?_) #[true, false, false, false, false, false, false, false, false, false, false, false, false, false] rfl rfl (any_of HT_.out (by kernel_rfl)) (fun _ _ _ h => h) (Or.inl ⟨rfl, ?_⟩) ?_ ?_
      rotate_left
      ·intro w'
       go_simp
       with_reducible rfl
      rotate_left
      ·simp only [Act.put, List.setIfInBounds_toArray, List.set_cons_zero, List.set_cons_succ, i64_w, i32_w]
       rfl
      refine pure_ (i := 4) (N := some 10) (v := ?_) (a' := ?_) #[true, false, false, false, true, false, false, false, false, false, false, false, false, false] rfl rfl (any_of HT_.out (by kernel_rfl)) (fun _ _ _ h => h) (Or.inl ⟨rfl, ?_⟩) ?_ ?_
      rotate_left
      ·intro w'
       go_simp
       with_reducible rfl
      rotate_left
      ·simp only [Act.put, List.setIfInBounds_toArray, List.set_cons_zero, List.set_cons_succ, i64_w, i32_w]
       rfl
      refine pure_ (i := 9) (N := some 15) (v := ?_) (a' := ?_) #[true, false, false, false, true, false, false, false, false, true, false, false, false, false] rfl rfl (any_of HT_.out (by kernel_rfl)) (fun _ _ _ h => h) (Or.inl ⟨rfl, ?_⟩) ?_ ?_
      rotate_left
      ·intro w'
       go_simp
       with_reducible rfl
      rotate_left
      ·simp only [Act.put, List.setIfInBounds_toArray, List.set_cons_zero, List.set_cons_succ, i64_w, i32_w]
       rfl
      refine take_ (i := 1) (N := some 7) (v := ?_) (a' := ?_) #[true, true, false, false, true, false, false, false, false, true, false, false, false, false] rfl rfl (take_ofW HT_.out HW_.out (by kernel_rfl)) (fun _ _ _ h => h) (Or.inl ⟨rfl, ?_⟩) hHeld ?_ ?_
      rotate_left
      ·rintro w' ⟨s0, s1, s2⟩
       go_simp
       with_reducible rfl
      rotate_left
      ·simp only [Act.put, List.setIfInBounds_toArray, List.set_cons_zero, List.set_cons_succ, i64_w, i32_w]
       rfl
      refine take_ (i := 5) (N := some 11) (v := ?_) (a' := ?_) #[true, true, false, false, true, true, false, false, false, true, false, false, false, false] rfl rfl (take_ofW HT_.out HW_.out (by kernel_rfl)) (fun _ _ _ h => h) (Or.inl ⟨rfl, ?_⟩) hHeld ?_ ?_
      rotate_left
      ·rintro w' ⟨s0, s1, s2⟩
       go_simp
       with_reducible rfl
      rotate_left
      ·simp only [Act.put, List.setIfInBounds_toArray, List.set_cons_zero, List.set_cons_succ, i64_w, i32_w]
       rfl
      refine take_ (i := 10) (N := some 16) (v := ?_) (a' := ?_) #[true, true, false, false, true, true, false, false, false, true, true, false, false, false] rfl rfl (take_ofW HT_.out HW_.out (by kernel_rfl)) (fun _ _ _ h => h) (Or.inl ⟨rfl, ?_⟩) hHeld ?_ ?_
      rotate_left
      ·rintro w' ⟨s0, s1, s2⟩
       go_simp
       with_reducible rfl
      rotate_left
      ·simp only [Act.put, List.setIfInBounds_toArray, List.set_cons_zero, List.set_cons_succ, i64_w, i32_w]
       rfl
      refine one_ (i := 2) (N := some 8) #[true, true, true, false, true, true, false, false, false, true, true, false, false, false] rfl rfl (one_of HT_.out (by kernel_rfl)) (by decide) (fun K hK => ?_)
      refine goes_ Try.func184 (by kernel_rfl) rfl #[.int .i64 a0_0] rfl rfl rfl (by (try simp only [List.map_toArray, List.map_cons, List.map_nil]); rfl) ?_
      with_reducible refine (spec_FormatInt.calls k a0_0 t1125 _ A4.out).mono ?_
      rintro e w15 ⟨rfl, hb⟩
      refine ⟨_, rfl, ?_⟩
      have n0_ := Aside0.mk (blk_below (g := gb1123) (o := .cells #[.int .i64 a0_0, .int .i64 a0_1, .int .i64 a0_2] 60 (0, 0)) BK1123.out hb)
      have n1_ := Aside0.mk (below_step HB.out hb)
      clear BK1123
      clear HB
      have BK1123 := n0_
      have HB := n1_
      clear n0_ n1_
      (try clear hb)
      (try clear hb2)
      (try clear hk)
      (try clear hi)
      refine hK.out _ _ ⟨(blk_cell BK1123.out 0).trans rfl, (blk_cell BK1123.out 1).trans rfl, (blk_cell BK1123.out 2).trans rfl⟩ (fun hHeld => ?_)
      clear hK K
      refine norm_ (a' := ?_) ?_ ?_
      rotate_left
      ·show Act.put _ (some 8) _ = _
       simp only [Act.put, List.setIfInBounds_toArray, List.set_cons_zero, List.set_cons_succ, i64_w, i32_w]
       rfl
      refine pure_ (i := 3) (N := some 9) (v := ?_) (a' := ?_) #[true, true, true, true, true, true, false, false, false, true, true, false, false, false] rfl rfl (any_of HT_.out (by kernel_rfl)) (fun _ _ _ h => h) (Or.inl ⟨rfl, ?_⟩) ?_ ?_
      rotate_left
      ·intro w'
       go_simp
       with_reducible rfl
      rotate_left
      ·simp only [Act.put, List.setIfInBounds_toArray, List.set_cons_zero, List.set_cons_succ, i64_w, i32_w]
       rfl
      refine one_ (i := 6) (N := some 12) #[true, true, true, true, true, true, true, false, false, true, true, false, false, false] rfl rfl (one_of HT_.out (by kernel_rfl)) (by decide) (fun K hK => ?_)
      refine goes_ Try.func184 (by kernel_rfl) rfl #[.int .i64 a0_1] rfl rfl rfl (by (try simp only [List.map_toArray, List.map_cons, List.map_nil]); rfl) ?_
      with_reducible refine (spec_FormatInt.calls k a0_1 t1126 _ A6.out).mono ?_
      rintro e w16 ⟨rfl, hb⟩
      refine ⟨_, rfl, ?_⟩
      have n0_ := Aside0.mk (blk_below (g := gb1123) (o := .cells #[.int .i64 a0_0, .int .i64 a0_1, .int .i64 a0_2] 60 (0, 0)) BK1123.out hb)
      have n1_ := Aside0.mk (below_step HB.out hb)
      clear BK1123
      clear HB
      have BK1123 := n0_
      have HB := n1_
      clear n0_ n1_
      (try clear hb)
      (try clear hb2)
      (try clear hk)
      (try clear hi)
      refine hK.out _ _ ⟨(blk_cell BK1123.out 0).trans rfl, (blk_cell BK1123.out 1).trans rfl, (blk_cell BK1123.out 2).trans rfl⟩ (fun hHeld => ?_)
      clear hK K
      refine norm_ (a' := ?_) ?_ ?_
      rotate_left
      ·show Act.put _ (some 12) _ = _
       simp only [Act.put, List.setIfInBounds_toArray, List.set_cons_zero, List.set_cons_succ, i64_w, i32_w]
       rfl
      refine pure_ (i := 7) (N := some 13) (v := ?_) (a' := ?_) #[true, true, true, true, true, true, true, true, false, true, true, false, false, false] rfl rfl (any_of HT_.out (by kernel_rfl)) (fun _ _ _ h => h) (Or.inl ⟨rfl, ?_⟩) ?_ ?_
      rotate_left
      ·intro w'
       go_simp
       with_reducible rfl
      rotate_left
      ·simp only [Act.put, List.setIfInBounds_toArray, List.set_cons_zero, List.set_cons_succ, i64_w, i32_w]
       rfl
      refine pure_ (i := 8) (N := some 14) (v := ?_) (a' := ?_) #[true, true, true, true, true, true, true, true, true, true, true, false, false, false] rfl rfl (any_of HT_.out (by kernel_rfl)) (fun _ _ _ h => h) (Or.inl ⟨rfl, ?_⟩) ?_ ?_
      rotate_left
      ·intro w'
       go_simp
       with_reducible rfl
      rotate_left
      ·simp only [Act.put, List.setIfInBounds_toArray, List.set_cons_zero, List.set_cons_succ, i64_w, i32_w]
       rfl
      refine one_ (i := 11) (N := some 17) #[true, true, true, true, true, true, true, true, true, true, true, true, false, false] rfl rfl (one_of HT_.out (by kernel_rfl)) (by decide) (fun K hK => ?_)
      refine goes_ Try.func184 (by kernel_rfl) rfl #[.int .i64 a0_2] rfl rfl rfl (by (try simp only [List.map_toArray, List.map_cons, List.map_nil]); rfl) ?_
      with_reducible refine (spec_FormatInt.calls k a0_2 t1127 _ A9.out).mono ?_
      rintro e w17 ⟨rfl, hb⟩
      refine ⟨_, rfl, ?_⟩
      have n0_ := Aside0.mk (blk_below (g := gb1123) (o := .cells #[.int .i64 a0_0, .int .i64 a0_1, .int .i64 a0_2] 60 (0, 0)) BK1123.out hb)
      have n1_ := Aside0.mk (below_step HB.out hb)
      clear BK1123
      clear HB
      have BK1123 := n0_
      have HB := n1_
      clear n0_ n1_
      (try clear hb)
      (try clear hb2)
      (try clear hk)
      (try clear hi)
      refine hK.out _ _ ⟨(blk_cell BK1123.out 0).trans rfl, (blk_cell BK1123.out 1).trans rfl, (blk_cell BK1123.out 2).trans rfl⟩ (fun hHeld => ?_)
      clear hK K
      refine norm_ (a' := ?_) ?_ ?_
      rotate_left
      ·show Act.put _ (some 17) _ = _
       simp only [Act.put, List.setIfInBounds_toArray, List.set_cons_zero, List.set_cons_succ, i64_w, i32_w]
       rfl
      refine pure_ (i := 12) (N := some 18) (v := ?_) (a' := ?_) #[true, true, true, true, true, true, true, true, true, true, true, true, true, false] rfl rfl (any_of HT_.out (by kernel_rfl)) (fun _ _ _ h => h) (Or.inl ⟨rfl, ?_⟩) ?_ ?_
      rotate_left
      ·intro w'
       go_simp
       with_reducible rfl
      rotate_left
      ·simp only [Act.put, List.setIfInBounds_toArray, List.set_cons_zero, List.set_cons_succ, i64_w, i32_w]
       rfl
      refine pure_ (i := 13) (N := some 2) (v := ?_) (a' := ?_) #[true, true, true, true, true, true, true, true, true, true, true, true, true, true] rfl rfl (any_of HT_.out (by kernel_rfl)) (fun _ _ _ h => h) (Or.inl ⟨rfl, ?_⟩) ?_ ?_
      rotate_left
      ·intro w'
       go_simp
       with_reducible rfl
      rotate_left
      ·simp only [Act.put, List.setIfInBounds_toArray, List.set_cons_zero, List.set_cons_succ, i64_w, i32_w]
       rfl
      refine done_ (done_of HT_.out (by kernel_rfl)) ?_
      try go_wp2
      go_ret
      exact ⟨rfl, HB.out⟩
     ·rw [if_neg c10] at H
      exact absurd H (by simp)
    ·rw [if_neg c8] at H
     exact absurd H (by simp)
   ·rw [if_neg c7] at H
    exact absurd H (by simp)
  ·rw [if_neg c5] at H
   exact absurd H (by simp)
 ·replace c3 := Bool.eq_false_iff.mpr c3
  subst c3
  rw [if_neg (show ¬ (false = true) by decide)] at H
  obtain rfl := Option.some.inj H
  go_enter Try.func198, Try.ntmps198
  go_wp2_with (first | ((with_reducible refine gate_dst (N := 1) rfl ?_); refine box_event ?hg (N := 1) ?hd (cs := #[.int .i64 a0_0, .int .i64 a0_1, .int .i64 a0_2]) (t := 60) ?hr ?_; (case hd => rfl); (case hg => rfl); (case hr => (go_simp; done)); intro gb1123 hg w18 hbox hb; have n0_ := Aside0.mk (below_step HB.out hb); have n1_ := Aside0.mk (hbox); have n2_ := Aside0.mk ((by rw [hg]; exact (below_size HB.out) : w.heap.size ≤ gb1123)); have n3_ := Aside0.mk ((by rw [hg]; exact (below_size HB.out) : w.heap.size ≤ gb1123)); clear HB; have HB := n0_; have BK1123 := n1_; have GW1123 := n2_; have GE1123 := n3_; clear n0_ n1_ n2_ n3_; clear hb hbox hg; have hcz19_0 : w18.cell? ⟨gb1123, 0, none⟩ = some (.int .i64 a0_0) := (blk_cell BK1123.out 0).trans rfl; have hcz19_1 : w18.cell? ⟨gb1123, 1, none⟩ = some (.int .i64 a0_1) := (blk_cell BK1123.out 1).trans rfl; have hcz19_2 : w18.cell? ⟨gb1123, 2, none⟩ = some (.int .i64 a0_2) := (blk_cell BK1123.out 2).trans rfl; have hfz19_0 := blk_frozen BK1123.out 0; have hfz19_1 := blk_frozen BK1123.out 1; have hfz19_2 := blk_frozen BK1123.out 2) | ((with_reducible refine gate_callee (f := 147) rfl ?_); refine goesL_ (some 4) rfl rfl Try.func147 (by kernel_rfl) rfl #[.agg #[.int .i64 a0_0, .int .i64 a0_1, .int .i64 a0_2]] rfl (by (try simp only [List.map_toArray, List.map_cons, List.map_nil]); rfl) ?_; (with_reducible refine (spec_IsValidRow.calls a0_0 a0_1 a0_2 false _ A2.out).mono ?_); rintro e w20 ⟨rfl, hb⟩; refine ⟨_, rfl, ?_⟩; have n0_ := Aside0.mk (blk_below (g := gb1123) (o := .cells #[.int .i64 a0_0, .int .i64 a0_1, .int .i64 a0_2] 60 (0, 0)) BK1123.out hb); have n1_ := Aside0.mk (below_step HB.out hb); clear BK1123; clear HB; have BK1123 := n0_; have HB := n1_; clear n0_ n1_; (try clear hb)))
  go_ret
  exact ⟨rfl, HB.out⟩

def spec_ParseRow.f (k : Nat) (a0 : ByteArray) : Option (Int × Int × Int × Bool) := (spec_l2Cut.f k a0 46).bind fun t1129 => (if (t1129.length : Int) = 3 then (if 0 < (t1129.length : Int) then ((spec_ParseInt.f k (rdOf ByteArray.empty t1129 0)).bind fun bt1134 => (if 1 < (t1129.length : Int) then ((spec_ParseInt.f k (rdOf ByteArray.empty t1129 1)).bind fun bt1137 => (if 2 < (t1129.length : Int) then ((spec_ParseInt.f k (rdOf ByteArray.empty t1129 2)).bind fun bt1140 => ((spec_FormatRow.f k bt1134.1 bt1137.1 bt1140.1).bind fun t1142 => (if t1142.toList = a0.toList then (some (bt1134.1, bt1137.1, bt1140.1, true)) else (some (0, 0, 0, false))))) else (none))) else (none))) else (none)) else (some (0, 0, 0, false)))
theorem spec_ParseRow.calls (k : Nat) (a0 : ByteArray) (r1 : Int) (r2 : Int) (r3 : Int) (r4 : Bool) (w : World) (h : spec_ParseRow.f k a0 = some (r1, r2, r3, r4)) :
  Calls Try.prog 185 #[.string a0] w fun e w' => e = .returned (.tuple #[.agg #[.int .i64 r1, .int .i64 r2, .int .i64 r3], .bool r4]) ∧ Below w.heap.size w w' := by
 have hu60 := Try.underlying60
 have HB := Aside0.mk (Below.refl w.heap.size w)
 have H : ((spec_l2Cut.f k a0 46).bind fun t1129 => (if (t1129.length : Int) = 3 then (if 0 < (t1129.length : Int) then ((spec_ParseInt.f k (rdOf ByteArray.empty t1129 0)).bind fun bt1134 => (if 1 < (t1129.length : Int) then ((spec_ParseInt.f k (rdOf ByteArray.empty t1129 1)).bind fun bt1137 => (if 2 < (t1129.length : Int) then ((spec_ParseInt.f k (rdOf ByteArray.empty t1129 2)).bind fun bt1140 => ((spec_FormatRow.f k bt1134.1 bt1137.1 bt1140.1).bind fun t1142 => (if t1142.toList = a0.toList then (some (bt1134.1, bt1137.1, bt1140.1, true)) else (some (0, 0, 0, false))))) else (none))) else (none))) else (none)) else (some (0, 0, 0, false)))) = some (r1, r2, r3, r4) := h
 clear h
 replace H := Option.bind_eq_some_iff.mp H
 obtain ⟨t1129, A20, H⟩ := H
 have A2 := Aside0.mk A20
 clear A20
 by_cases c3 : (t1129.length : Int) = 3
 ·rw [if_pos c3] at H
  have c3b0 : ((t1129.length : Int) == 3) = true := beq_iff_eq.mpr c3
  have c3b1 : ((t1129.length : Int) != 3) = false := bne_eq_false_iff_eq.mpr c3
  clear c3
  by_cases c4 : 0 < (t1129.length : Int)
  ·rw [if_pos c4] at H
   have c4b0 : decide (0 < (t1129.length : Int)) = true := decide_eq_true c4
   have c4b1 : decide (0 < t1129.length) = true := decide_eq_true (by omega)
   clear c4
   replace H := Option.bind_eq_some_iff.mp H
   obtain ⟨⟨t1134, t1135⟩, A50, H⟩ := H
   have A5 := Aside0.mk A50
   clear A50
   by_cases c6 : 1 < (t1129.length : Int)
   ·rw [if_pos c6] at H
    have c6b0 : decide (1 < (t1129.length : Int)) = true := decide_eq_true c6
    have c6b1 : decide (1 < t1129.length) = true := decide_eq_true (by omega)
    clear c6
    replace H := Option.bind_eq_some_iff.mp H
    obtain ⟨⟨t1137, t1138⟩, A70, H⟩ := H
    have A7 := Aside0.mk A70
    clear A70
    by_cases c8 : 2 < (t1129.length : Int)
    ·rw [if_pos c8] at H
     have c8b0 : decide (2 < (t1129.length : Int)) = true := decide_eq_true c8
     have c8b1 : decide (2 < t1129.length) = true := decide_eq_true (by omega)
     clear c8
     replace H := Option.bind_eq_some_iff.mp H
     obtain ⟨⟨t1140, t1141⟩, A90, H⟩ := H
     have A9 := Aside0.mk A90
     clear A90
     replace H := Option.bind_eq_some_iff.mp H
     obtain ⟨t1142, A100, H⟩ := H
     have A10 := Aside0.mk A100
     clear A100
     by_cases c11 : t1142.toList = a0.toList
     ·rw [if_pos c11] at H
      have c11b0 : (t1142.toList == a0.toList) = true := beq_iff_eq.mpr c11
      have c11b1 : (t1142.toList != a0.toList) = false := bne_eq_false_iff_eq.mpr c11
      clear c11
      simp only [Option.some.injEq, Prod.mk.injEq] at H
      obtain ⟨rfl, rfl, rfl, rfl⟩ := H
      go_enter Try.func185, Try.ntmps185
      go_wp2_with (first | ((with_reducible refine gate_dst (N := 2) rfl ?_); refine box_event ?hg (N := 2) ?hd (cs := #[.int .i64 0, .int .i64 0, .int .i64 0]) (t := 60) ?hr ?_; (case hd => rfl); (case hg => rfl); (case hr => (go_simp; done)); intro gb1128 hg w12 hbox hb; have n0_ := Aside0.mk (below_step HB.out hb); have n1_ := Aside0.mk (hbox); have n2_ := Aside0.mk ((by rw [hg]; exact (below_size HB.out) : w.heap.size ≤ gb1128)); have n3_ := Aside0.mk ((by rw [hg]; exact (below_size HB.out) : w.heap.size ≤ gb1128)); clear HB; have HB := n0_; have BK1128 := n1_; have GW1128 := n2_; have GE1128 := n3_; clear n0_ n1_ n2_ n3_; clear hb hbox hg) | ((with_reducible refine gate_callee (f := 135) rfl ?_); refine goesL_ (some 7) rfl rfl Try.func135 (by kernel_rfl) rfl #[.string a0, .int .u8 46] rfl (by (try simp only [List.map_toArray, List.map_cons, List.map_nil]); rfl) ?_; (with_reducible refine (spec_l2Cut.calls k a0 46 t1129 _ A2.out).mono ?_); rintro e w13 ⟨v1130, rfl, ho0, hb⟩; refine ⟨_, rfl, ?_⟩; have n0_ := Aside0.mk (Kd.R_lower ho0 (below_size HB.out)); have n1_ := Aside0.mk (blk_below (g := gb1128) (o := .cells #[.int .i64 0, .int .i64 0, .int .i64 0] 60 (0, 0)) BK1128.out hb); have n2_ := Aside0.mk (below_step HB.out hb); clear BK1128; clear HB; have HO1131 := n0_; have BK1128 := n1_; have HB := n2_; clear n0_ n1_ n2_; (try clear hb); (try clear ho0); obtain ⟨Ao14, co14, eo14⟩ := Kd.R_slice HO1131.out; subst eo14) | ((with_reducible refine gate_dst (N := 5) rfl ?_); refine box_event ?hg (N := 5) ?hd (cs := #[.int .i64 0, .int .i64 0, .int .i64 0]) (t := 60) ?hr ?_; (case hd => rfl); (case hg => rfl); (case hr => (go_simp; done)); intro gb1132 hg w15 hbox hb; have n0_ := Aside0.mk (Kd.R_below HO1131.out hb); have n1_ := Aside0.mk (blk_below (g := gb1128) (o := .cells #[.int .i64 0, .int .i64 0, .int .i64 0] 60 (0, 0)) BK1128.out hb); have n2_ := Aside0.mk (below_step HB.out hb); have n3_ := Aside0.mk (hbox); have n4_ := Aside0.mk ((by rw [hg]; exact (below_size HB.out) : w.heap.size ≤ gb1132)); have n5_ := Aside0.mk ((by rw [hg]; exact (below_size HB.out) : w.heap.size ≤ gb1132)); have n6_ := Aside0.mk ((by rw [hg]; exact Nat.ne_of_lt (blk_lt (g := gb1128) (o := .cells #[.int .i64 0, .int .i64 0, .int .i64 0] 60 (0, 0)) BK1128.out) : gb1128 ≠ gb1132)); have n7_ := Aside0.mk ((by rw [hg]; exact Nat.ne_of_gt (blk_lt (g := gb1128) (o := .cells #[.int .i64 0, .int .i64 0, .int .i64 0] 60 (0, 0)) BK1128.out) : gb1132 ≠ gb1128)); clear HO1131; clear BK1128; clear HB; have HO1131 := n0_; have BK1128 := n1_; have HB := n2_; have BK1132 := n3_; have GW1132 := n4_; have GE1132 := n5_; have NB1128_1132 := n6_; have NB1132_1128 := n7_; clear n0_ n1_ n2_ n3_ n4_ n5_ n6_ n7_; clear hb hbox hg; have hnb16 := NB1132_1128.out; have hnc16 := NB1128_1132.out; have hcz17_0 : w15.cell? ⟨gb1132, 0, none⟩ = some (.int .i64 0) := (blk_cell BK1132.out 0).trans rfl; have hcz17_1 : w15.cell? ⟨gb1132, 1, none⟩ = some (.int .i64 0) := (blk_cell BK1132.out 1).trans rfl; have hcz17_2 : w15.cell? ⟨gb1132, 2, none⟩ = some (.int .i64 0) := (blk_cell BK1132.out 2).trans rfl; have hfz17_0 := blk_frozen BK1132.out 0; have hfz17_1 := blk_frozen BK1132.out 1; have hfz17_2 := blk_frozen BK1132.out 2; have p1133 : 0 ≤ (0 : Int) := (by omega); have q1133 : 0 < (t1129.length : Int) := of_decide_eq_true (by (with_reducible assumption)); obtain ⟨ad1133, e1133, hx1133_0⟩ := Kd.at_string (Kd.R_reads' HO1131.out).2.2 0 p1133 q1133; cases e1133; have qi1133 : (0 < t1129.length) = True := eq_true (by omega); (try rw [show ((0 : Int)).toNat = 0 from rfl] at hx1133_0); (try rw [Addr.add_zero'] at hx1133_0); have hn1133_0 : ad1133.block ≠ gb1132 := Kd.own_blk (Kd.R_ne HO1131.out BK1132.out (by decide)); have hn1133_1 : ad1133.block ≠ gb1132 := Kd.own_blk (Kd.R_ne HO1131.out BK1132.out (by decide)); have hn1133_2 : ad1133.block ≠ gb1132 := Kd.own_blk (Kd.R_ne HO1131.out BK1132.out (by decide)); replace hx1133_0 := (cell_far (p := ⟨gb1132, 0, none⟩) (by exact hn1133_0) (.int .i64 0)).trans hx1133_0; replace hx1133_0 := (cell_far (p := ⟨gb1132, 1, none⟩) (by exact hn1133_1) (.int .i64 0)).trans hx1133_0; replace hx1133_0 := (cell_far (p := ⟨gb1132, 2, none⟩) (by exact hn1133_2) (.int .i64 0)).trans hx1133_0; clear hn1133_0; clear hn1133_1; clear hn1133_2; replace p1133 := eq_true p1133; replace q1133 := eq_true q1133) | ((with_reducible refine gate_callee (f := 136) rfl ?_); refine goesL_ (some 17) rfl rfl Try.func136 (by kernel_rfl) rfl #[.string (rdOf ByteArray.empty t1129 0)] rfl (by (try simp only [List.map_toArray, List.map_cons, List.map_nil]); rfl) ?_; (with_reducible refine (spec_ParseInt.calls k (rdOf ByteArray.empty t1129 0) t1134 t1135 _ A5.out).mono ?_); rintro e w18 ⟨rfl, hb⟩; refine ⟨_, rfl, ?_⟩; have n0_ := Aside0.mk (Kd.R_below (by exact (Kd.R_mono (Kd.R_far (p := ⟨gb1132, 2, none⟩) (Kd.R_far (p := ⟨gb1132, 1, none⟩) (Kd.R_far (p := ⟨gb1132, 0, none⟩) (Kd.R_types HO1131.out BK1132.out (by decide)) (fun _ hk => hk.2) (.int .i64 0)) (fun _ hk => hk.2) (.int .i64 0)) (fun _ hk => hk.2) (.int .i64 0)) (fun _ h_ => h_.1))) hb); have n1_ := Aside0.mk (blk_below (g := gb1128) (o := .cells #[.int .i64 0, .int .i64 0, .int .i64 0] 60 (0, 0)) (by refine blk_far ?_ NB1128_1132.out _; refine blk_far ?_ NB1128_1132.out _; refine blk_far ?_ NB1128_1132.out _; exact BK1128.out) hb); have n2_ := Aside0.mk (blk_below (g := gb1132) (o := .cells #[.int .i64 0, .int .i64 0, .int .i64 0] 60 (0, 0)) (by refine blk_put (cs := #[.int .i64 0, .int .i64 0, .int .i64 0]) ?_ 2 _ rfl; refine blk_put (cs := #[.int .i64 0, .int .i64 0, .int .i64 0]) ?_ 1 _ rfl; refine blk_put (cs := #[.int .i64 0, .int .i64 0, .int .i64 0]) ?_ 0 _ rfl; exact BK1132.out) hb); have n3_ := Aside0.mk (below_step (by repeat (with_reducible first | exact HB.out | refine below_set ?_ GE1132.out)) hb); clear HO1131; clear BK1128; clear BK1132; clear HB; have HO1131 := n0_; have BK1128 := n1_; have BK1132 := n2_; have HB := n3_; clear n0_ n1_ n2_ n3_; (try clear hb); have hcz19_0 : w18.cell? ⟨gb1132, 0, none⟩ = some (.int .i64 0) := (blk_cell BK1132.out 0).trans rfl; have hcz19_1 : w18.cell? ⟨gb1132, 1, none⟩ = some (.int .i64 0) := (blk_cell BK1132.out 1).trans rfl; have hcz19_2 : w18.cell? ⟨gb1132, 2, none⟩ = some (.int .i64 0) := (blk_cell BK1132.out 2).trans rfl; have hfz19_0 := blk_frozen BK1132.out 0; have hfz19_1 := blk_frozen BK1132.out 1; have hfz19_2 := blk_frozen BK1132.out 2; have p1136 : 0 ≤ (1 : Int) := (by omega); have q1136 : 1 < (t1129.length : Int) := of_decide_eq_true (by (with_reducible assumption)); obtain ⟨ad1136, e1136, hx1136_0⟩ := Kd.at_string (Kd.R_reads' HO1131.out).2.2 1 p1136 q1136; obtain rfl : ad1133 = ad1136 := (by injection e1136); (try simp only [show (1 : Int).toNat = 1 from rfl, Nat.reduceMul, Nat.reduceEqDiff, Go.Addr.add, ↓reduceIte] at hx1136_0); have qi1136 : (1 < t1129.length) = True := eq_true (by omega); (try rw [show ((1 : Int)).toNat = 1 from rfl] at hx1136_0); have hn1136_0 : ad1133.block ≠ gb1132 := Kd.own_blk (Kd.R_ne HO1131.out BK1132.out (by decide)); replace hx1136_0 := (cell_far (p := ⟨gb1132, 0, none⟩) (by exact hn1136_0) (.int .i64 t1134)).trans hx1136_0; clear hn1136_0; replace p1136 := eq_true p1136; replace q1136 := eq_true q1136) | ((with_reducible refine gate_callee (f := 136) rfl ?_); refine goesL_ (some 25) rfl rfl Try.func136 (by kernel_rfl) rfl #[.string (rdOf ByteArray.empty t1129 1)] rfl (by (try simp only [List.map_toArray, List.map_cons, List.map_nil]); rfl) ?_; (with_reducible refine (spec_ParseInt.calls k (rdOf ByteArray.empty t1129 1) t1137 t1138 _ A7.out).mono ?_); rintro e w20 ⟨rfl, hb⟩; refine ⟨_, rfl, ?_⟩; have n0_ := Aside0.mk (Kd.R_below (by exact (Kd.R_mono (Kd.R_far (p := ⟨gb1132, 0, none⟩) (Kd.R_types HO1131.out BK1132.out (by decide)) (fun _ hk => hk.2) (.int .i64 t1134)) (fun _ h_ => h_.1))) hb); have n1_ := Aside0.mk (blk_below (g := gb1128) (o := .cells #[.int .i64 0, .int .i64 0, .int .i64 0] 60 (0, 0)) (by refine blk_far ?_ NB1128_1132.out _; exact BK1128.out) hb); have n2_ := Aside0.mk (blk_below (g := gb1132) (o := .cells #[.int .i64 t1134, .int .i64 0, .int .i64 0] 60 (0, 0)) (by refine blk_put (cs := #[.int .i64 0, .int .i64 0, .int .i64 0]) ?_ 0 _ rfl; exact BK1132.out) hb); have n3_ := Aside0.mk (below_step (by repeat (with_reducible first | exact HB.out | refine below_set ?_ GE1132.out)) hb); clear HO1131; clear BK1128; clear BK1132; clear HB; have HO1131 := n0_; have BK1128 := n1_; have BK1132 := n2_; have HB := n3_; clear n0_ n1_ n2_ n3_; (try clear hb); have hcz21_0 : w20.cell? ⟨gb1132, 0, none⟩ = some (.int .i64 t1134) := (blk_cell BK1132.out 0).trans rfl; have hcz21_1 : w20.cell? ⟨gb1132, 1, none⟩ = some (.int .i64 0) := (blk_cell BK1132.out 1).trans rfl; have hcz21_2 : w20.cell? ⟨gb1132, 2, none⟩ = some (.int .i64 0) := (blk_cell BK1132.out 2).trans rfl; have hfz21_0 := blk_frozen BK1132.out 0; have hfz21_1 := blk_frozen BK1132.out 1; have hfz21_2 := blk_frozen BK1132.out 2; have p1139 : 0 ≤ (2 : Int) := (by omega); have q1139 : 2 < (t1129.length : Int) := of_decide_eq_true (by (with_reducible assumption)); obtain ⟨ad1139, e1139, hx1139_0⟩ := Kd.at_string (Kd.R_reads' HO1131.out).2.2 2 p1139 q1139; obtain rfl : ad1133 = ad1139 := (by injection e1139); (try simp only [show (2 : Int).toNat = 2 from rfl, Nat.reduceMul, Nat.reduceEqDiff, Go.Addr.add, ↓reduceIte] at hx1139_0); have qi1139 : (2 < t1129.length) = True := eq_true (by omega); (try rw [show ((2 : Int)).toNat = 2 from rfl] at hx1139_0); have hn1139_0 : ad1133.block ≠ gb1132 := Kd.own_blk (Kd.R_ne HO1131.out BK1132.out (by decide)); replace hx1139_0 := (cell_far (p := ⟨gb1132, 1, none⟩) (by exact hn1139_0) (.int .i64 t1137)).trans hx1139_0; clear hn1139_0; replace p1139 := eq_true p1139; replace q1139 := eq_true q1139) | ((with_reducible refine gate_callee (f := 136) rfl ?_); refine goesL_ (some 33) rfl rfl Try.func136 (by kernel_rfl) rfl #[.string (rdOf ByteArray.empty t1129 2)] rfl (by (try simp only [List.map_toArray, List.map_cons, List.map_nil]); rfl) ?_; (with_reducible refine (spec_ParseInt.calls k (rdOf ByteArray.empty t1129 2) t1140 t1141 _ A9.out).mono ?_); rintro e w22 ⟨rfl, hb⟩; refine ⟨_, rfl, ?_⟩; have n0_ := Aside0.mk (Kd.R_below (by exact (Kd.R_mono (Kd.R_far (p := ⟨gb1132, 1, none⟩) (Kd.R_types HO1131.out BK1132.out (by decide)) (fun _ hk => hk.2) (.int .i64 t1137)) (fun _ h_ => h_.1))) hb); have n1_ := Aside0.mk (blk_below (g := gb1128) (o := .cells #[.int .i64 0, .int .i64 0, .int .i64 0] 60 (0, 0)) (by refine blk_far ?_ NB1128_1132.out _; exact BK1128.out) hb); have n2_ := Aside0.mk (blk_below (g := gb1132) (o := .cells #[.int .i64 t1134, .int .i64 t1137, .int .i64 0] 60 (0, 0)) (by refine blk_put (cs := #[.int .i64 t1134, .int .i64 0, .int .i64 0]) ?_ 1 _ rfl; exact BK1132.out) hb); have n3_ := Aside0.mk (below_step (by repeat (with_reducible first | exact HB.out | refine below_set ?_ GE1132.out)) hb); clear HO1131; clear BK1128; clear BK1132; clear HB; have HO1131 := n0_; have BK1128 := n1_; have BK1132 := n2_; have HB := n3_; clear n0_ n1_ n2_ n3_; (try clear hb); have hcz23_0 : w22.cell? ⟨gb1132, 0, none⟩ = some (.int .i64 t1134) := (blk_cell BK1132.out 0).trans rfl; have hcz23_1 : w22.cell? ⟨gb1132, 1, none⟩ = some (.int .i64 t1137) := (blk_cell BK1132.out 1).trans rfl; have hcz23_2 : w22.cell? ⟨gb1132, 2, none⟩ = some (.int .i64 0) := (blk_cell BK1132.out 2).trans rfl; have hfz23_0 := blk_frozen BK1132.out 0; have hfz23_1 := blk_frozen BK1132.out 1; have hfz23_2 := blk_frozen BK1132.out 2) | ((with_reducible refine gate_callee (f := 198) rfl ?_); refine goesL_ (some 38) rfl rfl Try.func198 (by kernel_rfl) rfl #[.agg #[.int .i64 t1134, .int .i64 t1137, .int .i64 t1140]] rfl (by (try simp only [List.map_toArray, List.map_cons, List.map_nil]); rfl) ?_; (with_reducible refine (spec_FormatRow.calls k t1134 t1137 t1140 t1142 _ A10.out).mono ?_); rintro e w24 ⟨rfl, hb⟩; refine ⟨_, rfl, ?_⟩; have n0_ := Aside0.mk (Kd.R_below (by exact (Kd.R_mono (Kd.R_far (p := ⟨gb1132, 2, none⟩) (Kd.R_types HO1131.out BK1132.out (by decide)) (fun _ hk => hk.2) (.int .i64 t1140)) (fun _ h_ => h_.1))) hb); have n1_ := Aside0.mk (blk_below (g := gb1128) (o := .cells #[.int .i64 0, .int .i64 0, .int .i64 0] 60 (0, 0)) (by refine blk_far ?_ NB1128_1132.out _; exact BK1128.out) hb); have n2_ := Aside0.mk (blk_below (g := gb1132) (o := .cells #[.int .i64 t1134, .int .i64 t1137, .int .i64 t1140] 60 (0, 0)) (by refine blk_put (cs := #[.int .i64 t1134, .int .i64 t1137, .int .i64 0]) ?_ 2 _ rfl; exact BK1132.out) hb); have n3_ := Aside0.mk (below_step (by repeat (with_reducible first | exact HB.out | refine below_set ?_ GE1132.out)) hb); clear HO1131; clear BK1128; clear BK1132; clear HB; have HO1131 := n0_; have BK1128 := n1_; have BK1132 := n2_; have HB := n3_; clear n0_ n1_ n2_ n3_; (try clear hb); have hcz25_0 : w24.cell? ⟨gb1132, 0, none⟩ = some (.int .i64 t1134) := (blk_cell BK1132.out 0).trans rfl; have hcz25_1 : w24.cell? ⟨gb1132, 1, none⟩ = some (.int .i64 t1137) := (blk_cell BK1132.out 1).trans rfl; have hcz25_2 : w24.cell? ⟨gb1132, 2, none⟩ = some (.int .i64 t1140) := (blk_cell BK1132.out 2).trans rfl; have hfz25_0 := blk_frozen BK1132.out 0; have hfz25_1 := blk_frozen BK1132.out 1; have hfz25_2 := blk_frozen BK1132.out 2; have hcz26_0 : w24.cell? ⟨gb1128, 0, none⟩ = some (.int .i64 0) := (blk_cell BK1128.out 0).trans rfl; have hcz26_1 : w24.cell? ⟨gb1128, 1, none⟩ = some (.int .i64 0) := (blk_cell BK1128.out 1).trans rfl; have hcz26_2 : w24.cell? ⟨gb1128, 2, none⟩ = some (.int .i64 0) := (blk_cell BK1128.out 2).trans rfl; have hfz26_0 := blk_frozen BK1128.out 0; have hfz26_1 := blk_frozen BK1128.out 1; have hfz26_2 := blk_frozen BK1128.out 2))
      refine bodyPost_ret (results_ct rfl _ _ gb1128 60 #[.int .i64 t1134, .int .i64 t1137, .int .i64 t1140] (0, 0) _ rfl (by refine blk_put (cs := #[.int .i64 t1134, .int .i64 t1137, .int .i64 0]) ?_ 2 _ rfl; refine blk_put (cs := #[.int .i64 t1134, .int .i64 0, .int .i64 0]) ?_ 1 _ rfl; refine blk_put (cs := #[.int .i64 0, .int .i64 0, .int .i64 0]) ?_ 0 _ rfl; exact BK1128.out) Try.underlying60 rfl (by kernel_rfl)) rfl ?_
      exact ⟨rfl, by repeat ((with_reducible first | exact HB.out | refine below_set ?_ GE1128.out))⟩
     ·rw [if_neg c11] at H
      have c11b0 : (t1142.toList == a0.toList) = false := beq_eq_false_iff_ne.mpr c11
      have c11b1 : (t1142.toList != a0.toList) = true := bne_iff_ne.mpr c11
      simp only [Option.some.injEq, Prod.mk.injEq] at H
      obtain ⟨rfl, rfl, rfl, rfl⟩ := H
      go_enter Try.func185, Try.ntmps185
      go_wp2_with (first | ((with_reducible refine gate_dst (N := 2) rfl ?_); refine box_event ?hg (N := 2) ?hd (cs := #[.int .i64 0, .int .i64 0, .int .i64 0]) (t := 60) ?hr ?_; (case hd => rfl); (case hg => rfl); (case hr => (go_simp; done)); intro gb1128 hg w27 hbox hb; have n0_ := Aside0.mk (below_step HB.out hb); have n1_ := Aside0.mk (hbox); have n2_ := Aside0.mk ((by rw [hg]; exact (below_size HB.out) : w.heap.size ≤ gb1128)); have n3_ := Aside0.mk ((by rw [hg]; exact (below_size HB.out) : w.heap.size ≤ gb1128)); clear HB; have HB := n0_; have BK1128 := n1_; have GW1128 := n2_; have GE1128 := n3_; clear n0_ n1_ n2_ n3_; clear hb hbox hg) | ((with_reducible refine gate_callee (f := 135) rfl ?_); refine goesL_ (some 7) rfl rfl Try.func135 (by kernel_rfl) rfl #[.string a0, .int .u8 46] rfl (by (try simp only [List.map_toArray, List.map_cons, List.map_nil]); rfl) ?_; (with_reducible refine (spec_l2Cut.calls k a0 46 t1129 _ A2.out).mono ?_); rintro e w28 ⟨v1130, rfl, ho0, hb⟩; refine ⟨_, rfl, ?_⟩; have n0_ := Aside0.mk (Kd.R_lower ho0 (below_size HB.out)); have n1_ := Aside0.mk (blk_below (g := gb1128) (o := .cells #[.int .i64 0, .int .i64 0, .int .i64 0] 60 (0, 0)) BK1128.out hb); have n2_ := Aside0.mk (below_step HB.out hb); clear BK1128; clear HB; have HO1131 := n0_; have BK1128 := n1_; have HB := n2_; clear n0_ n1_ n2_; (try clear hb); (try clear ho0); obtain ⟨Ao29, co29, eo29⟩ := Kd.R_slice HO1131.out; subst eo29) | ((with_reducible refine gate_dst (N := 5) rfl ?_); refine box_event ?hg (N := 5) ?hd (cs := #[.int .i64 0, .int .i64 0, .int .i64 0]) (t := 60) ?hr ?_; (case hd => rfl); (case hg => rfl); (case hr => (go_simp; done)); intro gb1132 hg w30 hbox hb; have n0_ := Aside0.mk (Kd.R_below HO1131.out hb); have n1_ := Aside0.mk (blk_below (g := gb1128) (o := .cells #[.int .i64 0, .int .i64 0, .int .i64 0] 60 (0, 0)) BK1128.out hb); have n2_ := Aside0.mk (below_step HB.out hb); have n3_ := Aside0.mk (hbox); have n4_ := Aside0.mk ((by rw [hg]; exact (below_size HB.out) : w.heap.size ≤ gb1132)); have n5_ := Aside0.mk ((by rw [hg]; exact (below_size HB.out) : w.heap.size ≤ gb1132)); have n6_ := Aside0.mk ((by rw [hg]; exact Nat.ne_of_lt (blk_lt (g := gb1128) (o := .cells #[.int .i64 0, .int .i64 0, .int .i64 0] 60 (0, 0)) BK1128.out) : gb1128 ≠ gb1132)); have n7_ := Aside0.mk ((by rw [hg]; exact Nat.ne_of_gt (blk_lt (g := gb1128) (o := .cells #[.int .i64 0, .int .i64 0, .int .i64 0] 60 (0, 0)) BK1128.out) : gb1132 ≠ gb1128)); clear HO1131; clear BK1128; clear HB; have HO1131 := n0_; have BK1128 := n1_; have HB := n2_; have BK1132 := n3_; have GW1132 := n4_; have GE1132 := n5_; have NB1128_1132 := n6_; have NB1132_1128 := n7_; clear n0_ n1_ n2_ n3_ n4_ n5_ n6_ n7_; clear hb hbox hg; have hnb31 := NB1132_1128.out; have hnc31 := NB1128_1132.out; have hcz32_0 : w30.cell? ⟨gb1132, 0, none⟩ = some (.int .i64 0) := (blk_cell BK1132.out 0).trans rfl; have hcz32_1 : w30.cell? ⟨gb1132, 1, none⟩ = some (.int .i64 0) := (blk_cell BK1132.out 1).trans rfl; have hcz32_2 : w30.cell? ⟨gb1132, 2, none⟩ = some (.int .i64 0) := (blk_cell BK1132.out 2).trans rfl; have hfz32_0 := blk_frozen BK1132.out 0; have hfz32_1 := blk_frozen BK1132.out 1; have hfz32_2 := blk_frozen BK1132.out 2; have p1133 : 0 ≤ (0 : Int) := (by omega); have q1133 : 0 < (t1129.length : Int) := of_decide_eq_true (by (with_reducible assumption)); obtain ⟨ad1133, e1133, hx1133_0⟩ := Kd.at_string (Kd.R_reads' HO1131.out).2.2 0 p1133 q1133; cases e1133; have qi1133 : (0 < t1129.length) = True := eq_true (by omega); (try rw [show ((0 : Int)).toNat = 0 from rfl] at hx1133_0); (try rw [Addr.add_zero'] at hx1133_0); have hn1133_0 : ad1133.block ≠ gb1132 := Kd.own_blk (Kd.R_ne HO1131.out BK1132.out (by decide)); have hn1133_1 : ad1133.block ≠ gb1132 := Kd.own_blk (Kd.R_ne HO1131.out BK1132.out (by decide)); have hn1133_2 : ad1133.block ≠ gb1132 := Kd.own_blk (Kd.R_ne HO1131.out BK1132.out (by decide)); replace hx1133_0 := (cell_far (p := ⟨gb1132, 0, none⟩) (by exact hn1133_0) (.int .i64 0)).trans hx1133_0; replace hx1133_0 := (cell_far (p := ⟨gb1132, 1, none⟩) (by exact hn1133_1) (.int .i64 0)).trans hx1133_0; replace hx1133_0 := (cell_far (p := ⟨gb1132, 2, none⟩) (by exact hn1133_2) (.int .i64 0)).trans hx1133_0; clear hn1133_0; clear hn1133_1; clear hn1133_2; replace p1133 := eq_true p1133; replace q1133 := eq_true q1133) | ((with_reducible refine gate_callee (f := 136) rfl ?_); refine goesL_ (some 17) rfl rfl Try.func136 (by kernel_rfl) rfl #[.string (rdOf ByteArray.empty t1129 0)] rfl (by (try simp only [List.map_toArray, List.map_cons, List.map_nil]); rfl) ?_; (with_reducible refine (spec_ParseInt.calls k (rdOf ByteArray.empty t1129 0) t1134 t1135 _ A5.out).mono ?_); rintro e w33 ⟨rfl, hb⟩; refine ⟨_, rfl, ?_⟩; have n0_ := Aside0.mk (Kd.R_below (by exact (Kd.R_mono (Kd.R_far (p := ⟨gb1132, 2, none⟩) (Kd.R_far (p := ⟨gb1132, 1, none⟩) (Kd.R_far (p := ⟨gb1132, 0, none⟩) (Kd.R_types HO1131.out BK1132.out (by decide)) (fun _ hk => hk.2) (.int .i64 0)) (fun _ hk => hk.2) (.int .i64 0)) (fun _ hk => hk.2) (.int .i64 0)) (fun _ h_ => h_.1))) hb); have n1_ := Aside0.mk (blk_below (g := gb1128) (o := .cells #[.int .i64 0, .int .i64 0, .int .i64 0] 60 (0, 0)) (by refine blk_far ?_ NB1128_1132.out _; refine blk_far ?_ NB1128_1132.out _; refine blk_far ?_ NB1128_1132.out _; exact BK1128.out) hb); have n2_ := Aside0.mk (blk_below (g := gb1132) (o := .cells #[.int .i64 0, .int .i64 0, .int .i64 0] 60 (0, 0)) (by refine blk_put (cs := #[.int .i64 0, .int .i64 0, .int .i64 0]) ?_ 2 _ rfl; refine blk_put (cs := #[.int .i64 0, .int .i64 0, .int .i64 0]) ?_ 1 _ rfl; refine blk_put (cs := #[.int .i64 0, .int .i64 0, .int .i64 0]) ?_ 0 _ rfl; exact BK1132.out) hb); have n3_ := Aside0.mk (below_step (by repeat (with_reducible first | exact HB.out | refine below_set ?_ GE1132.out)) hb); clear HO1131; clear BK1128; clear BK1132; clear HB; have HO1131 := n0_; have BK1128 := n1_; have BK1132 := n2_; have HB := n3_; clear n0_ n1_ n2_ n3_; (try clear hb); have hcz34_0 : w33.cell? ⟨gb1132, 0, none⟩ = some (.int .i64 0) := (blk_cell BK1132.out 0).trans rfl; have hcz34_1 : w33.cell? ⟨gb1132, 1, none⟩ = some (.int .i64 0) := (blk_cell BK1132.out 1).trans rfl; have hcz34_2 : w33.cell? ⟨gb1132, 2, none⟩ = some (.int .i64 0) := (blk_cell BK1132.out 2).trans rfl; have hfz34_0 := blk_frozen BK1132.out 0; have hfz34_1 := blk_frozen BK1132.out 1; have hfz34_2 := blk_frozen BK1132.out 2; have p1136 : 0 ≤ (1 : Int) := (by omega); have q1136 : 1 < (t1129.length : Int) := of_decide_eq_true (by (with_reducible assumption)); obtain ⟨ad1136, e1136, hx1136_0⟩ := Kd.at_string (Kd.R_reads' HO1131.out).2.2 1 p1136 q1136; obtain rfl : ad1133 = ad1136 := (by injection e1136); (try simp only [show (1 : Int).toNat = 1 from rfl, Nat.reduceMul, Nat.reduceEqDiff, Go.Addr.add, ↓reduceIte] at hx1136_0); have qi1136 : (1 < t1129.length) = True := eq_true (by omega); (try rw [show ((1 : Int)).toNat = 1 from rfl] at hx1136_0); have hn1136_0 : ad1133.block ≠ gb1132 := Kd.own_blk (Kd.R_ne HO1131.out BK1132.out (by decide)); replace hx1136_0 := (cell_far (p := ⟨gb1132, 0, none⟩) (by exact hn1136_0) (.int .i64 t1134)).trans hx1136_0; clear hn1136_0; replace p1136 := eq_true p1136; replace q1136 := eq_true q1136) | ((with_reducible refine gate_callee (f := 136) rfl ?_); refine goesL_ (some 25) rfl rfl Try.func136 (by kernel_rfl) rfl #[.string (rdOf ByteArray.empty t1129 1)] rfl (by (try simp only [List.map_toArray, List.map_cons, List.map_nil]); rfl) ?_; (with_reducible refine (spec_ParseInt.calls k (rdOf ByteArray.empty t1129 1) t1137 t1138 _ A7.out).mono ?_); rintro e w35 ⟨rfl, hb⟩; refine ⟨_, rfl, ?_⟩; have n0_ := Aside0.mk (Kd.R_below (by exact (Kd.R_mono (Kd.R_far (p := ⟨gb1132, 0, none⟩) (Kd.R_types HO1131.out BK1132.out (by decide)) (fun _ hk => hk.2) (.int .i64 t1134)) (fun _ h_ => h_.1))) hb); have n1_ := Aside0.mk (blk_below (g := gb1128) (o := .cells #[.int .i64 0, .int .i64 0, .int .i64 0] 60 (0, 0)) (by refine blk_far ?_ NB1128_1132.out _; exact BK1128.out) hb); have n2_ := Aside0.mk (blk_below (g := gb1132) (o := .cells #[.int .i64 t1134, .int .i64 0, .int .i64 0] 60 (0, 0)) (by refine blk_put (cs := #[.int .i64 0, .int .i64 0, .int .i64 0]) ?_ 0 _ rfl; exact BK1132.out) hb); have n3_ := Aside0.mk (below_step (by repeat (with_reducible first | exact HB.out | refine below_set ?_ GE1132.out)) hb); clear HO1131; clear BK1128; clear BK1132; clear HB; have HO1131 := n0_; have BK1128 := n1_; have BK1132 := n2_; have HB := n3_; clear n0_ n1_ n2_ n3_; (try clear hb); have hcz36_0 : w35.cell? ⟨gb1132, 0, none⟩ = some (.int .i64 t1134) := (blk_cell BK1132.out 0).trans rfl; have hcz36_1 : w35.cell? ⟨gb1132, 1, none⟩ = some (.int .i64 0) := (blk_cell BK1132.out 1).trans rfl; have hcz36_2 : w35.cell? ⟨gb1132, 2, none⟩ = some (.int .i64 0) := (blk_cell BK1132.out 2).trans rfl; have hfz36_0 := blk_frozen BK1132.out 0; have hfz36_1 := blk_frozen BK1132.out 1; have hfz36_2 := blk_frozen BK1132.out 2; have p1139 : 0 ≤ (2 : Int) := (by omega); have q1139 : 2 < (t1129.length : Int) := of_decide_eq_true (by (with_reducible assumption)); obtain ⟨ad1139, e1139, hx1139_0⟩ := Kd.at_string (Kd.R_reads' HO1131.out).2.2 2 p1139 q1139; obtain rfl : ad1133 = ad1139 := (by injection e1139); (try simp only [show (2 : Int).toNat = 2 from rfl, Nat.reduceMul, Nat.reduceEqDiff, Go.Addr.add, ↓reduceIte] at hx1139_0); have qi1139 : (2 < t1129.length) = True := eq_true (by omega); (try rw [show ((2 : Int)).toNat = 2 from rfl] at hx1139_0); have hn1139_0 : ad1133.block ≠ gb1132 := Kd.own_blk (Kd.R_ne HO1131.out BK1132.out (by decide)); replace hx1139_0 := (cell_far (p := ⟨gb1132, 1, none⟩) (by exact hn1139_0) (.int .i64 t1137)).trans hx1139_0; clear hn1139_0; replace p1139 := eq_true p1139; replace q1139 := eq_true q1139) | ((with_reducible refine gate_callee (f := 136) rfl ?_); refine goesL_ (some 33) rfl rfl Try.func136 (by kernel_rfl) rfl #[.string (rdOf ByteArray.empty t1129 2)] rfl (by (try simp only [List.map_toArray, List.map_cons, List.map_nil]); rfl) ?_; (with_reducible refine (spec_ParseInt.calls k (rdOf ByteArray.empty t1129 2) t1140 t1141 _ A9.out).mono ?_); rintro e w37 ⟨rfl, hb⟩; refine ⟨_, rfl, ?_⟩; have n0_ := Aside0.mk (Kd.R_below (by exact (Kd.R_mono (Kd.R_far (p := ⟨gb1132, 1, none⟩) (Kd.R_types HO1131.out BK1132.out (by decide)) (fun _ hk => hk.2) (.int .i64 t1137)) (fun _ h_ => h_.1))) hb); have n1_ := Aside0.mk (blk_below (g := gb1128) (o := .cells #[.int .i64 0, .int .i64 0, .int .i64 0] 60 (0, 0)) (by refine blk_far ?_ NB1128_1132.out _; exact BK1128.out) hb); have n2_ := Aside0.mk (blk_below (g := gb1132) (o := .cells #[.int .i64 t1134, .int .i64 t1137, .int .i64 0] 60 (0, 0)) (by refine blk_put (cs := #[.int .i64 t1134, .int .i64 0, .int .i64 0]) ?_ 1 _ rfl; exact BK1132.out) hb); have n3_ := Aside0.mk (below_step (by repeat (with_reducible first | exact HB.out | refine below_set ?_ GE1132.out)) hb); clear HO1131; clear BK1128; clear BK1132; clear HB; have HO1131 := n0_; have BK1128 := n1_; have BK1132 := n2_; have HB := n3_; clear n0_ n1_ n2_ n3_; (try clear hb); have hcz38_0 : w37.cell? ⟨gb1132, 0, none⟩ = some (.int .i64 t1134) := (blk_cell BK1132.out 0).trans rfl; have hcz38_1 : w37.cell? ⟨gb1132, 1, none⟩ = some (.int .i64 t1137) := (blk_cell BK1132.out 1).trans rfl; have hcz38_2 : w37.cell? ⟨gb1132, 2, none⟩ = some (.int .i64 0) := (blk_cell BK1132.out 2).trans rfl; have hfz38_0 := blk_frozen BK1132.out 0; have hfz38_1 := blk_frozen BK1132.out 1; have hfz38_2 := blk_frozen BK1132.out 2) | ((with_reducible refine gate_callee (f := 198) rfl ?_); refine goesL_ (some 38) rfl rfl Try.func198 (by kernel_rfl) rfl #[.agg #[.int .i64 t1134, .int .i64 t1137, .int .i64 t1140]] rfl (by (try simp only [List.map_toArray, List.map_cons, List.map_nil]); rfl) ?_; (with_reducible refine (spec_FormatRow.calls k t1134 t1137 t1140 t1142 _ A10.out).mono ?_); rintro e w39 ⟨rfl, hb⟩; refine ⟨_, rfl, ?_⟩; have n0_ := Aside0.mk (Kd.R_below (by exact (Kd.R_mono (Kd.R_far (p := ⟨gb1132, 2, none⟩) (Kd.R_types HO1131.out BK1132.out (by decide)) (fun _ hk => hk.2) (.int .i64 t1140)) (fun _ h_ => h_.1))) hb); have n1_ := Aside0.mk (blk_below (g := gb1128) (o := .cells #[.int .i64 0, .int .i64 0, .int .i64 0] 60 (0, 0)) (by refine blk_far ?_ NB1128_1132.out _; exact BK1128.out) hb); have n2_ := Aside0.mk (blk_below (g := gb1132) (o := .cells #[.int .i64 t1134, .int .i64 t1137, .int .i64 t1140] 60 (0, 0)) (by refine blk_put (cs := #[.int .i64 t1134, .int .i64 t1137, .int .i64 0]) ?_ 2 _ rfl; exact BK1132.out) hb); have n3_ := Aside0.mk (below_step (by repeat (with_reducible first | exact HB.out | refine below_set ?_ GE1132.out)) hb); clear HO1131; clear BK1128; clear BK1132; clear HB; have HO1131 := n0_; have BK1128 := n1_; have BK1132 := n2_; have HB := n3_; clear n0_ n1_ n2_ n3_; (try clear hb); have hcz40_0 : w39.cell? ⟨gb1128, 0, none⟩ = some (.int .i64 0) := (blk_cell BK1128.out 0).trans rfl; have hcz40_1 : w39.cell? ⟨gb1128, 1, none⟩ = some (.int .i64 0) := (blk_cell BK1128.out 1).trans rfl; have hcz40_2 : w39.cell? ⟨gb1128, 2, none⟩ = some (.int .i64 0) := (blk_cell BK1128.out 2).trans rfl; have hfz40_0 := blk_frozen BK1128.out 0; have hfz40_1 := blk_frozen BK1128.out 1; have hfz40_2 := blk_frozen BK1128.out 2))
      refine bodyPost_ret (results_ct rfl _ _ gb1128 60 #[.int .i64 0, .int .i64 0, .int .i64 0] (0, 0) _ rfl (by refine blk_put (cs := #[.int .i64 0, .int .i64 0, .int .i64 0]) ?_ 2 _ rfl; refine blk_put (cs := #[.int .i64 0, .int .i64 0, .int .i64 0]) ?_ 1 _ rfl; refine blk_put (cs := #[.int .i64 0, .int .i64 0, .int .i64 0]) ?_ 0 _ rfl; exact BK1128.out) Try.underlying60 rfl (by kernel_rfl)) rfl ?_
      exact ⟨rfl, by repeat ((with_reducible first | exact HB.out | refine below_set ?_ GE1128.out))⟩
    ·rw [if_neg c8] at H
     exact absurd H (by simp)
   ·rw [if_neg c6] at H
    exact absurd H (by simp)
  ·rw [if_neg c4] at H
   exact absurd H (by simp)
 ·rw [if_neg c3] at H
  have c3b0 : ((t1129.length : Int) == 3) = false := beq_eq_false_iff_ne.mpr c3
  have c3b1 : ((t1129.length : Int) != 3) = true := bne_iff_ne.mpr c3
  simp only [Option.some.injEq, Prod.mk.injEq] at H
  obtain ⟨rfl, rfl, rfl, rfl⟩ := H
  go_enter Try.func185, Try.ntmps185
  go_wp2_with (first | ((with_reducible refine gate_dst (N := 2) rfl ?_); refine box_event ?hg (N := 2) ?hd (cs := #[.int .i64 0, .int .i64 0, .int .i64 0]) (t := 60) ?hr ?_; (case hd => rfl); (case hg => rfl); (case hr => (go_simp; done)); intro gb1128 hg w41 hbox hb; have n0_ := Aside0.mk (below_step HB.out hb); have n1_ := Aside0.mk (hbox); have n2_ := Aside0.mk ((by rw [hg]; exact (below_size HB.out) : w.heap.size ≤ gb1128)); have n3_ := Aside0.mk ((by rw [hg]; exact (below_size HB.out) : w.heap.size ≤ gb1128)); clear HB; have HB := n0_; have BK1128 := n1_; have GW1128 := n2_; have GE1128 := n3_; clear n0_ n1_ n2_ n3_; clear hb hbox hg) | ((with_reducible refine gate_callee (f := 135) rfl ?_); refine goesL_ (some 7) rfl rfl Try.func135 (by kernel_rfl) rfl #[.string a0, .int .u8 46] rfl (by (try simp only [List.map_toArray, List.map_cons, List.map_nil]); rfl) ?_; (with_reducible refine (spec_l2Cut.calls k a0 46 t1129 _ A2.out).mono ?_); rintro e w42 ⟨v1130, rfl, ho0, hb⟩; refine ⟨_, rfl, ?_⟩; have n0_ := Aside0.mk (Kd.R_lower ho0 (below_size HB.out)); have n1_ := Aside0.mk (blk_below (g := gb1128) (o := .cells #[.int .i64 0, .int .i64 0, .int .i64 0] 60 (0, 0)) BK1128.out hb); have n2_ := Aside0.mk (below_step HB.out hb); clear BK1128; clear HB; have HO1131 := n0_; have BK1128 := n1_; have HB := n2_; clear n0_ n1_ n2_; (try clear hb); (try clear ho0); obtain ⟨Ao43, co43, eo43⟩ := Kd.R_slice HO1131.out; subst eo43; have hcz44_0 : w42.cell? ⟨gb1128, 0, none⟩ = some (.int .i64 0) := (blk_cell BK1128.out 0).trans rfl; have hcz44_1 : w42.cell? ⟨gb1128, 1, none⟩ = some (.int .i64 0) := (blk_cell BK1128.out 1).trans rfl; have hcz44_2 : w42.cell? ⟨gb1128, 2, none⟩ = some (.int .i64 0) := (blk_cell BK1128.out 2).trans rfl; have hfz44_0 := blk_frozen BK1128.out 0; have hfz44_1 := blk_frozen BK1128.out 1; have hfz44_2 := blk_frozen BK1128.out 2))
  refine bodyPost_ret (results_ct rfl _ _ gb1128 60 #[.int .i64 0, .int .i64 0, .int .i64 0] (0, 0) _ rfl (by refine blk_put (cs := #[.int .i64 0, .int .i64 0, .int .i64 0]) ?_ 2 _ rfl; refine blk_put (cs := #[.int .i64 0, .int .i64 0, .int .i64 0]) ?_ 1 _ rfl; refine blk_put (cs := #[.int .i64 0, .int .i64 0, .int .i64 0]) ?_ 0 _ rfl; exact BK1128.out) Try.underlying60 rfl (by kernel_rfl)) rfl ?_
  exact ⟨rfl, by repeat ((with_reducible first | exact HB.out | refine below_set ?_ GE1128.out))⟩

mutual
def spec_ParseRows.l0 : Nat → ByteArray → List (S60) → List ByteArray → Int → Option ((List (S60)) × Bool)
 | 0, _, _, _, _ => none
 | k + 1, x0, x4, x5, x6 => if x6 < (x5.length : Int) then (spec_ParseRows.j1 k x0 x4 x5 x6 (x0.toList != ([] : List UInt8))) else (spec_ParseRows.j1 k x0 x4 x5 x6 false)
def spec_ParseRows.j1 : Nat → ByteArray → List (S60) → List ByteArray → Int → Bool → Option ((List (S60)) × Bool)
 | 0, _, _, _, _, _ => none
 | k + 1, x0, x4, x5, x6, x19 => if x19 = true then (if 0 ≤ x6 then (if x6 < (x5.length : Int) then ((spec_ParseRow.f k (rdOf ByteArray.empty x5 x6)).bind fun bt1150 => (if bt1150.2.2.2 = true then (if x4.length < 5864062014805 then (spec_ParseRows.l0 k x0 (x4 ++ [(⟨bt1150.1, bt1150.2.1, bt1150.2.2.1⟩ : S60)]) x5 (wrap64 (x6 + 1))) else (none)) else (some ((([] : List (S60))), false)))) else (none)) else (none)) else ((spec_AreValidRows.f k x4).bind fun t1161 => (if t1161 = true then (some (x4, true)) else (some ((([] : List (S60))), false))))
end
def spec_ParseRows.f (k : Nat) (a0 : ByteArray) : Option ((List (S60)) × Bool) := (spec_l2Cut.f k a0 32).bind fun t1146 => (spec_ParseRows.l0 k a0 (([] : List (S60))) t1146 0)
theorem spec_ParseRows.calls (k : Nat) (a0 : ByteArray) (r1 : List (S60)) (r2 : Bool) (w : World) (h : spec_ParseRows.f k a0 = some (r1, r2)) :
  Calls Try.prog 137 #[.string a0] w fun e w' => ∃ v0_ : Value, e = .returned (.tuple #[v0_, .bool r2]) ∧ Kd.R k60 60 w' w.heap.size (fun _ => True) v0_ r1 ∧ Below w.heap.size w w' := by
 have hu60 := Try.underlying60
 have HB := Aside0.mk (Below.refl w.heap.size w)
 have H : ((spec_l2Cut.f k a0 32).bind fun t1146 => (spec_ParseRows.l0 k a0 (([] : List (S60))) t1146 0)) = some (r1, r2) := h
 clear h
 obtain ⟨y1143, hy1143⟩ : ∃ y_ : List (S60), y_ = (([] : List (S60))) := ⟨_, rfl⟩
 replace H : ((spec_l2Cut.f k a0 32).bind fun t1146 => (spec_ParseRows.l0 k a0 y1143 t1146 0)) = some (r1, r2) := by (rw [hy1143]; with_reducible exact H)
 have Ny1143 := Aside0.mk hy1143
 clear hy1143
 replace H := Option.bind_eq_some_iff.mp H
 obtain ⟨t1146, A20, H⟩ := H
 have A2 := Aside0.mk A20
 clear A20
 have H' := Aside0.mk H
 clear H
 go_enter Try.func137, Try.ntmps137
 go_wp2_with (first | ((with_reducible refine gate_dst (N := 9) rfl ?_); refine Kd.R_lit k60 _ 60 ?hg (N := 9) ?hd (xs := ([] : List (S60))) (inner := []) (ok := fun _ => True) (okp := fun _ => True) ?hr ?hp (fun _ hk => hk) trivial (Below.refl _ _) (Nat.le_refl _) (by simp) ?_; (case hd => rfl); (case hg => rfl); (case hr => (go_simp; done)); (case hp => exact (Reps.none _ _)); intro v1144 w3 ho4 hb hg_ hnew_; clear hg_ hnew_; (rw [← Ny1143.out] at ho4); have n0_ := Aside0.mk (Kd.R_lower ho4 (below_size HB.out)); have n1_ := Aside0.mk (below_step HB.out hb); clear HB; have HO1145 := n0_; have HB := n1_; clear n0_ n1_; clear hb ho4) | ((with_reducible refine gate_callee (f := 135) rfl ?_); refine goesL_ (some 11) rfl rfl Try.func135 (by kernel_rfl) rfl #[.string a0, .int .u8 32] rfl (by (try simp only [List.map_toArray, List.map_cons, List.map_nil]); rfl) ?_; (with_reducible refine (spec_l2Cut.calls k a0 32 t1146 _ A2.out).mono ?_); rintro e w5 ⟨v1147, rfl, ho0, hb⟩; refine ⟨_, rfl, ?_⟩; have n0_ := Aside0.mk (Kd.R_below HO1145.out hb); have n1_ := Aside0.mk (Kd.R_lower ho0 (below_size HB.out)); have n2_ := Aside0.mk (below_step HB.out hb); clear HO1145; clear HB; have HO1145 := n0_; have HO1148 := n1_; have HB := n2_; clear n0_ n1_ n2_; (try clear hb); (try clear ho0)))
 go_loopg [4, 6] k (fun kq v4 v6 w' => ∃ (x4_1 : List (S60)) (x6_1 : Int), v6 = .int .i64 x6_1 ∧ Aside0 (spec_ParseRows.l0 kq a0 x4_1 t1146 x6_1 = some (r1, r2)) ∧ Aside0 (kq ≤ k) ∧ Aside0 (Kd.R k60 60 w' w.heap.size (fun _ => True) v4 x4_1) ∧ Aside0 (Kd.R Kd.string 9 w' w.heap.size (fun _ => True) v1147 t1146) ∧ Aside0 (Below w.heap.size w w'))
 case atStart => exact ⟨(y1143), (0), rfl, H', ⟨Nat.le_refl _⟩, ⟨HO1145.out⟩, ⟨HO1148.out⟩, ⟨HB.out⟩⟩
 case round =>
  clear H'
  obtain ⟨x4_1, x6_1, rfl, HA, HK1, HO_4, HO_5, HB⟩ := hrel
  cases gk with
  | zero => exact absurd HA.out (by simp [spec_ParseRows.l0])
  | succ k1 =>
   have H := HA.out
   clear HA
   simp only [spec_ParseRows.l0] at H
   have HC6 := Aside0.mk H
   clear H
   go_upto_region 4 with (fail)
   go_cut [19] (fun v19 wc => ∃ (kq : Nat) (x19_5 : Bool), v19 = .bool x19_5 ∧ Aside0 (spec_ParseRows.j1 kq a0 x4_1 t1146 x6_1 x19_5 = some (r1, r2)) ∧ Aside0 (kq ≤ k1) ∧ Aside0 (Kd.R k60 60 wc w.heap.size (fun _ => True) u4 x4_1) ∧ Aside0 (Kd.R Kd.string 9 wc w.heap.size (fun _ => True) v1147 t1146) ∧ Aside0 (Below w.heap.size w wc))
   case first =>
    have H := HC6.out
    clear HC6
    by_cases c7 : x6_1 < (t1146.length : Int)
    ·rw [if_pos c7] at H
     have c7b0 : decide (x6_1 < (t1146.length : Int)) = true := decide_eq_true c7
     clear c7
     (skip)
     have H' := Aside0.mk H
     clear H
     obtain ⟨Ao8, co8, eo8⟩ := Kd.R_slice HO_5.out
     subst eo8
     go_wp2
     go_meet
     case rel => exact ⟨_, ((a0.toList != ([] : List UInt8))), (by (simp; exact isE_ _)), H', ⟨by have := HK1.out; omega⟩, ⟨HO_4.out⟩, ⟨HO_5.out⟩, ⟨HB.out⟩⟩
    ·rw [if_neg c7] at H
     have c7b0 : decide (x6_1 < (t1146.length : Int)) = false := decide_eq_false c7
     clear c7
     (skip)
     have H' := Aside0.mk H
     clear H
     obtain ⟨Ao9, co9, eo9⟩ := Kd.R_slice HO_5.out
     subst eo9
     go_wp2
     go_meet
     case rel => exact ⟨_, (false), rfl, H', ⟨by have := HK1.out; omega⟩, ⟨HO_4.out⟩, ⟨HO_5.out⟩, ⟨HB.out⟩⟩
   case rest =>
    clear HC6
    obtain ⟨kq, x19_5, rfl, HA, HJ5, HO_4, HO_5, HB⟩ := hcut
    cases kq with
    | zero => exact absurd HA.out (by simp [spec_ParseRows.j1])
    | succ kj5 =>
     have H := HA.out
     clear HA
     simp only [spec_ParseRows.j1] at H
     by_cases c10 : x19_5 = true
     ·subst c10
      rw [if_pos rfl] at H
      by_cases c11 : 0 ≤ x6_1
      ·rw [if_pos c11] at H
       have c11b0 : decide (0 ≤ x6_1) = true := decide_eq_true c11
       clear c11
       by_cases c12 : x6_1 < (t1146.length : Int)
       ·rw [if_pos c12] at H
        have c12b0 : decide (x6_1 < (t1146.length : Int)) = true := decide_eq_true c12
        clear c12
        replace H := Option.bind_eq_some_iff.mp H
        obtain ⟨⟨t1150, t1151, t1152, t1153⟩, A130, H⟩ := H
        have A13 := Aside0.mk A130
        clear A130
        by_cases c14 : t1153 = true
        ·subst c14
         rw [if_pos rfl] at H
         by_cases c15 : x4_1.length < 5864062014805
         ·rw [if_pos c15] at H
          have LMc15 := Aside0.mk c15
          clear c15
          obtain ⟨y1155, hy1155⟩ : ∃ y_ : List (S60), y_ = (x4_1 ++ [(⟨t1150, t1151, t1152⟩ : S60)]) := ⟨_, rfl⟩
          replace H : (spec_ParseRows.l0 kj5 a0 y1155 t1146 (wrap64 (x6_1 + 1))) = some (r1, r2) := by (rw [hy1155]; with_reducible exact H)
          have Ny1155 := Aside0.mk hy1155
          clear hy1155
          have H' := Aside0.mk H
          clear H
          obtain ⟨Ao16, co16, eo16⟩ := Kd.R_slice HO_5.out
          subst eo16
          have p1149 : 0 ≤ (x6_1 : Int) := of_decide_eq_true (by (with_reducible assumption))
          have q1149 : x6_1 < (t1146.length : Int) := of_decide_eq_true (by (with_reducible assumption))
          obtain ⟨ad1149, e1149, hx1149_0⟩ := Kd.at_string (Kd.R_reads' HO_5.out).2.2 x6_1 p1149 q1149
          cases e1149
          replace p1149 := eq_true p1149
          replace q1149 := eq_true q1149
          go_wp2_with (first | ((with_reducible refine gate_callee (f := 185) rfl ?_); refine goesL_ (some 27) rfl rfl Try.func185 (by kernel_rfl) rfl #[.string (rdOf ByteArray.empty t1146 x6_1)] rfl (by (try simp only [List.map_toArray, List.map_cons, List.map_nil]); rfl) ?_; (with_reducible refine (spec_ParseRow.calls kj5 (rdOf ByteArray.empty t1146 x6_1) t1150 t1151 t1152 true _ A13.out).mono ?_); rintro e w17 ⟨rfl, hb⟩; refine ⟨_, rfl, ?_⟩; have n0_ := Aside0.mk (Kd.R_below HO_4.out hb); have n1_ := Aside0.mk (Kd.R_below HO_5.out hb); have n2_ := Aside0.mk (below_step HB.out hb); clear HO_4; clear HO_5; clear HB; have HO_4 := n0_; have HO_5 := n1_; have HB := n2_; clear n0_ n1_ n2_; (try clear hb)) | ((with_reducible refine gate_dst (N := 7) rfl ?_); refine box_event ?hg (N := 7) ?hd (cs := #[.int .i64 0, .int .i64 0, .int .i64 0]) (t := 60) ?hr ?_; (case hd => rfl); (case hg => rfl); (case hr => (go_simp; done)); intro gb1154 hg w18 hbox hb; have n0_ := Aside0.mk (Kd.R_below (Kd.R_elderB HO_4.out gb1154 (Nat.le_of_eq hg.symm)) hb); have n1_ := Aside0.mk (Kd.R_below HO_5.out hb); have n2_ := Aside0.mk (below_step HB.out hb); have n3_ := Aside0.mk (hbox); have n4_ := Aside0.mk ((by rw [hg]; exact (below_size HB.out) : w.heap.size ≤ gb1154)); have n5_ := Aside0.mk ((by rw [hg]; exact (below_size HB.out) : w.heap.size ≤ gb1154)); clear HO_4; clear HO_5; clear HB; have HO_4 := n0_; have HO_5 := n1_; have HB := n2_; have BK1154 := n3_; have GW1154 := n4_; have GE1154 := n5_; clear n0_ n1_ n2_ n3_ n4_ n5_; clear hb hbox hg; have hcz19_0 : w18.cell? ⟨gb1154, 0, none⟩ = some (.int .i64 0) := (blk_cell BK1154.out 0).trans rfl; have hcz19_1 : w18.cell? ⟨gb1154, 1, none⟩ = some (.int .i64 0) := (blk_cell BK1154.out 1).trans rfl; have hcz19_2 : w18.cell? ⟨gb1154, 2, none⟩ = some (.int .i64 0) := (blk_cell BK1154.out 2).trans rfl; have hfz19_0 := blk_frozen BK1154.out 0; have hfz19_1 := blk_frozen BK1154.out 1; have hfz19_2 := blk_frozen BK1154.out 2) | ((with_reducible refine gate_builtin (b := .append) (xs := #[.tmp 33, .tmp 35]) rfl ?_); at_builtin; refine Kd.R_append k60 (w0 := w) w.heap.size rfl (.tmp 33) (.tmp 35) 24 60 (.agg #[(.int .i64 0), (.int .i64 0), (.int .i64 0)]) 24 rfl Try.underlying24 info60 rfl (by decide) (by omega) u4 x4_1 (⟨t1150, t1151, t1152⟩ : S60) [.int .i64 t1150, .int .i64 t1151, .int .i64 t1152] (fun k_ => k_ ≠ gb1154) (fun _ => False) rfl (by (go_simp; done)) ?aP (fun _ hk => hk.elim) ?aF ?aO ?aB ?aS ?aL ?_; (case aP => exact k60_mkM _ _ _ (⟨t1150, t1151, t1152⟩ : S60)); (case aB => exact (by repeat (with_reducible first | exact HB.out | refine below_set ?_ GE1154.out))); (case aF => exact (fun k_ hk => Kd.freshB (g := gb1154) (o := .cells #[.int .i64 t1150, .int .i64 t1151, .int .i64 t1152] 60 (0, 0)) (by refine blk_put (cs := #[.int .i64 t1150, .int .i64 t1151, .int .i64 0]) ?_ 2 _ rfl; refine blk_put (cs := #[.int .i64 t1150, .int .i64 0, .int .i64 0]) ?_ 1 _ rfl; refine blk_put (cs := #[.int .i64 0, .int .i64 0, .int .i64 0]) ?_ 0 _ rfl; exact BK1154.out) k_ hk)); (case aO => exact (by exact Kd.R_mono (Kd.R_far (p := ⟨gb1154, 2, none⟩) (Kd.R_far (p := ⟨gb1154, 1, none⟩) (Kd.R_far (p := ⟨gb1154, 0, none⟩) (Kd.R_mono HO_4.out (fun k_ hk => (⟨hk, hk.2⟩ : _ ∧ k_ ≠ gb1154))) (fun _ hk => hk.2) (.int .i64 t1150)) (fun _ hk => hk.2) (.int .i64 t1151)) (fun _ hk => hk.2) (.int .i64 t1152)) (fun _ hk => hk.1.2))); (case aS => exact (below_size (by repeat (with_reducible first | exact HB.out | refine below_set ?_ GE1154.out)))); (case aL => have := LMc15.out; omega); intro v1156 w20 ho hb hg hat; rw [← Ny1155.out] at ho; have n0_ := Aside0.mk (Kd.R_over' (by exact (Kd.R_mono (Kd.R_far (p := ⟨gb1154, 2, none⟩) (Kd.R_far (p := ⟨gb1154, 1, none⟩) (Kd.R_far (p := ⟨gb1154, 0, none⟩) (Kd.R_types HO_5.out BK1154.out (by decide)) (fun _ hk => hk.2) (.int .i64 t1150)) (fun _ hk => hk.2) (.int .i64 t1151)) (fun _ hk => hk.2) (.int .i64 t1152)) (fun _ h_ => h_.1))) (Kd.R_typed (by exact (Kd.R_mono (Kd.R_far (p := ⟨gb1154, 2, none⟩) (Kd.R_far (p := ⟨gb1154, 1, none⟩) (Kd.R_far (p := ⟨gb1154, 0, none⟩) (Kd.R_mono HO_4.out (fun k_ hk => (⟨hk, hk.2⟩ : _ ∧ k_ ≠ gb1154))) (fun _ hk => hk.2) (.int .i64 t1150)) (fun _ hk => hk.2) (.int .i64 t1151)) (fun _ hk => hk.2) (.int .i64 t1152)) (fun _ h_ => h_.1)))) (by decide) hg); have n1_ := Aside0.mk (blk_grown (g := gb1154) (o := .cells #[.int .i64 t1150, .int .i64 t1151, .int .i64 t1152] 60 (0, 0)) (by refine blk_put (cs := #[.int .i64 t1150, .int .i64 t1151, .int .i64 0]) ?_ 2 _ rfl; refine blk_put (cs := #[.int .i64 t1150, .int .i64 0, .int .i64 0]) ?_ 1 _ rfl; refine blk_put (cs := #[.int .i64 0, .int .i64 0, .int .i64 0]) ?_ 0 _ rfl; exact BK1154.out) hg (Kd.R_away HO_4.out (fun _ hk => hk.2))); have n2_ := Aside0.mk (hb); have n3_ := Aside0.mk (ho); clear HO_5; clear BK1154; clear HB; clear HO_4; have HO_5 := n0_; have BK1154 := n1_; have HB := n2_; have HO1157 := n3_; clear n0_ n1_ n2_ n3_; clear ho hb hg hat))
          go_roundg kj5
          case measure => have := HK1.out; have := HJ5.out; omega
          case rel => exact ⟨(y1155), (wrap64 (x6_1 + 1)), rfl, H', ⟨by have := HK1.out; have := HJ5.out; omega⟩, ⟨by exact Kd.R_mono HO1157.out (fun _ hk => trivial)⟩, ⟨HO_5.out⟩, ⟨HB.out⟩⟩
         ·rw [if_neg c15] at H
          exact absurd H (by simp)
        ·replace c14 := Bool.eq_false_iff.mpr c14
         subst c14
         rw [if_neg (show ¬ (false = true) by decide)] at H
         obtain ⟨y1158, hy1158⟩ : ∃ y_ : List (S60), y_ = (([] : List (S60))) := ⟨_, rfl⟩
         replace H : (some (y1158, false)) = some (r1, r2) := by (rw [hy1158]; with_reducible exact H)
         have Ny1158 := Aside0.mk hy1158
         clear hy1158
         simp only [Option.some.injEq, Prod.mk.injEq] at H
         obtain ⟨rfl, rfl⟩ := H
         obtain ⟨Ao21, co21, eo21⟩ := Kd.R_slice HO_5.out
         subst eo21
         have p1149 : 0 ≤ (x6_1 : Int) := of_decide_eq_true (by (with_reducible assumption))
         have q1149 : x6_1 < (t1146.length : Int) := of_decide_eq_true (by (with_reducible assumption))
         obtain ⟨ad1149, e1149, hx1149_0⟩ := Kd.at_string (Kd.R_reads' HO_5.out).2.2 x6_1 p1149 q1149
         cases e1149
         replace p1149 := eq_true p1149
         replace q1149 := eq_true q1149
         go_wp2_with (first | ((with_reducible refine gate_callee (f := 185) rfl ?_); refine goesL_ (some 27) rfl rfl Try.func185 (by kernel_rfl) rfl #[.string (rdOf ByteArray.empty t1146 x6_1)] rfl (by (try simp only [List.map_toArray, List.map_cons, List.map_nil]); rfl) ?_; (with_reducible refine (spec_ParseRow.calls kj5 (rdOf ByteArray.empty t1146 x6_1) t1150 t1151 t1152 false _ A13.out).mono ?_); rintro e w22 ⟨rfl, hb⟩; refine ⟨_, rfl, ?_⟩; have n0_ := Aside0.mk (Kd.R_below HO_4.out hb); have n1_ := Aside0.mk (Kd.R_below HO_5.out hb); have n2_ := Aside0.mk (below_step HB.out hb); clear HO_4; clear HO_5; clear HB; have HO_4 := n0_; have HO_5 := n1_; have HB := n2_; clear n0_ n1_ n2_; (try clear hb)) | ((with_reducible refine gate_dst (N := 7) rfl ?_); refine box_event ?hg (N := 7) ?hd (cs := #[.int .i64 0, .int .i64 0, .int .i64 0]) (t := 60) ?hr ?_; (case hd => rfl); (case hg => rfl); (case hr => (go_simp; done)); intro gb1154 hg w23 hbox hb; have n0_ := Aside0.mk (Kd.R_below (Kd.R_elderB HO_4.out gb1154 (Nat.le_of_eq hg.symm)) hb); have n1_ := Aside0.mk (Kd.R_below HO_5.out hb); have n2_ := Aside0.mk (below_step HB.out hb); have n3_ := Aside0.mk (hbox); have n4_ := Aside0.mk ((by rw [hg]; exact (below_size HB.out) : w.heap.size ≤ gb1154)); have n5_ := Aside0.mk ((by rw [hg]; exact (below_size HB.out) : w.heap.size ≤ gb1154)); clear HO_4; clear HO_5; clear HB; have HO_4 := n0_; have HO_5 := n1_; have HB := n2_; have BK1154 := n3_; have GW1154 := n4_; have GE1154 := n5_; clear n0_ n1_ n2_ n3_ n4_ n5_; clear hb hbox hg; have hcz24_0 : w23.cell? ⟨gb1154, 0, none⟩ = some (.int .i64 0) := (blk_cell BK1154.out 0).trans rfl; have hcz24_1 : w23.cell? ⟨gb1154, 1, none⟩ = some (.int .i64 0) := (blk_cell BK1154.out 1).trans rfl; have hcz24_2 : w23.cell? ⟨gb1154, 2, none⟩ = some (.int .i64 0) := (blk_cell BK1154.out 2).trans rfl; have hfz24_0 := blk_frozen BK1154.out 0; have hfz24_1 := blk_frozen BK1154.out 1; have hfz24_2 := blk_frozen BK1154.out 2) | ((with_reducible refine gate_dst (N := 32) rfl ?_); refine Kd.R_lit k60 _ 60 ?hg (N := 32) ?hd (xs := ([] : List (S60))) (inner := []) (ok := fun _ => True) (okp := fun _ => True) ?hr ?hp (fun _ hk => hk) trivial (Below.refl _ _) (Nat.le_refl _) (by simp) ?_; (case hd => rfl); (case hg => rfl); (case hr => (go_simp; done)); (case hp => exact (Reps.none _ _)); intro v1159 w25 ho26 hb hg_ hnew_; clear hg_ hnew_; (rw [← Ny1158.out] at ho26); have n0_ := Aside0.mk (Kd.R_elder' (by exact (Kd.R_mono (Kd.R_far (p := ⟨gb1154, 2, none⟩) (Kd.R_far (p := ⟨gb1154, 1, none⟩) (Kd.R_far (p := ⟨gb1154, 0, none⟩) (Kd.R_mono HO_4.out (fun k_ hk => (⟨hk, hk.2⟩ : _ ∧ k_ ≠ gb1154))) (fun _ hk => hk.2) (.int .i64 t1150)) (fun _ hk => hk.2) (.int .i64 t1151)) (fun _ hk => hk.2) (.int .i64 t1152)) (fun _ h_ => h_.1))) (Kd.R_base ho26) hb); have n1_ := Aside0.mk (Kd.R_below (by exact (Kd.R_mono (Kd.R_far (p := ⟨gb1154, 2, none⟩) (Kd.R_far (p := ⟨gb1154, 1, none⟩) (Kd.R_far (p := ⟨gb1154, 0, none⟩) (Kd.R_types HO_5.out BK1154.out (by decide)) (fun _ hk => hk.2) (.int .i64 t1150)) (fun _ hk => hk.2) (.int .i64 t1151)) (fun _ hk => hk.2) (.int .i64 t1152)) (fun _ h_ => h_.1))) hb); have n2_ := Aside0.mk (Kd.R_lower (Kd.R_newB (Kd.R_new' ho26 (Kd.R_lt (by exact (Kd.R_mono (Kd.R_far (p := ⟨gb1154, 2, none⟩) (Kd.R_far (p := ⟨gb1154, 1, none⟩) (Kd.R_far (p := ⟨gb1154, 0, none⟩) (Kd.R_mono HO_4.out (fun k_ hk => (⟨hk, hk.2⟩ : _ ∧ k_ ≠ gb1154))) (fun _ hk => hk.2) (.int .i64 t1150)) (fun _ hk => hk.2) (.int .i64 t1151)) (fun _ hk => hk.2) (.int .i64 t1152)) (fun _ h_ => h_.1))))) (g := gb1154) (o := .cells #[.int .i64 t1150, .int .i64 t1151, .int .i64 t1152] 60 (0, 0)) (by refine blk_put (cs := #[.int .i64 t1150, .int .i64 t1151, .int .i64 0]) ?_ 2 _ rfl; refine blk_put (cs := #[.int .i64 t1150, .int .i64 0, .int .i64 0]) ?_ 1 _ rfl; refine blk_put (cs := #[.int .i64 0, .int .i64 0, .int .i64 0]) ?_ 0 _ rfl; exact BK1154.out)) (below_size (by repeat (with_reducible first | exact HB.out | refine below_set ?_ GE1154.out)))); have n3_ := Aside0.mk (blk_below (g := gb1154) (o := .cells #[.int .i64 t1150, .int .i64 t1151, .int .i64 t1152] 60 (0, 0)) (by refine blk_put (cs := #[.int .i64 t1150, .int .i64 t1151, .int .i64 0]) ?_ 2 _ rfl; refine blk_put (cs := #[.int .i64 t1150, .int .i64 0, .int .i64 0]) ?_ 1 _ rfl; refine blk_put (cs := #[.int .i64 0, .int .i64 0, .int .i64 0]) ?_ 0 _ rfl; exact BK1154.out) hb); have n4_ := Aside0.mk (below_step (by repeat (with_reducible first | exact HB.out | refine below_set ?_ GE1154.out)) hb); clear HO_4; clear HO_5; clear BK1154; clear HB; have HO_4 := n0_; have HO_5 := n1_; have HO1160 := n2_; have BK1154 := n3_; have HB := n4_; clear n0_ n1_ n2_ n3_ n4_; clear hb ho26))
         go_ret2
         exact ⟨_, rfl, by exact Kd.R_mono HO1160.out (fun _ hk => trivial), HB.out⟩
       ·rw [if_neg c12] at H
        exact absurd H (by simp)
      ·rw [if_neg c11] at H
       exact absurd H (by simp)
     ·replace c10 := Bool.eq_false_iff.mpr c10
      subst c10
      rw [if_neg (show ¬ (false = true) by decide)] at H
      replace H := Option.bind_eq_some_iff.mp H
      obtain ⟨t1161, A270, H⟩ := H
      have A27 := Aside0.mk A270
      clear A270
      by_cases c28 : t1161 = true
      ·subst c28
       rw [if_pos rfl] at H
       simp only [Option.some.injEq, Prod.mk.injEq] at H
       obtain ⟨rfl, rfl⟩ := H
       obtain ⟨Ao29, co29, eo29⟩ := Kd.R_slice HO_4.out
       subst eo29
       go_wp2_with (((with_reducible refine gate_callee (f := 46) rfl ?_); refine goesL_ (some 38) rfl rfl Try.func46 (by kernel_rfl) rfl #[.slice Ao29 x4_1.length co29] rfl (by (try simp only [List.map_toArray, List.map_cons, List.map_nil]); rfl) ?_; (with_reducible refine (spec_AreValidRows.calls kj5 _ _ x4_1 true _ ?side1 ?side2 A27.out).mono ?_); (case side1 => repeat (exact (Kd.R_reads' HO_4.out).2.2)); (case side2 => exact (Kd.R_reads' HO_4.out).2.1); rintro e w30 ⟨rfl, hb⟩; refine ⟨_, rfl, ?_⟩; have n0_ := Aside0.mk (Kd.R_below HO_4.out hb); have n1_ := Aside0.mk (Kd.R_below HO_5.out hb); have n2_ := Aside0.mk (below_step HB.out hb); clear HO_4; clear HO_5; clear HB; have HO_4 := n0_; have HO_5 := n1_; have HB := n2_; clear n0_ n1_ n2_; (try clear hb)))
       go_ret2
       exact ⟨_, rfl, HO_4.out, HB.out⟩
      ·replace c28 := Bool.eq_false_iff.mpr c28
       subst c28
       rw [if_neg (show ¬ (false = true) by decide)] at H
       obtain ⟨y1162, hy1162⟩ : ∃ y_ : List (S60), y_ = (([] : List (S60))) := ⟨_, rfl⟩
       replace H : (some (y1162, false)) = some (r1, r2) := by (rw [hy1162]; with_reducible exact H)
       have Ny1162 := Aside0.mk hy1162
       clear hy1162
       simp only [Option.some.injEq, Prod.mk.injEq] at H
       obtain ⟨rfl, rfl⟩ := H
       obtain ⟨Ao31, co31, eo31⟩ := Kd.R_slice HO_4.out
       subst eo31
       go_wp2_with (first | ((with_reducible refine gate_callee (f := 46) rfl ?_); refine goesL_ (some 38) rfl rfl Try.func46 (by kernel_rfl) rfl #[.slice Ao31 x4_1.length co31] rfl (by (try simp only [List.map_toArray, List.map_cons, List.map_nil]); rfl) ?_; (with_reducible refine (spec_AreValidRows.calls kj5 _ _ x4_1 false _ ?side1 ?side2 A27.out).mono ?_); (case side1 => repeat (exact (Kd.R_reads' HO_4.out).2.2)); (case side2 => exact (Kd.R_reads' HO_4.out).2.1); rintro e w32 ⟨rfl, hb⟩; refine ⟨_, rfl, ?_⟩; have n0_ := Aside0.mk (Kd.R_below HO_4.out hb); have n1_ := Aside0.mk (Kd.R_below HO_5.out hb); have n2_ := Aside0.mk (below_step HB.out hb); clear HO_4; clear HO_5; clear HB; have HO_4 := n0_; have HO_5 := n1_; have HB := n2_; clear n0_ n1_ n2_; (try clear hb)) | ((with_reducible refine gate_dst (N := 40) rfl ?_); refine Kd.R_lit k60 _ 60 ?hg (N := 40) ?hd (xs := ([] : List (S60))) (inner := []) (ok := fun _ => True) (okp := fun _ => True) ?hr ?hp (fun _ hk => hk) trivial (Below.refl _ _) (Nat.le_refl _) (by simp) ?_; (case hd => rfl); (case hg => rfl); (case hr => (go_simp; done)); (case hp => exact (Reps.none _ _)); intro v1163 w33 ho34 hb hg_ hnew_; clear hg_ hnew_; (rw [← Ny1162.out] at ho34); have n0_ := Aside0.mk (Kd.R_elder' HO_4.out (Kd.R_base ho34) hb); have n1_ := Aside0.mk (Kd.R_below HO_5.out hb); have n2_ := Aside0.mk (Kd.R_lower (Kd.R_new' ho34 (Kd.R_lt HO_4.out)) (below_size HB.out)); have n3_ := Aside0.mk (below_step HB.out hb); clear HO_4; clear HO_5; clear HB; have HO_4 := n0_; have HO_5 := n1_; have HO1164 := n2_; have HB := n3_; clear n0_ n1_ n2_ n3_; clear hb ho34))
       go_ret2
       exact ⟨_, rfl, by exact Kd.R_mono HO1164.out (fun _ hk => trivial), HB.out⟩

def spec_IsValidJoinKind.f (a0 : Int) : Option (Bool) := (spec_l1In.f a0 1 4).bind fun t504 => (some t504)
theorem spec_IsValidJoinKind.calls (a0 : Int) (r : Bool) (w : World) (h : spec_IsValidJoinKind.f a0 = some r) :
  Calls Try.prog 47 #[.int .i64 a0] w fun e w' => e = .returned (.bool r) ∧ Drawn0 w w' := by
 have H : ((spec_l1In.f a0 1 4).bind fun t504 => (some t504)) = some r := h
 clear h
 replace H := Option.bind_eq_some_iff.mp H
 obtain ⟨t504, A20, H⟩ := H
 have A2 := Aside0.mk A20
 clear A20
 obtain rfl := Option.some.inj H
 go_enter Try.func47, Try.ntmps47
 go_wp2_with (((with_reducible refine gate_callee (f := 119) rfl ?_); refine goesL_ (some 4) rfl rfl Try.func119 (by kernel_rfl) rfl #[.int .i64 a0, .int .i64 1, .int .i64 4] rfl (by (try simp only [List.map_toArray, List.map_cons, List.map_nil]); rfl) ?_; (with_reducible refine (spec_l1In.calls a0 1 4 t504 _ A2.out).mono ?_); rintro e w' ⟨rfl, ⟨nd, rfl⟩⟩; refine ⟨_, rfl, ?_⟩))
 go_ret
 exact ⟨rfl, by repeat (first | exact Drawn0.refl _ | apply Drawn0.step)⟩

def spec_IsValidTask.f (k : Nat) (a0_0 : Int) (l0_1 : List (S60)) (l0_2 : List (S60)) (l0_3 : List Bool) (a0_4 : Int) : Option (Bool) := (spec_IsValidJoinKind.f a0_0).bind fun t525 => (if t525 = true then ((spec_AreValidRows.f k l0_1).bind fun t526 => (if t526 = true then ((spec_AreValidRows.f k l0_2).bind fun t527 => (if t527 = true then (if (l0_3.length : Int) = (l0_1.length : Int) then ((spec_l1In.f a0_4 0 4).bind fun t528 => (some t528)) else (some false)) else (some false))) else (some false))) else (some false))
theorem spec_IsValidTask.calls (k : Nat) (a0_0 : Int) (A0_1 : Option Addr) (c0_1 : Nat) (l0_1 : List (S60)) (A0_2 : Option Addr) (c0_2 : Nat) (l0_2 : List (S60)) (A0_3 : Option Addr) (c0_3 : Nat) (l0_3 : List Bool) (a0_4 : Int) (r : Bool) (w : World) (hr0_1 : Kd.C k60 w A0_1 l0_1.length l0_1) (hc0_1 : l0_1.length ≤ c0_1) (hr0_2 : Kd.C k60 w A0_2 l0_2.length l0_2) (hc0_2 : l0_2.length ≤ c0_2) (hr0_3 : Kd.C Kd.bool w A0_3 l0_3.length l0_3) (hc0_3 : l0_3.length ≤ c0_3) (h : spec_IsValidTask.f k a0_0 l0_1 l0_2 l0_3 a0_4 = some r) :
  Calls Try.prog 65 #[.agg #[.int .i64 a0_0, .slice A0_1 l0_1.length c0_1, .slice A0_2 l0_2.length c0_2, .slice A0_3 l0_3.length c0_3, .int .i64 a0_4]] w fun e w' => e = .returned (.bool r) ∧ Below w.heap.size w w' := by
 have hu40 := Try.underlying40
 have HR0_1 := Aside0.mk hr0_1
 have HC0_1 := Aside0.mk hc0_1
 clear hr0_1 hc0_1
 have HR0_2 := Aside0.mk hr0_2
 have HC0_2 := Aside0.mk hc0_2
 clear hr0_2 hc0_2
 have HR0_3 := Aside0.mk hr0_3
 have HC0_3 := Aside0.mk hc0_3
 clear hr0_3 hc0_3
 have HB := Aside0.mk (Below.refl w.heap.size w)
 have H : ((spec_IsValidJoinKind.f a0_0).bind fun t525 => (if t525 = true then ((spec_AreValidRows.f k l0_1).bind fun t526 => (if t526 = true then ((spec_AreValidRows.f k l0_2).bind fun t527 => (if t527 = true then (if (l0_3.length : Int) = (l0_1.length : Int) then ((spec_l1In.f a0_4 0 4).bind fun t528 => (some t528)) else (some false)) else (some false))) else (some false))) else (some false))) = some r := h
 clear h
 replace H := Option.bind_eq_some_iff.mp H
 obtain ⟨t525, A20, H⟩ := H
 have A2 := Aside0.mk A20
 clear A20
 by_cases c3 : t525 = true
 ·subst c3
  rw [if_pos rfl] at H
  replace H := Option.bind_eq_some_iff.mp H
  obtain ⟨t526, A40, H⟩ := H
  have A4 := Aside0.mk A40
  clear A40
  by_cases c5 : t526 = true
  ·subst c5
   rw [if_pos rfl] at H
   replace H := Option.bind_eq_some_iff.mp H
   obtain ⟨t527, A60, H⟩ := H
   have A6 := Aside0.mk A60
   clear A60
   by_cases c7 : t527 = true
   ·subst c7
    rw [if_pos rfl] at H
    by_cases c8 : (l0_3.length : Int) = (l0_1.length : Int)
    ·rw [if_pos c8] at H
     have c8b0 : ((l0_3.length : Int) == (l0_1.length : Int)) = true := beq_iff_eq.mpr c8
     have c8b1 : ((l0_3.length : Int) != (l0_1.length : Int)) = false := bne_eq_false_iff_eq.mpr c8
     have c8b2 : (l0_3.length == l0_1.length) = true := by (simp at c8 ⊢; omega)
     clear c8
     replace H := Option.bind_eq_some_iff.mp H
     obtain ⟨t528, A90, H⟩ := H
     have A9 := Aside0.mk A90
     clear A90
     obtain rfl := Option.some.inj H
     go_enter Try.func65, Try.ntmps65
     go_wp2_with (first | ((with_reducible refine gate_dst (N := 1) rfl ?_); (try (refine gate_guard rfl ?_; dsimp only)); refine box_event ?hg (N := 1) ?hd (cs := #[.int .i64 a0_0, .slice A0_1 l0_1.length c0_1, .slice A0_2 l0_2.length c0_2, .slice A0_3 l0_3.length c0_3, .int .i64 a0_4]) (t := 40) ?hr ?_; (case hd => rfl); (case hg => rfl); (case hr => (go_simp; done)); intro gb524 hg w10 hbox hb; have n0_ := Aside0.mk (below_step HB.out hb); have n1_ := Aside0.mk (hbox); have n2_ := Aside0.mk ((by rw [hg]; exact (below_size HB.out) : w.heap.size ≤ gb524)); have n3_ := Aside0.mk ((by rw [hg]; exact (below_size HB.out) : w.heap.size ≤ gb524)); clear HB; have HB := n0_; have BK524 := n1_; have GW524 := n2_; have GE524 := n3_; clear n0_ n1_ n2_ n3_; clear hb hbox hg; have hcz11_0 : w10.cell? ⟨gb524, 0, none⟩ = some (.int .i64 a0_0) := (blk_cell BK524.out 0).trans rfl; have hcz11_1 : w10.cell? ⟨gb524, 1, none⟩ = some (.slice A0_1 l0_1.length c0_1) := (blk_cell BK524.out 1).trans rfl; have hcz11_2 : w10.cell? ⟨gb524, 2, none⟩ = some (.slice A0_2 l0_2.length c0_2) := (blk_cell BK524.out 2).trans rfl; have hcz11_3 : w10.cell? ⟨gb524, 3, none⟩ = some (.slice A0_3 l0_3.length c0_3) := (blk_cell BK524.out 3).trans rfl; have hcz11_4 : w10.cell? ⟨gb524, 4, none⟩ = some (.int .i64 a0_4) := (blk_cell BK524.out 4).trans rfl; have hfz11_0 := blk_frozen BK524.out 0; have hfz11_1 := blk_frozen BK524.out 1; have hfz11_2 := blk_frozen BK524.out 2; have hfz11_3 := blk_frozen BK524.out 3; have hfz11_4 := blk_frozen BK524.out 4) | ((with_reducible refine gate_callee (f := 47) rfl ?_); refine goesL_ (some 5) rfl rfl Try.func47 (by kernel_rfl) rfl #[.int .i64 a0_0] rfl (by (try simp only [List.map_toArray, List.map_cons, List.map_nil]); rfl) ?_; (with_reducible refine (spec_IsValidJoinKind.calls a0_0 true _ A2.out).mono ?_); rintro e w' ⟨rfl, ⟨nd, rfl⟩⟩; refine ⟨_, rfl, ?_⟩) | (go_at_call 46; (with_reducible refine (spec_AreValidRows.calls k _ _ l0_1 true _ ?side1 ?side2 A4.out).mono ?_); (case side1 => repeat (exact (Kd.C_below HR0_1.out (by repeat (with_reducible first | exact HB.out | apply pw_below_drewN))))); (case side2 => exact HC0_1.out); rintro e w12 ⟨rfl, hb⟩; have n0_ := Aside0.mk (blk_below (g := gb524) (o := .cells #[.int .i64 a0_0, .slice A0_1 l0_1.length c0_1, .slice A0_2 l0_2.length c0_2, .slice A0_3 l0_3.length c0_3, .int .i64 a0_4] 40 (0, 0)) (by (with_reducible repeat (refine blk_drewN ?_ _)); exact BK524.out) hb); have n1_ := Aside0.mk (below_step (by repeat (with_reducible first | exact HB.out | apply pw_below_drewN)) hb); clear BK524; clear HB; have BK524 := n0_; have HB := n1_; clear n0_ n1_; (try clear hb); have hcz13_0 : w12.cell? ⟨gb524, 0, none⟩ = some (.int .i64 a0_0) := (blk_cell BK524.out 0).trans rfl; have hcz13_1 : w12.cell? ⟨gb524, 1, none⟩ = some (.slice A0_1 l0_1.length c0_1) := (blk_cell BK524.out 1).trans rfl; have hcz13_2 : w12.cell? ⟨gb524, 2, none⟩ = some (.slice A0_2 l0_2.length c0_2) := (blk_cell BK524.out 2).trans rfl; have hcz13_3 : w12.cell? ⟨gb524, 3, none⟩ = some (.slice A0_3 l0_3.length c0_3) := (blk_cell BK524.out 3).trans rfl; have hcz13_4 : w12.cell? ⟨gb524, 4, none⟩ = some (.int .i64 a0_4) := (blk_cell BK524.out 4).trans rfl; have hfz13_0 := blk_frozen BK524.out 0; have hfz13_1 := blk_frozen BK524.out 1; have hfz13_2 := blk_frozen BK524.out 2; have hfz13_3 := blk_frozen BK524.out 3; have hfz13_4 := blk_frozen BK524.out 4) | (go_at_call 46; (with_reducible refine (spec_AreValidRows.calls k _ _ l0_2 true _ ?side1 ?side2 A6.out).mono ?_); (case side1 => repeat (exact (Kd.C_below HR0_2.out HB.out))); (case side2 => exact HC0_2.out); rintro e w14 ⟨rfl, hb⟩; have n0_ := Aside0.mk (blk_below (g := gb524) (o := .cells #[.int .i64 a0_0, .slice A0_1 l0_1.length c0_1, .slice A0_2 l0_2.length c0_2, .slice A0_3 l0_3.length c0_3, .int .i64 a0_4] 40 (0, 0)) BK524.out hb); have n1_ := Aside0.mk (below_step HB.out hb); clear BK524; clear HB; have BK524 := n0_; have HB := n1_; clear n0_ n1_; (try clear hb); have hcz15_0 : w14.cell? ⟨gb524, 0, none⟩ = some (.int .i64 a0_0) := (blk_cell BK524.out 0).trans rfl; have hcz15_1 : w14.cell? ⟨gb524, 1, none⟩ = some (.slice A0_1 l0_1.length c0_1) := (blk_cell BK524.out 1).trans rfl; have hcz15_2 : w14.cell? ⟨gb524, 2, none⟩ = some (.slice A0_2 l0_2.length c0_2) := (blk_cell BK524.out 2).trans rfl; have hcz15_3 : w14.cell? ⟨gb524, 3, none⟩ = some (.slice A0_3 l0_3.length c0_3) := (blk_cell BK524.out 3).trans rfl; have hcz15_4 : w14.cell? ⟨gb524, 4, none⟩ = some (.int .i64 a0_4) := (blk_cell BK524.out 4).trans rfl; have hfz15_0 := blk_frozen BK524.out 0; have hfz15_1 := blk_frozen BK524.out 1; have hfz15_2 := blk_frozen BK524.out 2; have hfz15_3 := blk_frozen BK524.out 3; have hfz15_4 := blk_frozen BK524.out 4) | (go_at_call 119; (with_reducible refine (spec_l1In.calls a0_4 0 4 t528 _ A9.out).mono ?_); rintro e w' ⟨rfl, ⟨nd, rfl⟩⟩))
     go_ret
     exact ⟨rfl, by repeat ((with_reducible first | exact HB.out | apply pw_below_drewN))⟩
    ·rw [if_neg c8] at H
     have c8b0 : ((l0_3.length : Int) == (l0_1.length : Int)) = false := beq_eq_false_iff_ne.mpr c8
     have c8b1 : ((l0_3.length : Int) != (l0_1.length : Int)) = true := bne_iff_ne.mpr c8
     have c8b2 : (l0_3.length == l0_1.length) = false := by (simp at c8 ⊢; omega)
     obtain rfl := Option.some.inj H
     go_enter Try.func65, Try.ntmps65
     go_wp2_with (first | ((with_reducible refine gate_dst (N := 1) rfl ?_); (try (refine gate_guard rfl ?_; dsimp only)); refine box_event ?hg (N := 1) ?hd (cs := #[.int .i64 a0_0, .slice A0_1 l0_1.length c0_1, .slice A0_2 l0_2.length c0_2, .slice A0_3 l0_3.length c0_3, .int .i64 a0_4]) (t := 40) ?hr ?_; (case hd => rfl); (case hg => rfl); (case hr => (go_simp; done)); intro gb524 hg w16 hbox hb; have n0_ := Aside0.mk (below_step HB.out hb); have n1_ := Aside0.mk (hbox); have n2_ := Aside0.mk ((by rw [hg]; exact (below_size HB.out) : w.heap.size ≤ gb524)); have n3_ := Aside0.mk ((by rw [hg]; exact (below_size HB.out) : w.heap.size ≤ gb524)); clear HB; have HB := n0_; have BK524 := n1_; have GW524 := n2_; have GE524 := n3_; clear n0_ n1_ n2_ n3_; clear hb hbox hg; have hcz17_0 : w16.cell? ⟨gb524, 0, none⟩ = some (.int .i64 a0_0) := (blk_cell BK524.out 0).trans rfl; have hcz17_1 : w16.cell? ⟨gb524, 1, none⟩ = some (.slice A0_1 l0_1.length c0_1) := (blk_cell BK524.out 1).trans rfl; have hcz17_2 : w16.cell? ⟨gb524, 2, none⟩ = some (.slice A0_2 l0_2.length c0_2) := (blk_cell BK524.out 2).trans rfl; have hcz17_3 : w16.cell? ⟨gb524, 3, none⟩ = some (.slice A0_3 l0_3.length c0_3) := (blk_cell BK524.out 3).trans rfl; have hcz17_4 : w16.cell? ⟨gb524, 4, none⟩ = some (.int .i64 a0_4) := (blk_cell BK524.out 4).trans rfl; have hfz17_0 := blk_frozen BK524.out 0; have hfz17_1 := blk_frozen BK524.out 1; have hfz17_2 := blk_frozen BK524.out 2; have hfz17_3 := blk_frozen BK524.out 3; have hfz17_4 := blk_frozen BK524.out 4) | ((with_reducible refine gate_callee (f := 47) rfl ?_); refine goesL_ (some 5) rfl rfl Try.func47 (by kernel_rfl) rfl #[.int .i64 a0_0] rfl (by (try simp only [List.map_toArray, List.map_cons, List.map_nil]); rfl) ?_; (with_reducible refine (spec_IsValidJoinKind.calls a0_0 true _ A2.out).mono ?_); rintro e w' ⟨rfl, ⟨nd, rfl⟩⟩; refine ⟨_, rfl, ?_⟩) | (go_at_call 46; (with_reducible refine (spec_AreValidRows.calls k _ _ l0_1 true _ ?side1 ?side2 A4.out).mono ?_); (case side1 => repeat (exact (Kd.C_below HR0_1.out (by repeat (with_reducible first | exact HB.out | apply pw_below_drewN))))); (case side2 => exact HC0_1.out); rintro e w18 ⟨rfl, hb⟩; have n0_ := Aside0.mk (blk_below (g := gb524) (o := .cells #[.int .i64 a0_0, .slice A0_1 l0_1.length c0_1, .slice A0_2 l0_2.length c0_2, .slice A0_3 l0_3.length c0_3, .int .i64 a0_4] 40 (0, 0)) (by (with_reducible repeat (refine blk_drewN ?_ _)); exact BK524.out) hb); have n1_ := Aside0.mk (below_step (by repeat (with_reducible first | exact HB.out | apply pw_below_drewN)) hb); clear BK524; clear HB; have BK524 := n0_; have HB := n1_; clear n0_ n1_; (try clear hb); have hcz19_0 : w18.cell? ⟨gb524, 0, none⟩ = some (.int .i64 a0_0) := (blk_cell BK524.out 0).trans rfl; have hcz19_1 : w18.cell? ⟨gb524, 1, none⟩ = some (.slice A0_1 l0_1.length c0_1) := (blk_cell BK524.out 1).trans rfl; have hcz19_2 : w18.cell? ⟨gb524, 2, none⟩ = some (.slice A0_2 l0_2.length c0_2) := (blk_cell BK524.out 2).trans rfl; have hcz19_3 : w18.cell? ⟨gb524, 3, none⟩ = some (.slice A0_3 l0_3.length c0_3) := (blk_cell BK524.out 3).trans rfl; have hcz19_4 : w18.cell? ⟨gb524, 4, none⟩ = some (.int .i64 a0_4) := (blk_cell BK524.out 4).trans rfl; have hfz19_0 := blk_frozen BK524.out 0; have hfz19_1 := blk_frozen BK524.out 1; have hfz19_2 := blk_frozen BK524.out 2; have hfz19_3 := blk_frozen BK524.out 3; have hfz19_4 := blk_frozen BK524.out 4) | (go_at_call 46; (with_reducible refine (spec_AreValidRows.calls k _ _ l0_2 true _ ?side1 ?side2 A6.out).mono ?_); (case side1 => repeat (exact (Kd.C_below HR0_2.out HB.out))); (case side2 => exact HC0_2.out); rintro e w20 ⟨rfl, hb⟩; have n0_ := Aside0.mk (blk_below (g := gb524) (o := .cells #[.int .i64 a0_0, .slice A0_1 l0_1.length c0_1, .slice A0_2 l0_2.length c0_2, .slice A0_3 l0_3.length c0_3, .int .i64 a0_4] 40 (0, 0)) BK524.out hb); have n1_ := Aside0.mk (below_step HB.out hb); clear BK524; clear HB; have BK524 := n0_; have HB := n1_; clear n0_ n1_; (try clear hb); have hcz21_0 : w20.cell? ⟨gb524, 0, none⟩ = some (.int .i64 a0_0) := (blk_cell BK524.out 0).trans rfl; have hcz21_1 : w20.cell? ⟨gb524, 1, none⟩ = some (.slice A0_1 l0_1.length c0_1) := (blk_cell BK524.out 1).trans rfl; have hcz21_2 : w20.cell? ⟨gb524, 2, none⟩ = some (.slice A0_2 l0_2.length c0_2) := (blk_cell BK524.out 2).trans rfl; have hcz21_3 : w20.cell? ⟨gb524, 3, none⟩ = some (.slice A0_3 l0_3.length c0_3) := (blk_cell BK524.out 3).trans rfl; have hcz21_4 : w20.cell? ⟨gb524, 4, none⟩ = some (.int .i64 a0_4) := (blk_cell BK524.out 4).trans rfl; have hfz21_0 := blk_frozen BK524.out 0; have hfz21_1 := blk_frozen BK524.out 1; have hfz21_2 := blk_frozen BK524.out 2; have hfz21_3 := blk_frozen BK524.out 3; have hfz21_4 := blk_frozen BK524.out 4))
     go_ret
     exact ⟨rfl, HB.out⟩
   ·replace c7 := Bool.eq_false_iff.mpr c7
    subst c7
    rw [if_neg (show ¬ (false = true) by decide)] at H
    obtain rfl := Option.some.inj H
    go_enter Try.func65, Try.ntmps65
    go_wp2_with (first | ((with_reducible refine gate_dst (N := 1) rfl ?_); (try (refine gate_guard rfl ?_; dsimp only)); refine box_event ?hg (N := 1) ?hd (cs := #[.int .i64 a0_0, .slice A0_1 l0_1.length c0_1, .slice A0_2 l0_2.length c0_2, .slice A0_3 l0_3.length c0_3, .int .i64 a0_4]) (t := 40) ?hr ?_; (case hd => rfl); (case hg => rfl); (case hr => (go_simp; done)); intro gb524 hg w22 hbox hb; have n0_ := Aside0.mk (below_step HB.out hb); have n1_ := Aside0.mk (hbox); have n2_ := Aside0.mk ((by rw [hg]; exact (below_size HB.out) : w.heap.size ≤ gb524)); have n3_ := Aside0.mk ((by rw [hg]; exact (below_size HB.out) : w.heap.size ≤ gb524)); clear HB; have HB := n0_; have BK524 := n1_; have GW524 := n2_; have GE524 := n3_; clear n0_ n1_ n2_ n3_; clear hb hbox hg; have hcz23_0 : w22.cell? ⟨gb524, 0, none⟩ = some (.int .i64 a0_0) := (blk_cell BK524.out 0).trans rfl; have hcz23_1 : w22.cell? ⟨gb524, 1, none⟩ = some (.slice A0_1 l0_1.length c0_1) := (blk_cell BK524.out 1).trans rfl; have hcz23_2 : w22.cell? ⟨gb524, 2, none⟩ = some (.slice A0_2 l0_2.length c0_2) := (blk_cell BK524.out 2).trans rfl; have hcz23_3 : w22.cell? ⟨gb524, 3, none⟩ = some (.slice A0_3 l0_3.length c0_3) := (blk_cell BK524.out 3).trans rfl; have hcz23_4 : w22.cell? ⟨gb524, 4, none⟩ = some (.int .i64 a0_4) := (blk_cell BK524.out 4).trans rfl; have hfz23_0 := blk_frozen BK524.out 0; have hfz23_1 := blk_frozen BK524.out 1; have hfz23_2 := blk_frozen BK524.out 2; have hfz23_3 := blk_frozen BK524.out 3; have hfz23_4 := blk_frozen BK524.out 4) | ((with_reducible refine gate_callee (f := 47) rfl ?_); refine goesL_ (some 5) rfl rfl Try.func47 (by kernel_rfl) rfl #[.int .i64 a0_0] rfl (by (try simp only [List.map_toArray, List.map_cons, List.map_nil]); rfl) ?_; (with_reducible refine (spec_IsValidJoinKind.calls a0_0 true _ A2.out).mono ?_); rintro e w' ⟨rfl, ⟨nd, rfl⟩⟩; refine ⟨_, rfl, ?_⟩) | (go_at_call 46; (with_reducible refine (spec_AreValidRows.calls k _ _ l0_1 true _ ?side1 ?side2 A4.out).mono ?_); (case side1 => repeat (exact (Kd.C_below HR0_1.out (by repeat (with_reducible first | exact HB.out | apply pw_below_drewN))))); (case side2 => exact HC0_1.out); rintro e w24 ⟨rfl, hb⟩; have n0_ := Aside0.mk (blk_below (g := gb524) (o := .cells #[.int .i64 a0_0, .slice A0_1 l0_1.length c0_1, .slice A0_2 l0_2.length c0_2, .slice A0_3 l0_3.length c0_3, .int .i64 a0_4] 40 (0, 0)) (by (with_reducible repeat (refine blk_drewN ?_ _)); exact BK524.out) hb); have n1_ := Aside0.mk (below_step (by repeat (with_reducible first | exact HB.out | apply pw_below_drewN)) hb); clear BK524; clear HB; have BK524 := n0_; have HB := n1_; clear n0_ n1_; (try clear hb); have hcz25_0 : w24.cell? ⟨gb524, 0, none⟩ = some (.int .i64 a0_0) := (blk_cell BK524.out 0).trans rfl; have hcz25_1 : w24.cell? ⟨gb524, 1, none⟩ = some (.slice A0_1 l0_1.length c0_1) := (blk_cell BK524.out 1).trans rfl; have hcz25_2 : w24.cell? ⟨gb524, 2, none⟩ = some (.slice A0_2 l0_2.length c0_2) := (blk_cell BK524.out 2).trans rfl; have hcz25_3 : w24.cell? ⟨gb524, 3, none⟩ = some (.slice A0_3 l0_3.length c0_3) := (blk_cell BK524.out 3).trans rfl; have hcz25_4 : w24.cell? ⟨gb524, 4, none⟩ = some (.int .i64 a0_4) := (blk_cell BK524.out 4).trans rfl; have hfz25_0 := blk_frozen BK524.out 0; have hfz25_1 := blk_frozen BK524.out 1; have hfz25_2 := blk_frozen BK524.out 2; have hfz25_3 := blk_frozen BK524.out 3; have hfz25_4 := blk_frozen BK524.out 4) | (go_at_call 46; (with_reducible refine (spec_AreValidRows.calls k _ _ l0_2 false _ ?side1 ?side2 A6.out).mono ?_); (case side1 => repeat (exact (Kd.C_below HR0_2.out HB.out))); (case side2 => exact HC0_2.out); rintro e w26 ⟨rfl, hb⟩; have n0_ := Aside0.mk (blk_below (g := gb524) (o := .cells #[.int .i64 a0_0, .slice A0_1 l0_1.length c0_1, .slice A0_2 l0_2.length c0_2, .slice A0_3 l0_3.length c0_3, .int .i64 a0_4] 40 (0, 0)) BK524.out hb); have n1_ := Aside0.mk (below_step HB.out hb); clear BK524; clear HB; have BK524 := n0_; have HB := n1_; clear n0_ n1_; (try clear hb)))
    go_ret
    exact ⟨rfl, HB.out⟩
  ·replace c5 := Bool.eq_false_iff.mpr c5
   subst c5
   rw [if_neg (show ¬ (false = true) by decide)] at H
   obtain rfl := Option.some.inj H
   go_enter Try.func65, Try.ntmps65
   go_wp2_with (first | ((with_reducible refine gate_dst (N := 1) rfl ?_); (try (refine gate_guard rfl ?_; dsimp only)); refine box_event ?hg (N := 1) ?hd (cs := #[.int .i64 a0_0, .slice A0_1 l0_1.length c0_1, .slice A0_2 l0_2.length c0_2, .slice A0_3 l0_3.length c0_3, .int .i64 a0_4]) (t := 40) ?hr ?_; (case hd => rfl); (case hg => rfl); (case hr => (go_simp; done)); intro gb524 hg w27 hbox hb; have n0_ := Aside0.mk (below_step HB.out hb); have n1_ := Aside0.mk (hbox); have n2_ := Aside0.mk ((by rw [hg]; exact (below_size HB.out) : w.heap.size ≤ gb524)); have n3_ := Aside0.mk ((by rw [hg]; exact (below_size HB.out) : w.heap.size ≤ gb524)); clear HB; have HB := n0_; have BK524 := n1_; have GW524 := n2_; have GE524 := n3_; clear n0_ n1_ n2_ n3_; clear hb hbox hg; have hcz28_0 : w27.cell? ⟨gb524, 0, none⟩ = some (.int .i64 a0_0) := (blk_cell BK524.out 0).trans rfl; have hcz28_1 : w27.cell? ⟨gb524, 1, none⟩ = some (.slice A0_1 l0_1.length c0_1) := (blk_cell BK524.out 1).trans rfl; have hcz28_2 : w27.cell? ⟨gb524, 2, none⟩ = some (.slice A0_2 l0_2.length c0_2) := (blk_cell BK524.out 2).trans rfl; have hcz28_3 : w27.cell? ⟨gb524, 3, none⟩ = some (.slice A0_3 l0_3.length c0_3) := (blk_cell BK524.out 3).trans rfl; have hcz28_4 : w27.cell? ⟨gb524, 4, none⟩ = some (.int .i64 a0_4) := (blk_cell BK524.out 4).trans rfl; have hfz28_0 := blk_frozen BK524.out 0; have hfz28_1 := blk_frozen BK524.out 1; have hfz28_2 := blk_frozen BK524.out 2; have hfz28_3 := blk_frozen BK524.out 3; have hfz28_4 := blk_frozen BK524.out 4) | ((with_reducible refine gate_callee (f := 47) rfl ?_); refine goesL_ (some 5) rfl rfl Try.func47 (by kernel_rfl) rfl #[.int .i64 a0_0] rfl (by (try simp only [List.map_toArray, List.map_cons, List.map_nil]); rfl) ?_; (with_reducible refine (spec_IsValidJoinKind.calls a0_0 true _ A2.out).mono ?_); rintro e w' ⟨rfl, ⟨nd, rfl⟩⟩; refine ⟨_, rfl, ?_⟩) | (go_at_call 46; (with_reducible refine (spec_AreValidRows.calls k _ _ l0_1 false _ ?side1 ?side2 A4.out).mono ?_); (case side1 => repeat (exact (Kd.C_below HR0_1.out (by repeat (with_reducible first | exact HB.out | apply pw_below_drewN))))); (case side2 => exact HC0_1.out); rintro e w29 ⟨rfl, hb⟩; have n0_ := Aside0.mk (blk_below (g := gb524) (o := .cells #[.int .i64 a0_0, .slice A0_1 l0_1.length c0_1, .slice A0_2 l0_2.length c0_2, .slice A0_3 l0_3.length c0_3, .int .i64 a0_4] 40 (0, 0)) (by (with_reducible repeat (refine blk_drewN ?_ _)); exact BK524.out) hb); have n1_ := Aside0.mk (below_step (by repeat (with_reducible first | exact HB.out | apply pw_below_drewN)) hb); clear BK524; clear HB; have BK524 := n0_; have HB := n1_; clear n0_ n1_; (try clear hb)))
   go_ret
   exact ⟨rfl, HB.out⟩
 ·replace c3 := Bool.eq_false_iff.mpr c3
  subst c3
  rw [if_neg (show ¬ (false = true) by decide)] at H
  obtain rfl := Option.some.inj H
  go_enter Try.func65, Try.ntmps65
  go_wp2_with (first | ((with_reducible refine gate_dst (N := 1) rfl ?_); (try (refine gate_guard rfl ?_; dsimp only)); refine box_event ?hg (N := 1) ?hd (cs := #[.int .i64 a0_0, .slice A0_1 l0_1.length c0_1, .slice A0_2 l0_2.length c0_2, .slice A0_3 l0_3.length c0_3, .int .i64 a0_4]) (t := 40) ?hr ?_; (case hd => rfl); (case hg => rfl); (case hr => (go_simp; done)); intro gb524 hg w30 hbox hb; have n0_ := Aside0.mk (below_step HB.out hb); have n1_ := Aside0.mk (hbox); have n2_ := Aside0.mk ((by rw [hg]; exact (below_size HB.out) : w.heap.size ≤ gb524)); have n3_ := Aside0.mk ((by rw [hg]; exact (below_size HB.out) : w.heap.size ≤ gb524)); clear HB; have HB := n0_; have BK524 := n1_; have GW524 := n2_; have GE524 := n3_; clear n0_ n1_ n2_ n3_; clear hb hbox hg; have hcz31_0 : w30.cell? ⟨gb524, 0, none⟩ = some (.int .i64 a0_0) := (blk_cell BK524.out 0).trans rfl; have hcz31_1 : w30.cell? ⟨gb524, 1, none⟩ = some (.slice A0_1 l0_1.length c0_1) := (blk_cell BK524.out 1).trans rfl; have hcz31_2 : w30.cell? ⟨gb524, 2, none⟩ = some (.slice A0_2 l0_2.length c0_2) := (blk_cell BK524.out 2).trans rfl; have hcz31_3 : w30.cell? ⟨gb524, 3, none⟩ = some (.slice A0_3 l0_3.length c0_3) := (blk_cell BK524.out 3).trans rfl; have hcz31_4 : w30.cell? ⟨gb524, 4, none⟩ = some (.int .i64 a0_4) := (blk_cell BK524.out 4).trans rfl; have hfz31_0 := blk_frozen BK524.out 0; have hfz31_1 := blk_frozen BK524.out 1; have hfz31_2 := blk_frozen BK524.out 2; have hfz31_3 := blk_frozen BK524.out 3; have hfz31_4 := blk_frozen BK524.out 4) | ((with_reducible refine gate_callee (f := 47) rfl ?_); refine goesL_ (some 5) rfl rfl Try.func47 (by kernel_rfl) rfl #[.int .i64 a0_0] rfl (by (try simp only [List.map_toArray, List.map_cons, List.map_nil]); rfl) ?_; (with_reducible refine (spec_IsValidJoinKind.calls a0_0 false _ A2.out).mono ?_); rintro e w' ⟨rfl, ⟨nd, rfl⟩⟩; refine ⟨_, rfl, ?_⟩))
  go_ret
  exact ⟨rfl, by repeat ((with_reducible first | exact HB.out | apply pw_below_drewN))⟩

mutual
def spec_FormatRows.l0 : Nat → List (S60) → ByteArray → Int → Option (ByteArray)
 | 0, _, _, _ => none
 | k + 1, x0, x3, x4 => if x4 < (x0.length : Int) then ((spec_AreValidRows.f k x0).bind fun t1165 => (spec_FormatRows.j1 k x0 x3 x4 t1165)) else (spec_FormatRows.j1 k x0 x3 x4 false)
def spec_FormatRows.j1 : Nat → List (S60) → ByteArray → Int → Bool → Option (ByteArray)
 | 0, _, _, _, _ => none
 | k + 1, x0, x3, x4, x12 => if x12 = true then (if x4 > 0 then (if x3.size + 1 ≤ 9223372036854775807 then (if 0 ≤ x4 then (if x4 < (x0.length : Int) then ((spec_FormatRow.f k ((rd_T60 x0 x4).f0) ((rd_T60 x0 x4).f1) ((rd_T60 x0 x4).f2)).bind fun t1167 => (if (x3 ++ (⟨#[32]⟩ : ByteArray)).size + t1167.size ≤ 9223372036854775807 then (spec_FormatRows.l0 k x0 ((x3 ++ (⟨#[32]⟩ : ByteArray)) ++ t1167) (wrap64 (x4 + 1))) else (none))) else (none)) else (none)) else (none)) else (if 0 ≤ x4 then (if x4 < (x0.length : Int) then ((spec_FormatRow.f k ((rd_T60 x0 x4).f0) ((rd_T60 x0 x4).f1) ((rd_T60 x0 x4).f2)).bind fun t1169 => (if x3.size + t1169.size ≤ 9223372036854775807 then (spec_FormatRows.l0 k x0 (x3 ++ t1169) (wrap64 (x4 + 1))) else (none))) else (none)) else (none))) else (some x3)
end
def spec_FormatRows.f (k : Nat) (l0 : List (S60)) : Option (ByteArray) := spec_FormatRows.l0 k l0 (⟨#[]⟩ : ByteArray) 0
theorem spec_FormatRows.calls (k : Nat) (A0 : Option Addr) (c0 : Nat) (l0 : List (S60)) (r : ByteArray) (w : World) (hr0 : Kd.C k60 w A0 l0.length l0) (hc0 : l0.length ≤ c0) (h : spec_FormatRows.f k l0 = some r) :
  Calls Try.prog 186 #[.slice A0 l0.length c0] w fun e w' => e = .returned (.string r) ∧ Below w.heap.size w w' := by
 have hu60 := Try.underlying60
 have HR0 := Aside0.mk hr0
 have HC0 := Aside0.mk hc0
 clear hr0 hc0
 have HB := Aside0.mk (Below.refl w.heap.size w)
 have H : (spec_FormatRows.l0 k l0 (⟨#[]⟩ : ByteArray) 0) = some r := h
 clear h
 have H' := Aside0.mk H
 clear H
 go_enter Try.func186, Try.ntmps186
 go_wp2
 go_loopg [3, 4] k (fun kq v3 v4 w' => ∃ (x3_1 : ByteArray) (x4_1 : Int), v3 = .string x3_1 ∧ v4 = .int .i64 x4_1 ∧ Aside0 (spec_FormatRows.l0 kq l0 x3_1 x4_1 = some r) ∧ Aside0 (kq ≤ k) ∧ Aside0 (Below w.heap.size w w'))
 case atStart => exact ⟨((⟨#[]⟩ : ByteArray)), (0), rfl, rfl, H', ⟨Nat.le_refl _⟩, ⟨HB.out⟩⟩
 case round =>
  clear H'
  obtain ⟨x3_1, x4_1, rfl, rfl, HA, HK1, HB⟩ := hrel
  cases gk with
  | zero => exact absurd HA.out (by simp [spec_FormatRows.l0])
  | succ k1 =>
   have H := HA.out
   clear HA
   simp only [spec_FormatRows.l0] at H
   have HC2 := Aside0.mk H
   clear H
   go_upto_region 3 with (fail)
   go_cut [12] (fun v12 wc => ∃ (kq : Nat) (x12_1 : Bool), v12 = .bool x12_1 ∧ Aside0 (spec_FormatRows.j1 kq l0 x3_1 x4_1 x12_1 = some r) ∧ Aside0 (kq ≤ k1) ∧ Aside0 (Below w.heap.size w wc))
   case first =>
    have H := HC2.out
    clear HC2
    by_cases c3 : x4_1 < (l0.length : Int)
    ·rw [if_pos c3] at H
     have c3b0 : decide (x4_1 < (l0.length : Int)) = true := decide_eq_true c3
     clear c3
     (skip)
     replace H := Option.bind_eq_some_iff.mp H
     obtain ⟨t1165, A40, H⟩ := H
     have A4 := Aside0.mk A40
     clear A40
     have H' := Aside0.mk H
     clear H
     go_wp2_with ((go_at_call 46; (with_reducible refine (spec_AreValidRows.calls k1 _ _ l0 t1165 _ ?side1 ?side2 A4.out).mono ?_); (case side1 => repeat (exact (Kd.C_below HR0.out HB.out))); (case side2 => exact HC0.out); rintro e w5 ⟨rfl, hb⟩; have n0_ := Aside0.mk (below_step HB.out hb); clear HB; have HB := n0_; clear n0_; (try clear hb)))
     go_meet
     case rel => exact ⟨_, (t1165), rfl, H', ⟨by have := HK1.out; omega⟩, ⟨HB.out⟩⟩
    ·rw [if_neg c3] at H
     have c3b0 : decide (x4_1 < (l0.length : Int)) = false := decide_eq_false c3
     clear c3
     (skip)
     have H' := Aside0.mk H
     clear H
     go_wp2
     go_meet
     case rel => exact ⟨_, (false), rfl, H', ⟨by have := HK1.out; omega⟩, ⟨HB.out⟩⟩
   case rest =>
    clear HC2
    obtain ⟨kq, x12_1, rfl, HA, HJ1, HB⟩ := hcut
    cases kq with
    | zero => exact absurd HA.out (by simp [spec_FormatRows.j1])
    | succ kj1 =>
     have H := HA.out
     clear HA
     simp only [spec_FormatRows.j1] at H
     by_cases c6 : x12_1 = true
     ·subst c6
      rw [if_pos rfl] at H
      by_cases c7 : x4_1 > 0
      ·rw [if_pos c7] at H
       have c7b0 : decide (0 < x4_1) = true := decide_eq_true c7
       clear c7
       by_cases c8 : x3_1.size + 1 ≤ 9223372036854775807
       ·rw [if_pos c8] at H
        have c8b0 := eq_true c8
        have c8b1 : decide (x3_1.size + 1 ≤ 9223372036854775807) = true := decide_eq_true c8
        try have c8b2 : (9223372036854775807 < x3_1.size + 1) = False := eq_false (Nat.not_lt.2 c8)
        by_cases c9 : 0 ≤ x4_1
        ·rw [if_pos c9] at H
         have c9b0 : decide (0 ≤ x4_1) = true := decide_eq_true c9
         clear c9
         by_cases c10 : x4_1 < (l0.length : Int)
         ·rw [if_pos c10] at H
          have c10b0 : decide (x4_1 < (l0.length : Int)) = true := decide_eq_true c10
          clear c10
          replace H := Option.bind_eq_some_iff.mp H
          obtain ⟨t1167, A110, H⟩ := H
          have A11 := Aside0.mk A110
          clear A110
          by_cases c12 : (x3_1 ++ (⟨#[32]⟩ : ByteArray)).size + t1167.size ≤ 9223372036854775807
          ·rw [if_pos c12] at H
           have c12b0 := eq_true c12
           have c12b1 : decide ((x3_1 ++ (⟨#[32]⟩ : ByteArray)).size + t1167.size ≤ 9223372036854775807) = true := decide_eq_true c12
           try have c12b3 : (9223372036854775807 < x3_1.size + 1 + t1167.size) = False := eq_false (by have h_ := c12; simp only [ByteArray.size_append] at h_; (exact Nat.not_lt.2 h_))
           try have c12b2 : (9223372036854775807 < (x3_1 ++ (⟨#[32]⟩ : ByteArray)).size + t1167.size) = False := eq_false (Nat.not_lt.2 c12)
           have H' := Aside0.mk H
           clear H
           have p1166 : 0 ≤ (x4_1 : Int) := of_decide_eq_true (by (with_reducible assumption))
           have q1166 : x4_1 < (l0.length : Int) := of_decide_eq_true (by (with_reducible assumption))
           obtain ⟨ad1166, e1166, hx1166_0, hx1166_1, hx1166_2⟩ := at_T60 HR0.out x4_1 p1166 q1166
           cases e1166
           replace hx1166_0 := (HB.out.cell (World.block_lt_of_cell? w _ hx1166_0)).trans hx1166_0
           replace hx1166_1 := (HB.out.cell (World.block_lt_of_cell? w _ hx1166_1)).trans hx1166_1
           replace hx1166_2 := (HB.out.cell (World.block_lt_of_cell? w _ hx1166_2)).trans hx1166_2
           replace p1166 := eq_true p1166
           replace q1166 := eq_true q1166
           go_wp2_with (((with_reducible refine gate_callee (f := 198) rfl ?_); refine goesL_ (some 24) rfl rfl Try.func198 (by kernel_rfl) rfl #[.agg #[.int .i64 ((rd_T60 l0 x4_1).f0), .int .i64 ((rd_T60 l0 x4_1).f1), .int .i64 ((rd_T60 l0 x4_1).f2)]] rfl (by (try simp only [List.map_toArray, List.map_cons, List.map_nil]); rfl) ?_; (with_reducible refine (spec_FormatRow.calls kj1 ((rd_T60 l0 x4_1).f0) ((rd_T60 l0 x4_1).f1) ((rd_T60 l0 x4_1).f2) t1167 _ A11.out).mono ?_); rintro e w13 ⟨rfl, hb⟩; refine ⟨_, rfl, ?_⟩; have n0_ := Aside0.mk (below_step HB.out hb); clear HB; have HB := n0_; clear n0_; (try clear hb)))
           go_roundg kj1
           case measure => have := HK1.out; have := HJ1.out; omega
           case rel => exact ⟨((x3_1 ++ (⟨#[32]⟩ : ByteArray)) ++ t1167), (wrap64 (x4_1 + 1)), rfl, rfl, H', ⟨by have := HK1.out; have := HJ1.out; omega⟩, ⟨HB.out⟩⟩
          ·rw [if_neg c12] at H
           exact absurd H (by simp)
         ·rw [if_neg c10] at H
          exact absurd H (by simp)
        ·rw [if_neg c9] at H
         exact absurd H (by simp)
       ·rw [if_neg c8] at H
        exact absurd H (by simp)
      ·rw [if_neg c7] at H
       have c7b0 : decide (0 < x4_1) = false := decide_eq_false c7
       clear c7
       by_cases c14 : 0 ≤ x4_1
       ·rw [if_pos c14] at H
        have c14b0 : decide (0 ≤ x4_1) = true := decide_eq_true c14
        clear c14
        by_cases c15 : x4_1 < (l0.length : Int)
        ·rw [if_pos c15] at H
         have c15b0 : decide (x4_1 < (l0.length : Int)) = true := decide_eq_true c15
         clear c15
         replace H := Option.bind_eq_some_iff.mp H
         obtain ⟨t1169, A160, H⟩ := H
         have A16 := Aside0.mk A160
         clear A160
         by_cases c17 : x3_1.size + t1169.size ≤ 9223372036854775807
         ·rw [if_pos c17] at H
          have c17b0 := eq_true c17
          have c17b1 : decide (x3_1.size + t1169.size ≤ 9223372036854775807) = true := decide_eq_true c17
          try have c17b2 : (9223372036854775807 < x3_1.size + t1169.size) = False := eq_false (Nat.not_lt.2 c17)
          have H' := Aside0.mk H
          clear H
          have p1168 : 0 ≤ (x4_1 : Int) := of_decide_eq_true (by (with_reducible assumption))
          have q1168 : x4_1 < (l0.length : Int) := of_decide_eq_true (by (with_reducible assumption))
          obtain ⟨ad1168, e1168, hx1168_0, hx1168_1, hx1168_2⟩ := at_T60 HR0.out x4_1 p1168 q1168
          cases e1168
          replace hx1168_0 := (HB.out.cell (World.block_lt_of_cell? w _ hx1168_0)).trans hx1168_0
          replace hx1168_1 := (HB.out.cell (World.block_lt_of_cell? w _ hx1168_1)).trans hx1168_1
          replace hx1168_2 := (HB.out.cell (World.block_lt_of_cell? w _ hx1168_2)).trans hx1168_2
          replace p1168 := eq_true p1168
          replace q1168 := eq_true q1168
          go_wp2_with (((with_reducible refine gate_callee (f := 198) rfl ?_); refine goesL_ (some 24) rfl rfl Try.func198 (by kernel_rfl) rfl #[.agg #[.int .i64 ((rd_T60 l0 x4_1).f0), .int .i64 ((rd_T60 l0 x4_1).f1), .int .i64 ((rd_T60 l0 x4_1).f2)]] rfl (by (try simp only [List.map_toArray, List.map_cons, List.map_nil]); rfl) ?_; (with_reducible refine (spec_FormatRow.calls kj1 ((rd_T60 l0 x4_1).f0) ((rd_T60 l0 x4_1).f1) ((rd_T60 l0 x4_1).f2) t1169 _ A16.out).mono ?_); rintro e w18 ⟨rfl, hb⟩; refine ⟨_, rfl, ?_⟩; have n0_ := Aside0.mk (below_step HB.out hb); clear HB; have HB := n0_; clear n0_; (try clear hb)))
          go_roundg kj1
          case measure => have := HK1.out; have := HJ1.out; omega
          case rel => exact ⟨(x3_1 ++ t1169), (wrap64 (x4_1 + 1)), rfl, rfl, H', ⟨by have := HK1.out; have := HJ1.out; omega⟩, ⟨HB.out⟩⟩
         ·rw [if_neg c17] at H
          exact absurd H (by simp)
        ·rw [if_neg c15] at H
         exact absurd H (by simp)
       ·rw [if_neg c14] at H
        exact absurd H (by simp)
     ·replace c6 := Bool.eq_false_iff.mpr c6
      subst c6
      rw [if_neg (show ¬ (false = true) by decide)] at H
      obtain rfl := Option.some.inj H
      go_wp2
      go_ret
      exact ⟨rfl, HB.out⟩

def spec_FormatTask.l0 : Nat → ByteArray → Int → Int → List (S60) → List (S60) → List Bool → Int → Option (ByteArray)
 | 0, _, _, _, _, _, _, _ => none
 | k + 1, x3, x4, x1171000, x1171001, x1171002, x1171003, x1171004 => if x4 < (x1171003.length : Int) then (if 0 ≤ x4 then (if rdOf false x1171003 x4 = true then (if x3.size + 1 ≤ 9223372036854775807 then (spec_FormatTask.l0 k (x3 ++ (⟨#[49]⟩ : ByteArray)) (wrap64 (x4 + 1)) x1171000 x1171001 x1171002 x1171003 x1171004) else (none)) else (if x3.size + 1 ≤ 9223372036854775807 then (spec_FormatTask.l0 k (x3 ++ (⟨#[48]⟩ : ByteArray)) (wrap64 (x4 + 1)) x1171000 x1171001 x1171002 x1171003 x1171004) else (none))) else (none)) else ((spec_FormatInt.f k x1171000).bind fun t1173 => (if t1173.size + 1 ≤ 9223372036854775807 then ((spec_FormatRows.f k x1171001).bind fun t1174 => (if (t1173 ++ (⟨#[59]⟩ : ByteArray)).size + t1174.size ≤ 9223372036854775807 then (if ((t1173 ++ (⟨#[59]⟩ : ByteArray)) ++ t1174).size + 1 ≤ 9223372036854775807 then ((spec_FormatRows.f k x1171002).bind fun t1175 => (if (((t1173 ++ (⟨#[59]⟩ : ByteArray)) ++ t1174) ++ (⟨#[59]⟩ : ByteArray)).size + t1175.size ≤ 9223372036854775807 then (if ((((t1173 ++ (⟨#[59]⟩ : ByteArray)) ++ t1174) ++ (⟨#[59]⟩ : ByteArray)) ++ t1175).size + 1 ≤ 9223372036854775807 then (if (((((t1173 ++ (⟨#[59]⟩ : ByteArray)) ++ t1174) ++ (⟨#[59]⟩ : ByteArray)) ++ t1175) ++ (⟨#[59]⟩ : ByteArray)).size + x3.size ≤ 9223372036854775807 then (if ((((((t1173 ++ (⟨#[59]⟩ : ByteArray)) ++ t1174) ++ (⟨#[59]⟩ : ByteArray)) ++ t1175) ++ (⟨#[59]⟩ : ByteArray)) ++ x3).size + 1 ≤ 9223372036854775807 then ((spec_FormatInt.f k x1171004).bind fun t1176 => (if (((((((t1173 ++ (⟨#[59]⟩ : ByteArray)) ++ t1174) ++ (⟨#[59]⟩ : ByteArray)) ++ t1175) ++ (⟨#[59]⟩ : ByteArray)) ++ x3) ++ (⟨#[59]⟩ : ByteArray)).size + t1176.size ≤ 9223372036854775807 then (some ((((((((t1173 ++ (⟨#[59]⟩ : ByteArray)) ++ t1174) ++ (⟨#[59]⟩ : ByteArray)) ++ t1175) ++ (⟨#[59]⟩ : ByteArray)) ++ x3) ++ (⟨#[59]⟩ : ByteArray)) ++ t1176)) else (none))) else (none)) else (none)) else (none)) else (none))) else (none)) else (none))) else (none)))
def spec_FormatTask.f (k : Nat) (a0_0 : Int) (l0_1 : List (S60)) (l0_2 : List (S60)) (l0_3 : List Bool) (a0_4 : Int) : Option (ByteArray) := (spec_IsValidTask.f k a0_0 l0_1 l0_2 l0_3 a0_4).bind fun t1171 => (if t1171 = true then (spec_FormatTask.l0 k (⟨#[]⟩ : ByteArray) 0 a0_0 l0_1 l0_2 l0_3 a0_4) else (some (⟨#[]⟩ : ByteArray)))
def spec_FormatTask.T10 : Bool × List (List Nat × List Nat) := (true, [([], []), ([0], [0]), ([1], [1]), ([2], [2]), ([], []), ([4], [4]), ([5, 2], [5]), ([3, 6], [3, 6]), ([7], [7]), ([], []), ([9], [9]), ([10, 6], [10]), ([8, 11], [8, 11]), ([12], [12]), ([], []), ([13, 14], [13, 14]), ([15], [15]), ([], []), ([17], [17]), ([18, 11], [18]), ([16, 19], [16, 19]), ([20, 19, 0, 1, 2, 3, 4, 5, 6, 7, 8, 9, 10, 11, 12, 13, 14, 15, 16, 17, 18, 19, 20], [20])])
def spec_FormatTask.B10 : List Nat := [0, 1, 3, 7, 0, 16, 55, 127, 255, 0, 512, 1655, 4095, 8191, 0, 32767, 65535, 0, 131072, 396919, 1048575, 2097151]
theorem spec_FormatTask.tab10 : rtab .any (opsOf Try.f138 10) = spec_FormatTask.T10 := by kernel_rfl
theorem spec_FormatTask.bits10 : waitsOk spec_FormatTask.T10.2 spec_FormatTask.B10 = true := by kernel_rfl
theorem spec_FormatTask.calls (k : Nat) (a0_0 : Int) (A0_1 : Option Addr) (c0_1 : Nat) (l0_1 : List (S60)) (A0_2 : Option Addr) (c0_2 : Nat) (l0_2 : List (S60)) (A0_3 : Option Addr) (c0_3 : Nat) (l0_3 : List Bool) (a0_4 : Int) (r : ByteArray) (w : World) (hr0_1 : Kd.C k60 w A0_1 l0_1.length l0_1) (hc0_1 : l0_1.length ≤ c0_1) (hr0_2 : Kd.C k60 w A0_2 l0_2.length l0_2) (hc0_2 : l0_2.length ≤ c0_2) (hr0_3 : Kd.C Kd.bool w A0_3 l0_3.length l0_3) (hc0_3 : l0_3.length ≤ c0_3) (h : spec_FormatTask.f k a0_0 l0_1 l0_2 l0_3 a0_4 = some r) :
  Calls Try.prog 138 #[.agg #[.int .i64 a0_0, .slice A0_1 l0_1.length c0_1, .slice A0_2 l0_2.length c0_2, .slice A0_3 l0_3.length c0_3, .int .i64 a0_4]] w fun e w' => e = .returned (.string r) ∧ Below w.heap.size w w' := by
 have hu40 := Try.underlying40
 have HR0_1 := Aside0.mk hr0_1
 have HC0_1 := Aside0.mk hc0_1
 clear hr0_1 hc0_1
 have HR0_2 := Aside0.mk hr0_2
 have HC0_2 := Aside0.mk hc0_2
 clear hr0_2 hc0_2
 have HR0_3 := Aside0.mk hr0_3
 have HC0_3 := Aside0.mk hc0_3
 clear hr0_3 hc0_3
 have HB := Aside0.mk (Below.refl w.heap.size w)
 have H : ((spec_IsValidTask.f k a0_0 l0_1 l0_2 l0_3 a0_4).bind fun t1171 => (if t1171 = true then (spec_FormatTask.l0 k (⟨#[]⟩ : ByteArray) 0 a0_0 l0_1 l0_2 l0_3 a0_4) else (some (⟨#[]⟩ : ByteArray)))) = some r := h
 clear h
 replace H := Option.bind_eq_some_iff.mp H
 obtain ⟨t1171, A20, H⟩ := H
 have A2 := Aside0.mk A20
 clear A20
 by_cases c3 : t1171 = true
 ·subst c3
  rw [if_pos rfl] at H
  have H' := Aside0.mk H
  clear H
  go_enter Try.func138, Try.ntmps138
  go_wp2_with (first | ((with_reducible refine gate_dst (N := 1) rfl ?_); refine box_event ?hg (N := 1) ?hd (cs := #[.int .i64 a0_0, .slice A0_1 l0_1.length c0_1, .slice A0_2 l0_2.length c0_2, .slice A0_3 l0_3.length c0_3, .int .i64 a0_4]) (t := 40) ?hr ?_; (case hd => rfl); (case hg => rfl); (case hr => (go_simp; done)); intro gb1170 hg w4 hbox hb; have n0_ := Aside0.mk (below_step HB.out hb); have n1_ := Aside0.mk (hbox); have n2_ := Aside0.mk ((by rw [hg]; exact (below_size HB.out) : w.heap.size ≤ gb1170)); have n3_ := Aside0.mk ((by rw [hg]; exact (below_size HB.out) : w.heap.size ≤ gb1170)); clear HB; have HB := n0_; have BK1170 := n1_; have GW1170 := n2_; have GE1170 := n3_; clear n0_ n1_ n2_ n3_; clear hb hbox hg; have hcz5_0 : w4.cell? ⟨gb1170, 0, none⟩ = some (.int .i64 a0_0) := (blk_cell BK1170.out 0).trans rfl; have hcz5_1 : w4.cell? ⟨gb1170, 1, none⟩ = some (.slice A0_1 l0_1.length c0_1) := (blk_cell BK1170.out 1).trans rfl; have hcz5_2 : w4.cell? ⟨gb1170, 2, none⟩ = some (.slice A0_2 l0_2.length c0_2) := (blk_cell BK1170.out 2).trans rfl; have hcz5_3 : w4.cell? ⟨gb1170, 3, none⟩ = some (.slice A0_3 l0_3.length c0_3) := (blk_cell BK1170.out 3).trans rfl; have hcz5_4 : w4.cell? ⟨gb1170, 4, none⟩ = some (.int .i64 a0_4) := (blk_cell BK1170.out 4).trans rfl; have hfz5_0 := blk_frozen BK1170.out 0; have hfz5_1 := blk_frozen BK1170.out 1; have hfz5_2 := blk_frozen BK1170.out 2; have hfz5_3 := blk_frozen BK1170.out 3; have hfz5_4 := blk_frozen BK1170.out 4) | ((with_reducible refine gate_callee (f := 65) rfl ?_); refine goesL_ (some 6) rfl rfl Try.func65 (by kernel_rfl) rfl #[.agg #[.int .i64 a0_0, .slice A0_1 l0_1.length c0_1, .slice A0_2 l0_2.length c0_2, .slice A0_3 l0_3.length c0_3, .int .i64 a0_4]] rfl (by (try simp only [List.map_toArray, List.map_cons, List.map_nil]); rfl) ?_; (with_reducible refine (spec_IsValidTask.calls k a0_0 _ _ l0_1 _ _ l0_2 _ _ l0_3 a0_4 true _ ?side1 ?side2 ?side3 ?side4 ?side5 ?side6 A2.out).mono ?_); (case side1 => repeat (exact (Kd.C_below HR0_1.out HB.out))); (case side2 => exact HC0_1.out); (case side3 => repeat (exact (Kd.C_below HR0_2.out HB.out))); (case side4 => exact HC0_2.out); (case side5 => repeat (exact (Kd.C_below HR0_3.out HB.out))); (case side6 => exact HC0_3.out); rintro e w6 ⟨rfl, hb⟩; refine ⟨_, rfl, ?_⟩; have n0_ := Aside0.mk (blk_below (g := gb1170) (o := .cells #[.int .i64 a0_0, .slice A0_1 l0_1.length c0_1, .slice A0_2 l0_2.length c0_2, .slice A0_3 l0_3.length c0_3, .int .i64 a0_4] 40 (0, 0)) BK1170.out hb); have n1_ := Aside0.mk (below_step HB.out hb); clear BK1170; clear HB; have BK1170 := n0_; have HB := n1_; clear n0_ n1_; (try clear hb)))
  go_loopg [3, 4] k (fun kq v3 v4 w' => ∃ (x3_1 : ByteArray) (x4_1 : Int), v3 = .string x3_1 ∧ v4 = .int .i64 x4_1 ∧ Aside0 (spec_FormatTask.l0 kq x3_1 x4_1 a0_0 l0_1 l0_2 l0_3 a0_4 = some r) ∧ Aside0 (kq ≤ k) ∧ Aside0 (w'.heap[gb1170]? = some (.cells #[.int .i64 a0_0, (.slice A0_1 l0_1.length c0_1), (.slice A0_2 l0_2.length c0_2), (.slice A0_3 l0_3.length c0_3), .int .i64 a0_4] 40 (0, 0))) ∧ Aside0 (Below w.heap.size w w'))
  case atStart => exact ⟨((⟨#[]⟩ : ByteArray)), (0), rfl, rfl, H', ⟨Nat.le_refl _⟩, ⟨BK1170.out⟩, ⟨HB.out⟩⟩
  case round =>
   clear H'
   try clear hcz5_0
   try clear hcz5_1
   try clear hcz5_2
   try clear hcz5_3
   try clear hcz5_4
   try clear hfz5_0
   try clear hfz5_1
   try clear hfz5_2
   try clear hfz5_3
   try clear hfz5_4
   obtain ⟨x3_1, x4_1, rfl, rfl, HA, HK1, BK1170, HB⟩ := hrel
   cases gk with
   | zero => exact absurd HA.out (by simp [spec_FormatTask.l0])
   | succ k1 =>
    have H := HA.out
    clear HA
    simp only [spec_FormatTask.l0] at H
    by_cases c7 : x4_1 < (l0_3.length : Int)
    ·rw [if_pos c7] at H
     have c7b0 : decide (x4_1 < (l0_3.length : Int)) = true := decide_eq_true c7
     clear c7
     by_cases c8 : 0 ≤ x4_1
     ·rw [if_pos c8] at H
      have c8b0 : decide (0 ≤ x4_1) = true := decide_eq_true c8
      clear c8
      obtain ⟨bq9, hbq9⟩ : ∃ b_ : Bool, b_ = (rdOf false l0_3 x4_1) := ⟨_, rfl⟩
      replace H : (if bq9 = true then (if x3_1.size + 1 ≤ 9223372036854775807 then (spec_FormatTask.l0 k1 (x3_1 ++ (⟨#[49]⟩ : ByteArray)) (wrap64 (x4_1 + 1)) a0_0 l0_1 l0_2 l0_3 a0_4) else (none)) else (if x3_1.size + 1 ≤ 9223372036854775807 then (spec_FormatTask.l0 k1 (x3_1 ++ (⟨#[48]⟩ : ByteArray)) (wrap64 (x4_1 + 1)) a0_0 l0_1 l0_2 l0_3 a0_4) else (none))) = some r := by rw [← hbq9] at H; exact H
      have Nbq9 := Aside0.mk hbq9
      clear hbq9
      by_cases c10 : bq9 = true
      ·subst c10
       rw [if_pos rfl] at H
       by_cases c11 : x3_1.size + 1 ≤ 9223372036854775807
       ·rw [if_pos c11] at H
        have c11b0 := eq_true c11
        have c11b1 : decide (x3_1.size + 1 ≤ 9223372036854775807) = true := decide_eq_true c11
        try have c11b2 : (9223372036854775807 < x3_1.size + 1) = False := eq_false (Nat.not_lt.2 c11)
        have H' := Aside0.mk H
        clear H
        have hcz12_0 : wr.cell? ⟨gb1170, 0, none⟩ = some (.int .i64 a0_0) := (blk_cell BK1170.out 0).trans rfl
        have hcz12_1 : wr.cell? ⟨gb1170, 1, none⟩ = some (.slice A0_1 l0_1.length c0_1) := (blk_cell BK1170.out 1).trans rfl
        have hcz12_2 : wr.cell? ⟨gb1170, 2, none⟩ = some (.slice A0_2 l0_2.length c0_2) := (blk_cell BK1170.out 2).trans rfl
        have hcz12_3 : wr.cell? ⟨gb1170, 3, none⟩ = some (.slice A0_3 l0_3.length c0_3) := (blk_cell BK1170.out 3).trans rfl
        have hcz12_4 : wr.cell? ⟨gb1170, 4, none⟩ = some (.int .i64 a0_4) := (blk_cell BK1170.out 4).trans rfl
        have hfz12_0 := blk_frozen BK1170.out 0
        have hfz12_1 := blk_frozen BK1170.out 1
        have hfz12_2 := blk_frozen BK1170.out 2
        have hfz12_3 := blk_frozen BK1170.out 3
        have hfz12_4 := blk_frozen BK1170.out 4
        have p1172 : 0 ≤ (x4_1 : Int) := of_decide_eq_true (by (with_reducible assumption))
        have q1172 : x4_1 < (l0_3.length : Int) := of_decide_eq_true (by (with_reducible assumption))
        obtain ⟨ad1172, e1172, hx1172_0⟩ := Kd.at_bool HR0_3.out x4_1 p1172 q1172
        (try rw [← Nbq9.out] at hx1172_0)
        cases e1172
        replace hx1172_0 := (HB.out.cell (World.block_lt_of_cell? w _ hx1172_0)).trans hx1172_0
        replace p1172 := eq_true p1172
        replace q1172 := eq_true q1172
        go_wp2
        go_roundg k1
        case measure => have := HK1.out; omega
        case rel => exact ⟨(x3_1 ++ (⟨#[49]⟩ : ByteArray)), (wrap64 (x4_1 + 1)), rfl, rfl, H', ⟨by have := HK1.out; omega⟩, ⟨BK1170.out⟩, ⟨HB.out⟩⟩
       ·rw [if_neg c11] at H
        exact absurd H (by simp)
      ·replace c10 := Bool.eq_false_iff.mpr c10
       subst c10
       rw [if_neg (show ¬ (false = true) by decide)] at H
       by_cases c13 : x3_1.size + 1 ≤ 9223372036854775807
       ·rw [if_pos c13] at H
        have c13b0 := eq_true c13
        have c13b1 : decide (x3_1.size + 1 ≤ 9223372036854775807) = true := decide_eq_true c13
        try have c13b2 : (9223372036854775807 < x3_1.size + 1) = False := eq_false (Nat.not_lt.2 c13)
        have H' := Aside0.mk H
        clear H
        have hcz14_0 : wr.cell? ⟨gb1170, 0, none⟩ = some (.int .i64 a0_0) := (blk_cell BK1170.out 0).trans rfl
        have hcz14_1 : wr.cell? ⟨gb1170, 1, none⟩ = some (.slice A0_1 l0_1.length c0_1) := (blk_cell BK1170.out 1).trans rfl
        have hcz14_2 : wr.cell? ⟨gb1170, 2, none⟩ = some (.slice A0_2 l0_2.length c0_2) := (blk_cell BK1170.out 2).trans rfl
        have hcz14_3 : wr.cell? ⟨gb1170, 3, none⟩ = some (.slice A0_3 l0_3.length c0_3) := (blk_cell BK1170.out 3).trans rfl
        have hcz14_4 : wr.cell? ⟨gb1170, 4, none⟩ = some (.int .i64 a0_4) := (blk_cell BK1170.out 4).trans rfl
        have hfz14_0 := blk_frozen BK1170.out 0
        have hfz14_1 := blk_frozen BK1170.out 1
        have hfz14_2 := blk_frozen BK1170.out 2
        have hfz14_3 := blk_frozen BK1170.out 3
        have hfz14_4 := blk_frozen BK1170.out 4
        have p1172 : 0 ≤ (x4_1 : Int) := of_decide_eq_true (by (with_reducible assumption))
        have q1172 : x4_1 < (l0_3.length : Int) := of_decide_eq_true (by (with_reducible assumption))
        obtain ⟨ad1172, e1172, hx1172_0⟩ := Kd.at_bool HR0_3.out x4_1 p1172 q1172
        (try rw [← Nbq9.out] at hx1172_0)
        cases e1172
        replace hx1172_0 := (HB.out.cell (World.block_lt_of_cell? w _ hx1172_0)).trans hx1172_0
        replace p1172 := eq_true p1172
        replace q1172 := eq_true q1172
        go_wp2
        go_roundg k1
        case measure => have := HK1.out; omega
        case rel => exact ⟨(x3_1 ++ (⟨#[48]⟩ : ByteArray)), (wrap64 (x4_1 + 1)), rfl, rfl, H', ⟨by have := HK1.out; omega⟩, ⟨BK1170.out⟩, ⟨HB.out⟩⟩
       ·rw [if_neg c13] at H
        exact absurd H (by simp)
     ·rw [if_neg c8] at H
      exact absurd H (by simp)
    ·rw [if_neg c7] at H
     have c7b0 : decide (x4_1 < (l0_3.length : Int)) = false := decide_eq_false c7
     clear c7
     replace H := Option.bind_eq_some_iff.mp H
     obtain ⟨t1173, A150, H⟩ := H
     have A15 := Aside0.mk A150
     clear A150
     by_cases c16 : t1173.size + 1 ≤ 9223372036854775807
     ·rw [if_pos c16] at H
      have c16b0 := eq_true c16
      have c16b1 : decide (t1173.size + 1 ≤ 9223372036854775807) = true := decide_eq_true c16
      try have c16b2 : (9223372036854775807 < t1173.size + 1) = False := eq_false (Nat.not_lt.2 c16)
      replace H := Option.bind_eq_some_iff.mp H
      obtain ⟨t1174, A170, H⟩ := H
      have A17 := Aside0.mk A170
      clear A170
      by_cases c18 : (t1173 ++ (⟨#[59]⟩ : ByteArray)).size + t1174.size ≤ 9223372036854775807
      ·rw [if_pos c18] at H
       have c18b0 := eq_true c18
       have c18b1 : decide ((t1173 ++ (⟨#[59]⟩ : ByteArray)).size + t1174.size ≤ 9223372036854775807) = true := decide_eq_true c18
       try have c18b3 : (9223372036854775807 < t1173.size + 1 + t1174.size) = False := eq_false (by have h_ := c18; simp only [ByteArray.size_append] at h_; (exact Nat.not_lt.2 h_))
       try have c18b2 : (9223372036854775807 < (t1173 ++ (⟨#[59]⟩ : ByteArray)).size + t1174.size) = False := eq_false (Nat.not_lt.2 c18)
       by_cases c19 : ((t1173 ++ (⟨#[59]⟩ : ByteArray)) ++ t1174).size + 1 ≤ 9223372036854775807
       ·rw [if_pos c19] at H
        have c19b0 := eq_true c19
        have c19b1 : decide (((t1173 ++ (⟨#[59]⟩ : ByteArray)) ++ t1174).size + 1 ≤ 9223372036854775807) = true := decide_eq_true c19
        try have c19b3 : (9223372036854775807 < t1173.size + 1 + t1174.size + 1) = False := eq_false (by have h_ := c19; simp only [ByteArray.size_append] at h_; (exact Nat.not_lt.2 h_))
        try have c19b2 : (9223372036854775807 < ((t1173 ++ (⟨#[59]⟩ : ByteArray)) ++ t1174).size + 1) = False := eq_false (Nat.not_lt.2 c19)
        replace H := Option.bind_eq_some_iff.mp H
        obtain ⟨t1175, A200, H⟩ := H
        have A20 := Aside0.mk A200
        clear A200
        by_cases c21 : (((t1173 ++ (⟨#[59]⟩ : ByteArray)) ++ t1174) ++ (⟨#[59]⟩ : ByteArray)).size + t1175.size ≤ 9223372036854775807
        ·rw [if_pos c21] at H
         have c21b0 := eq_true c21
         have c21b1 : decide ((((t1173 ++ (⟨#[59]⟩ : ByteArray)) ++ t1174) ++ (⟨#[59]⟩ : ByteArray)).size + t1175.size ≤ 9223372036854775807) = true := decide_eq_true c21
         try have c21b3 : (9223372036854775807 < t1173.size + 1 + t1174.size + 1 + t1175.size) = False := eq_false (by have h_ := c21; simp only [ByteArray.size_append] at h_; (exact Nat.not_lt.2 h_))
         try have c21b2 : (9223372036854775807 < (((t1173 ++ (⟨#[59]⟩ : ByteArray)) ++ t1174) ++ (⟨#[59]⟩ : ByteArray)).size + t1175.size) = False := eq_false (Nat.not_lt.2 c21)
         by_cases c22 : ((((t1173 ++ (⟨#[59]⟩ : ByteArray)) ++ t1174) ++ (⟨#[59]⟩ : ByteArray)) ++ t1175).size + 1 ≤ 9223372036854775807
         ·rw [if_pos c22] at H
          have c22b0 := eq_true c22
          have c22b1 : decide (((((t1173 ++ (⟨#[59]⟩ : ByteArray)) ++ t1174) ++ (⟨#[59]⟩ : ByteArray)) ++ t1175).size + 1 ≤ 9223372036854775807) = true := decide_eq_true c22
          try have c22b3 : (9223372036854775807 < t1173.size + 1 + t1174.size + 1 + t1175.size + 1) = False := eq_false (by have h_ := c22; simp only [ByteArray.size_append] at h_; (exact Nat.not_lt.2 h_))
          try have c22b2 : (9223372036854775807 < ((((t1173 ++ (⟨#[59]⟩ : ByteArray)) ++ t1174) ++ (⟨#[59]⟩ : ByteArray)) ++ t1175).size + 1) = False := eq_false (Nat.not_lt.2 c22)
          by_cases c23 : (((((t1173 ++ (⟨#[59]⟩ : ByteArray)) ++ t1174) ++ (⟨#[59]⟩ : ByteArray)) ++ t1175) ++ (⟨#[59]⟩ : ByteArray)).size + x3_1.size ≤ 9223372036854775807
          ·rw [if_pos c23] at H
           have c23b0 := eq_true c23
           have c23b1 : decide ((((((t1173 ++ (⟨#[59]⟩ : ByteArray)) ++ t1174) ++ (⟨#[59]⟩ : ByteArray)) ++ t1175) ++ (⟨#[59]⟩ : ByteArray)).size + x3_1.size ≤ 9223372036854775807) = true := decide_eq_true c23
           try have c23b3 : (9223372036854775807 < t1173.size + 1 + t1174.size + 1 + t1175.size + 1 + x3_1.size) = False := eq_false (by have h_ := c23; simp only [ByteArray.size_append] at h_; (exact Nat.not_lt.2 h_))
           try have c23b2 : (9223372036854775807 < (((((t1173 ++ (⟨#[59]⟩ : ByteArray)) ++ t1174) ++ (⟨#[59]⟩ : ByteArray)) ++ t1175) ++ (⟨#[59]⟩ : ByteArray)).size + x3_1.size) = False := eq_false (Nat.not_lt.2 c23)
           by_cases c24 : ((((((t1173 ++ (⟨#[59]⟩ : ByteArray)) ++ t1174) ++ (⟨#[59]⟩ : ByteArray)) ++ t1175) ++ (⟨#[59]⟩ : ByteArray)) ++ x3_1).size + 1 ≤ 9223372036854775807
           ·rw [if_pos c24] at H
            have c24b0 := eq_true c24
            have c24b1 : decide (((((((t1173 ++ (⟨#[59]⟩ : ByteArray)) ++ t1174) ++ (⟨#[59]⟩ : ByteArray)) ++ t1175) ++ (⟨#[59]⟩ : ByteArray)) ++ x3_1).size + 1 ≤ 9223372036854775807) = true := decide_eq_true c24
            try have c24b3 : (9223372036854775807 < t1173.size + 1 + t1174.size + 1 + t1175.size + 1 + x3_1.size + 1) = False := eq_false (by have h_ := c24; simp only [ByteArray.size_append] at h_; (exact Nat.not_lt.2 h_))
            try have c24b2 : (9223372036854775807 < ((((((t1173 ++ (⟨#[59]⟩ : ByteArray)) ++ t1174) ++ (⟨#[59]⟩ : ByteArray)) ++ t1175) ++ (⟨#[59]⟩ : ByteArray)) ++ x3_1).size + 1) = False := eq_false (Nat.not_lt.2 c24)
            replace H := Option.bind_eq_some_iff.mp H
            obtain ⟨t1176, A250, H⟩ := H
            have A25 := Aside0.mk A250
            clear A250
            by_cases c26 : (((((((t1173 ++ (⟨#[59]⟩ : ByteArray)) ++ t1174) ++ (⟨#[59]⟩ : ByteArray)) ++ t1175) ++ (⟨#[59]⟩ : ByteArray)) ++ x3_1) ++ (⟨#[59]⟩ : ByteArray)).size + t1176.size ≤ 9223372036854775807
            ·rw [if_pos c26] at H
             have c26b0 := eq_true c26
             have c26b1 : decide ((((((((t1173 ++ (⟨#[59]⟩ : ByteArray)) ++ t1174) ++ (⟨#[59]⟩ : ByteArray)) ++ t1175) ++ (⟨#[59]⟩ : ByteArray)) ++ x3_1) ++ (⟨#[59]⟩ : ByteArray)).size + t1176.size ≤ 9223372036854775807) = true := decide_eq_true c26
             try have c26b3 : (9223372036854775807 < t1173.size + 1 + t1174.size + 1 + t1175.size + 1 + x3_1.size + 1 + t1176.size) = False := eq_false (by have h_ := c26; simp only [ByteArray.size_append] at h_; (exact Nat.not_lt.2 h_))
             try have c26b2 : (9223372036854775807 < (((((((t1173 ++ (⟨#[59]⟩ : ByteArray)) ++ t1174) ++ (⟨#[59]⟩ : ByteArray)) ++ t1175) ++ (⟨#[59]⟩ : ByteArray)) ++ x3_1) ++ (⟨#[59]⟩ : ByteArray)).size + t1176.size) = False := eq_false (Nat.not_lt.2 c26)
             obtain rfl := Option.some.inj H
             have hcz27_0 : wr.cell? ⟨gb1170, 0, none⟩ = some (.int .i64 a0_0) := (blk_cell BK1170.out 0).trans rfl
             have hcz27_1 : wr.cell? ⟨gb1170, 1, none⟩ = some (.slice A0_1 l0_1.length c0_1) := (blk_cell BK1170.out 1).trans rfl
             have hcz27_2 : wr.cell? ⟨gb1170, 2, none⟩ = some (.slice A0_2 l0_2.length c0_2) := (blk_cell BK1170.out 2).trans rfl
             have hcz27_3 : wr.cell? ⟨gb1170, 3, none⟩ = some (.slice A0_3 l0_3.length c0_3) := (blk_cell BK1170.out 3).trans rfl
             have hcz27_4 : wr.cell? ⟨gb1170, 4, none⟩ = some (.int .i64 a0_4) := (blk_cell BK1170.out 4).trans rfl
             have hfz27_0 := blk_frozen BK1170.out 0
             have hfz27_1 := blk_frozen BK1170.out 1
             have hfz27_2 := blk_frozen BK1170.out 2
             have hfz27_3 := blk_frozen BK1170.out 3
             have hfz27_4 := blk_frozen BK1170.out 4
             try go_wp2
             have n0_ := Aside0.mk (blk_drew BK1170.out)
             have n1_ := Aside0.mk (below_drew1 HB.out)
             clear BK1170
             clear HB
             have BK1170 := n0_
             have HB := n1_
             clear n0_ n1_
             refine start_ (n := 22) (S := fun w' => w'.cell? ⟨gb1170, 0, none⟩ = some (.int .i64 a0_0) ∧ w'.cell? ⟨gb1170, 1, none⟩ = some (.slice A0_1 l0_1.length c0_1) ∧ w'.cell? ⟨gb1170, 2, none⟩ = some (.slice A0_2 l0_2.length c0_2) ∧ w'.cell? ⟨gb1170, 3, none⟩ = some (.slice A0_3 l0_3.length c0_3) ∧ w'.cell? ⟨gb1170, 4, none⟩ = some (.int .i64 a0_4)) (ds := []) #[false, false, false, false, false, false, false, false, false, false, false, false, false, false, false, false, false, false, false, false, false, false] (by kernel_rfl) rfl rfl ⟨(blk_cell BK1170.out 0).trans rfl, (blk_cell BK1170.out 1).trans rfl, (blk_cell BK1170.out 2).trans rfl, (blk_cell BK1170.out 3).trans rfl, (blk_cell BK1170.out 4).trans rfl⟩ (fun hHeld => ?_); refine with_tabW spec_FormatTask.tab10 spec_FormatTask.bits10 (fun HT_ HW_ => ?_)
             generalize wr.drew = w28 at BK1170 HB hHeld ⊢
             refine pure_ (i := 0) (N := some 24) (v := ?_) (a' := ?_) #[true, false, false, false, false, false, false, false, false, false, false, false, false, false, false, false, false, false, false, false, false, false] rfl rfl (any_of HT_.out (by kernel_rfl)) (fun _ _ _ h => h) (Or.inl ⟨rfl, ?_⟩) ?_ ?_
             rotate_left
             ·intro w'
              go_simp
              with_reducible rfl
             rotate_left
             ·simp only [Act.put, List.setIfInBounds_toArray, List.set_cons_zero, List.set_cons_succ, i64_w, i32_w]
              rfl
             refine pure_ (i := 4) (N := some 28) (v := ?_) (a' := ?_) #[true, false, false, false, true, false, false, false, false, false, false, false, false, false, false, false, false, false, false, false, false, false] rfl rfl (any_of HT_.out (by kernel_rfl)) (fun _ _ _ h => h) (Or.inl ⟨rfl, ?_⟩) ?_ ?_
             rotate_left
             ·intro w'
              go_simp
              with_reducible rfl
             rotate_left
             ·simp only [Act.put, List.setIfInBounds_toArray, List.set_cons_zero, List.set_cons_succ, i64_w, i32_w]
              rfl
             refine pure_ (i := 9) (N := some 33) (v := ?_) (a' := ?_) #[true, false, false, false, true, false, false, false, false, true, false, false, false, false, false, false, false, false, false, false, false, false] rfl rfl (any_of HT_.out (by kernel_rfl)) (fun _ _ _ h => h) (Or.inl ⟨rfl, ?_⟩) ?_ ?_
             rotate_left
             ·intro w'
              go_simp
              with_reducible rfl
             rotate_left
             ·simp only [Act.put, List.setIfInBounds_toArray, List.set_cons_zero, List.set_cons_succ, i64_w, i32_w]
              rfl
             refine pure_ (i := 14) (N := some 38) (v := ?_) (a' := ?_) #[true, false, false, false, true, false, false, false, false, true, false, false, false, false, true, false, false, false, false, false, false, false] rfl rfl (any_of HT_.out (by kernel_rfl)) (fun _ _ _ h => h) (Or.inl ⟨rfl, ?_⟩) ?_ ?_
             rotate_left
             ·intro w'
              go_simp
              with_reducible rfl
             rotate_left
             ·simp only [Act.put, List.setIfInBounds_toArray, List.set_cons_zero, List.set_cons_succ, i64_w, i32_w]
              rfl
             refine pure_ (i := 17) (N := some 41) (v := ?_) (a' := ?_) #[true, false, false, false, true, false, false, false, false, true, false, false, false, false, true, false, false, true, false, false, false, false] rfl rfl (any_of HT_.out (by kernel_rfl)) (fun _ _ _ h => h) (Or.inl ⟨rfl, ?_⟩) ?_ ?_
             rotate_left
             ·intro w'
              go_simp
              with_reducible rfl
             rotate_left
             ·simp only [Act.put, List.setIfInBounds_toArray, List.set_cons_zero, List.set_cons_succ, i64_w, i32_w]
              rfl
             refine take_ (i := 1) (N := some 25) (v := ?_) (a' := ?_) #[true, true, false, false, true, false, false, false, false, true, false, false, false, false, true, false, false, true, false, false, false, false] rfl rfl (take_ofW HT_.out HW_.out (by kernel_rfl)) (fun _ _ _ h => h) (Or.inl ⟨rfl, ?_⟩) hHeld ?_ ?_
             rotate_left
             ·rintro w' ⟨s0, s1, s2, s3, s4⟩
              go_simp
              with_reducible rfl
             rotate_left
             ·simp only [Act.put, List.setIfInBounds_toArray, List.set_cons_zero, List.set_cons_succ, i64_w, i32_w]
              rfl
             refine take_ (i := 5) (N := some 29) (v := ?_) (a' := ?_) #[true, true, false, false, true, true, false, false, false, true, false, false, false, false, true, false, false, true, false, false, false, false] rfl rfl (take_ofW HT_.out HW_.out (by kernel_rfl)) (fun _ _ _ h => h) (Or.inl ⟨rfl, ?_⟩) hHeld ?_ ?_
             rotate_left
             ·rintro w' ⟨s0, s1, s2, s3, s4⟩
              go_simp
              with_reducible rfl
             rotate_left
             ·simp only [Act.put, List.setIfInBounds_toArray, List.set_cons_zero, List.set_cons_succ, i64_w, i32_w]
              rfl
             refine take_ (i := 10) (N := some 34) (v := ?_) (a' := ?_) #[true, true, false, false, true, true, false, false, false, true, true, false, false, false, true, false, false, true, false, false, false, false] rfl rfl (take_ofW HT_.out HW_.out (by kernel_rfl)) (fun _ _ _ h => h) (Or.inl ⟨rfl, ?_⟩) hHeld ?_ ?_
             rotate_left
             ·rintro w' ⟨s0, s1, s2, s3, s4⟩
              go_simp
              with_reducible rfl
             rotate_left
             ·simp only [Act.put, List.setIfInBounds_toArray, List.set_cons_zero, List.set_cons_succ, i64_w, i32_w]
              rfl
             refine take_ (i := 18) (N := some 42) (v := ?_) (a' := ?_) #[true, true, false, false, true, true, false, false, false, true, true, false, false, false, true, false, false, true, true, false, false, false] rfl rfl (take_ofW HT_.out HW_.out (by kernel_rfl)) (fun _ _ _ h => h) (Or.inl ⟨rfl, ?_⟩) hHeld ?_ ?_
             rotate_left
             ·rintro w' ⟨s0, s1, s2, s3, s4⟩
              go_simp
              with_reducible rfl
             rotate_left
             ·simp only [Act.put, List.setIfInBounds_toArray, List.set_cons_zero, List.set_cons_succ, i64_w, i32_w]
              rfl
             refine one_ (i := 2) (N := some 26) #[true, true, true, false, true, true, false, false, false, true, true, false, false, false, true, false, false, true, true, false, false, false] rfl rfl (one_of HT_.out (by kernel_rfl)) (by decide) (fun K hK => ?_)
             refine goes_ Try.func184 (by kernel_rfl) rfl #[.int .i64 a0_0] rfl rfl rfl (by (try simp only [List.map_toArray, List.map_cons, List.map_nil]); rfl) ?_
             with_reducible refine (spec_FormatInt.calls k1 a0_0 t1173 _ A15.out).mono ?_
             rintro e w29 ⟨rfl, hb⟩
             refine ⟨_, rfl, ?_⟩
             have n0_ := Aside0.mk (blk_below (g := gb1170) (o := .cells #[.int .i64 a0_0, .slice A0_1 l0_1.length c0_1, .slice A0_2 l0_2.length c0_2, .slice A0_3 l0_3.length c0_3, .int .i64 a0_4] 40 (0, 0)) BK1170.out hb)
             have n1_ := Aside0.mk (below_step HB.out hb)
             clear BK1170
             clear HB
             have BK1170 := n0_
             have HB := n1_
             clear n0_ n1_
             (try clear hb)
             (try clear hb2)
             (try clear hk)
             (try clear hi)
             refine hK.out _ _ ⟨(blk_cell BK1170.out 0).trans rfl, (blk_cell BK1170.out 1).trans rfl, (blk_cell BK1170.out 2).trans rfl, (blk_cell BK1170.out 3).trans rfl, (blk_cell BK1170.out 4).trans rfl⟩ (fun hHeld => ?_)
             clear hK K
             refine norm_ (a' := ?_) ?_ ?_
             rotate_left
             ·show Act.put _ (some 26) _ = _
              simp only [Act.put, List.setIfInBounds_toArray, List.set_cons_zero, List.set_cons_succ, i64_w, i32_w]
              rfl
             refine pure_ (i := 3) (N := some 27) (v := ?_) (a' := ?_) #[true, true, true, true, true, true, false, false, false, true, true, false, false, false, true, false, false, true, true, false, false, false] rfl rfl (any_of HT_.out (by kernel_rfl)) (fun _ _ _ h => h) (Or.inl ⟨rfl, ?_⟩) ?_ ?_
             rotate_left
             ·intro w'
              go_simp
              with_reducible rfl
             rotate_left
             ·simp only [Act.put, List.setIfInBounds_toArray, List.set_cons_zero, List.set_cons_succ, i64_w, i32_w]
              rfl
             refine one_ (i := 6) (N := some 30) #[true, true, true, true, true, true, true, false, false, true, true, false, false, false, true, false, false, true, true, false, false, false] rfl rfl (one_of HT_.out (by kernel_rfl)) (by decide) (fun K hK => ?_)
             refine goes_ Try.func186 (by kernel_rfl) rfl #[.slice A0_1 l0_1.length c0_1] rfl rfl rfl (by (try simp only [List.map_toArray, List.map_cons, List.map_nil]); rfl) ?_
             with_reducible refine (spec_FormatRows.calls k1 _ _ l0_1 t1174 _ ?side1 ?side2 A17.out).mono ?_
             (case side1 => repeat (exact (Kd.C_below HR0_1.out HB.out)))
             (case side2 => exact HC0_1.out)
             rintro e w30 ⟨rfl, hb⟩
             refine ⟨_, rfl, ?_⟩
             have n0_ := Aside0.mk (blk_below (g := gb1170) (o := .cells #[.int .i64 a0_0, .slice A0_1 l0_1.length c0_1, .slice A0_2 l0_2.length c0_2, .slice A0_3 l0_3.length c0_3, .int .i64 a0_4] 40 (0, 0)) BK1170.out hb)
             have n1_ := Aside0.mk (below_step HB.out hb)
             clear BK1170
             clear HB
             have BK1170 := n0_
             have HB := n1_
             clear n0_ n1_
             (try clear hb)
             (try clear hb2)
             (try clear hk)
             (try clear hi)
             refine hK.out _ _ ⟨(blk_cell BK1170.out 0).trans rfl, (blk_cell BK1170.out 1).trans rfl, (blk_cell BK1170.out 2).trans rfl, (blk_cell BK1170.out 3).trans rfl, (blk_cell BK1170.out 4).trans rfl⟩ (fun hHeld => ?_)
             clear hK K
             refine norm_ (a' := ?_) ?_ ?_
             rotate_left
             ·show Act.put _ (some 30) _ = _
              simp only [Act.put, List.setIfInBounds_toArray, List.set_cons_zero, List.set_cons_succ, i64_w, i32_w]
              rfl
             refine pure_ (i := 7) (N := some 31) (v := ?_) (a' := ?_) #[true, true, true, true, true, true, true, true, false, true, true, false, false, false, true, false, false, true, true, false, false, false] rfl rfl (any_of HT_.out (by kernel_rfl)) (fun _ _ _ h => h) (Or.inl ⟨rfl, ?_⟩) ?_ ?_
             rotate_left
             ·intro w'
              go_simp
              with_reducible rfl
             rotate_left
             ·simp only [Act.put, List.setIfInBounds_toArray, List.set_cons_zero, List.set_cons_succ, i64_w, i32_w]
              rfl
             refine pure_ (i := 8) (N := some 32) (v := ?_) (a' := ?_) #[true, true, true, true, true, true, true, true, true, true, true, false, false, false, true, false, false, true, true, false, false, false] rfl rfl (any_of HT_.out (by kernel_rfl)) (fun _ _ _ h => h) (Or.inl ⟨rfl, ?_⟩) ?_ ?_
             rotate_left
             ·intro w'
              go_simp
              with_reducible rfl
             rotate_left
             ·simp only [Act.put, List.setIfInBounds_toArray, List.set_cons_zero, List.set_cons_succ, i64_w, i32_w]
              rfl
             refine one_ (i := 11) (N := some 35) #[true, true, true, true, true, true, true, true, true, true, true, true, false, false, true, false, false, true, true, false, false, false] rfl rfl (one_of HT_.out (by kernel_rfl)) (by decide) (fun K hK => ?_)
             refine goes_ Try.func186 (by kernel_rfl) rfl #[.slice A0_2 l0_2.length c0_2] rfl rfl rfl (by (try simp only [List.map_toArray, List.map_cons, List.map_nil]); rfl) ?_
             with_reducible refine (spec_FormatRows.calls k1 _ _ l0_2 t1175 _ ?side1 ?side2 A20.out).mono ?_
             (case side1 => repeat (exact (Kd.C_below HR0_2.out HB.out)))
             (case side2 => exact HC0_2.out)
             rintro e w31 ⟨rfl, hb⟩
             refine ⟨_, rfl, ?_⟩
             have n0_ := Aside0.mk (blk_below (g := gb1170) (o := .cells #[.int .i64 a0_0, .slice A0_1 l0_1.length c0_1, .slice A0_2 l0_2.length c0_2, .slice A0_3 l0_3.length c0_3, .int .i64 a0_4] 40 (0, 0)) BK1170.out hb)
             have n1_ := Aside0.mk (below_step HB.out hb)
             clear BK1170
             clear HB
             have BK1170 := n0_
             have HB := n1_
             clear n0_ n1_
             (try clear hb)
             (try clear hb2)
             (try clear hk)
             (try clear hi)
             refine hK.out _ _ ⟨(blk_cell BK1170.out 0).trans rfl, (blk_cell BK1170.out 1).trans rfl, (blk_cell BK1170.out 2).trans rfl, (blk_cell BK1170.out 3).trans rfl, (blk_cell BK1170.out 4).trans rfl⟩ (fun hHeld => ?_)
             clear hK K
             refine norm_ (a' := ?_) ?_ ?_
             rotate_left
             ·show Act.put _ (some 35) _ = _
              simp only [Act.put, List.setIfInBounds_toArray, List.set_cons_zero, List.set_cons_succ, i64_w, i32_w]
              rfl
             refine pure_ (i := 12) (N := some 36) (v := ?_) (a' := ?_) #[true, true, true, true, true, true, true, true, true, true, true, true, true, false, true, false, false, true, true, false, false, false] rfl rfl (any_of HT_.out (by kernel_rfl)) (fun _ _ _ h => h) (Or.inl ⟨rfl, ?_⟩) ?_ ?_
             rotate_left
             ·intro w'
              go_simp
              with_reducible rfl
             rotate_left
             ·simp only [Act.put, List.setIfInBounds_toArray, List.set_cons_zero, List.set_cons_succ, i64_w, i32_w]
              rfl
             refine pure_ (i := 13) (N := some 37) (v := ?_) (a' := ?_) #[true, true, true, true, true, true, true, true, true, true, true, true, true, true, true, false, false, true, true, false, false, false] rfl rfl (any_of HT_.out (by kernel_rfl)) (fun _ _ _ h => h) (Or.inl ⟨rfl, ?_⟩) ?_ ?_
             rotate_left
             ·intro w'
              go_simp
              with_reducible rfl
             rotate_left
             ·simp only [Act.put, List.setIfInBounds_toArray, List.set_cons_zero, List.set_cons_succ, i64_w, i32_w]
              rfl
             refine pure_ (i := 15) (N := some 39) (v := ?_) (a' := ?_) #[true, true, true, true, true, true, true, true, true, true, true, true, true, true, true, true, false, true, true, false, false, false] rfl rfl (any_of HT_.out (by kernel_rfl)) (fun _ _ _ h => h) (Or.inl ⟨rfl, ?_⟩) ?_ ?_
             rotate_left
             ·intro w'
              go_simp
              with_reducible rfl
             rotate_left
             ·simp only [Act.put, List.setIfInBounds_toArray, List.set_cons_zero, List.set_cons_succ, i64_w, i32_w]
              rfl
             refine pure_ (i := 16) (N := some 40) (v := ?_) (a' := ?_) #[true, true, true, true, true, true, true, true, true, true, true, true, true, true, true, true, true, true, true, false, false, false] rfl rfl (any_of HT_.out (by kernel_rfl)) (fun _ _ _ h => h) (Or.inl ⟨rfl, ?_⟩) ?_ ?_
             rotate_left
             ·intro w'
              go_simp
              with_reducible rfl
             rotate_left
             ·simp only [Act.put, List.setIfInBounds_toArray, List.set_cons_zero, List.set_cons_succ, i64_w, i32_w]
              rfl
             refine one_ (i := 19) (N := some 43) #[true, true, true, true, true, true, true, true, true, true, true, true, true, true, true, true, true, true, true, true, false, false] rfl rfl (one_of HT_.out (by kernel_rfl)) (by decide) (fun K hK => ?_)
             refine goes_ Try.func184 (by kernel_rfl) rfl #[.int .i64 a0_4] rfl rfl rfl (by (try simp only [List.map_toArray, List.map_cons, List.map_nil]); rfl) ?_
             with_reducible refine (spec_FormatInt.calls k1 a0_4 t1176 _ A25.out).mono ?_
             rintro e w32 ⟨rfl, hb⟩
             refine ⟨_, rfl, ?_⟩
             have n0_ := Aside0.mk (blk_below (g := gb1170) (o := .cells #[.int .i64 a0_0, .slice A0_1 l0_1.length c0_1, .slice A0_2 l0_2.length c0_2, .slice A0_3 l0_3.length c0_3, .int .i64 a0_4] 40 (0, 0)) BK1170.out hb)
             have n1_ := Aside0.mk (below_step HB.out hb)
             clear BK1170
             clear HB
             have BK1170 := n0_
             have HB := n1_
             clear n0_ n1_
             (try clear hb)
             (try clear hb2)
             (try clear hk)
             (try clear hi)
             refine hK.out _ _ ⟨(blk_cell BK1170.out 0).trans rfl, (blk_cell BK1170.out 1).trans rfl, (blk_cell BK1170.out 2).trans rfl, (blk_cell BK1170.out 3).trans rfl, (blk_cell BK1170.out 4).trans rfl⟩ (fun hHeld => ?_)
             clear hK K
             refine norm_ (a' := ?_) ?_ ?_
             rotate_left
             ·show Act.put _ (some 43) _ = _
              simp only [Act.put, List.setIfInBounds_toArray, List.set_cons_zero, List.set_cons_succ, i64_w, i32_w]
              rfl
             refine pure_ (i := 20) (N := some 44) (v := ?_) (a' := ?_) #[true, true, true, true, true, true, true, true, true, true, true, true, true, true, true, true, true, true, true, true, true, false] rfl rfl (any_of HT_.out (by kernel_rfl)) (fun _ _ _ h => h) (Or.inl ⟨rfl, ?_⟩) ?_ ?_
             rotate_left
             ·intro w'
              go_simp
              with_reducible rfl
             rotate_left
             ·simp only [Act.put, List.setIfInBounds_toArray, List.set_cons_zero, List.set_cons_succ, i64_w, i32_w]
              rfl
             refine pure_ (i := 21) (N := some 2) (v := ?_) (a' := ?_) #[true, true, true, true, true, true, true, true, true, true, true, true, true, true, true, true, true, true, true, true, true, true] rfl rfl (any_of HT_.out (by kernel_rfl)) (fun _ _ _ h => h) (Or.inl ⟨rfl, ?_⟩) ?_ ?_
             rotate_left
             ·intro w'
              go_simp
              with_reducible rfl
             rotate_left
             ·simp only [Act.put, List.setIfInBounds_toArray, List.set_cons_zero, List.set_cons_succ, i64_w, i32_w]
              rfl
             refine done_ (done_of HT_.out (by kernel_rfl)) ?_
             try go_wp2
             go_ret
             exact ⟨rfl, HB.out⟩
            ·rw [if_neg c26] at H
             exact absurd H (by simp)
           ·rw [if_neg c24] at H
            exact absurd H (by simp)
          ·rw [if_neg c23] at H
           exact absurd H (by simp)
         ·rw [if_neg c22] at H
          exact absurd H (by simp)
        ·rw [if_neg c21] at H
         exact absurd H (by simp)
       ·rw [if_neg c19] at H
        exact absurd H (by simp)
      ·rw [if_neg c18] at H
       exact absurd H (by simp)
     ·rw [if_neg c16] at H
      exact absurd H (by simp)
 ·replace c3 := Bool.eq_false_iff.mpr c3
  subst c3
  rw [if_neg (show ¬ (false = true) by decide)] at H
  obtain rfl := Option.some.inj H
  go_enter Try.func138, Try.ntmps138
  go_wp2_with (first | ((with_reducible refine gate_dst (N := 1) rfl ?_); refine box_event ?hg (N := 1) ?hd (cs := #[.int .i64 a0_0, .slice A0_1 l0_1.length c0_1, .slice A0_2 l0_2.length c0_2, .slice A0_3 l0_3.length c0_3, .int .i64 a0_4]) (t := 40) ?hr ?_; (case hd => rfl); (case hg => rfl); (case hr => (go_simp; done)); intro gb1170 hg w33 hbox hb; have n0_ := Aside0.mk (below_step HB.out hb); have n1_ := Aside0.mk (hbox); have n2_ := Aside0.mk ((by rw [hg]; exact (below_size HB.out) : w.heap.size ≤ gb1170)); have n3_ := Aside0.mk ((by rw [hg]; exact (below_size HB.out) : w.heap.size ≤ gb1170)); clear HB; have HB := n0_; have BK1170 := n1_; have GW1170 := n2_; have GE1170 := n3_; clear n0_ n1_ n2_ n3_; clear hb hbox hg; have hcz34_0 : w33.cell? ⟨gb1170, 0, none⟩ = some (.int .i64 a0_0) := (blk_cell BK1170.out 0).trans rfl; have hcz34_1 : w33.cell? ⟨gb1170, 1, none⟩ = some (.slice A0_1 l0_1.length c0_1) := (blk_cell BK1170.out 1).trans rfl; have hcz34_2 : w33.cell? ⟨gb1170, 2, none⟩ = some (.slice A0_2 l0_2.length c0_2) := (blk_cell BK1170.out 2).trans rfl; have hcz34_3 : w33.cell? ⟨gb1170, 3, none⟩ = some (.slice A0_3 l0_3.length c0_3) := (blk_cell BK1170.out 3).trans rfl; have hcz34_4 : w33.cell? ⟨gb1170, 4, none⟩ = some (.int .i64 a0_4) := (blk_cell BK1170.out 4).trans rfl; have hfz34_0 := blk_frozen BK1170.out 0; have hfz34_1 := blk_frozen BK1170.out 1; have hfz34_2 := blk_frozen BK1170.out 2; have hfz34_3 := blk_frozen BK1170.out 3; have hfz34_4 := blk_frozen BK1170.out 4) | ((with_reducible refine gate_callee (f := 65) rfl ?_); refine goesL_ (some 6) rfl rfl Try.func65 (by kernel_rfl) rfl #[.agg #[.int .i64 a0_0, .slice A0_1 l0_1.length c0_1, .slice A0_2 l0_2.length c0_2, .slice A0_3 l0_3.length c0_3, .int .i64 a0_4]] rfl (by (try simp only [List.map_toArray, List.map_cons, List.map_nil]); rfl) ?_; (with_reducible refine (spec_IsValidTask.calls k a0_0 _ _ l0_1 _ _ l0_2 _ _ l0_3 a0_4 false _ ?side1 ?side2 ?side3 ?side4 ?side5 ?side6 A2.out).mono ?_); (case side1 => repeat (exact (Kd.C_below HR0_1.out HB.out))); (case side2 => exact HC0_1.out); (case side3 => repeat (exact (Kd.C_below HR0_2.out HB.out))); (case side4 => exact HC0_2.out); (case side5 => repeat (exact (Kd.C_below HR0_3.out HB.out))); (case side6 => exact HC0_3.out); rintro e w35 ⟨rfl, hb⟩; refine ⟨_, rfl, ?_⟩; have n0_ := Aside0.mk (blk_below (g := gb1170) (o := .cells #[.int .i64 a0_0, .slice A0_1 l0_1.length c0_1, .slice A0_2 l0_2.length c0_2, .slice A0_3 l0_3.length c0_3, .int .i64 a0_4] 40 (0, 0)) BK1170.out hb); have n1_ := Aside0.mk (below_step HB.out hb); clear BK1170; clear HB; have BK1170 := n0_; have HB := n1_; clear n0_ n1_; (try clear hb)))
  go_ret
  exact ⟨rfl, HB.out⟩

def spec_ParseTask.l0 : Nat → ByteArray → List ByteArray → Int → Int → List (S60) → List (S60) → List Bool → Int → Option (Int × (List (S60)) × (List (S60)) × List Bool × Int × Bool)
 | 0, _, _, _, _, _, _, _, _ => none
 | k + 1, x0, x4, x6, x1182000, x1182001, x1182002, x1182003, x1182004 => if 3 < (x4.length : Int) then (if x6 < ((rdOf ByteArray.empty x4 3).size : Int) then (if 0 ≤ x6 then (if x1182003.length < 140737488355328 then (spec_ParseTask.l0 k x0 x4 (wrap64 (x6 + 1)) x1182000 x1182001 x1182002 (x1182003 ++ [((bt (rdOf ByteArray.empty x4 3) x6) == 49)]) x1182004) else (none)) else (none)) else (if 4 < (x4.length : Int) then ((spec_ParseInt.f k (rdOf ByteArray.empty x4 4)).bind fun bt1201 => ((spec_FormatTask.f k x1182000 x1182001 x1182002 x1182003 bt1201.1).bind fun t1203 => (if t1203.toList = x0.toList then (some (x1182000, x1182001, x1182002, x1182003, bt1201.1, true)) else (some (0, ([] : List (S60)), ([] : List (S60)), ([] : List Bool), 0, false))))) else (none))) else (none)
def spec_ParseTask.f (k : Nat) (a0 : ByteArray) : Option (Int × (List (S60)) × (List (S60)) × List Bool × Int × Bool) := (spec_l2Cut.f k a0 59).bind fun t1178 => (if (t1178.length : Int) = 5 then (if 0 < (t1178.length : Int) then ((spec_ParseInt.f k (rdOf ByteArray.empty t1178 0)).bind fun bt1183 => (if 1 < (t1178.length : Int) then ((spec_ParseRows.f k (rdOf ByteArray.empty t1178 1)).bind fun bt1186 => (if 2 < (t1178.length : Int) then ((spec_ParseRows.f k (rdOf ByteArray.empty t1178 2)).bind fun bt1191 => (spec_ParseTask.l0 k a0 t1178 0 bt1183.1 bt1186.1 bt1191.1 ([] : List Bool) 0)) else (none))) else (none))) else (none)) else (some (0, ([] : List (S60)), ([] : List (S60)), ([] : List Bool), 0, false)))
def spec_ParseTask.T11 : Bool × List (List Nat × List Nat) := (true, [([], []), ([0], [0]), ([], []), ([2], [2]), ([3], [3]), ([], []), ([4, 5], [4, 5]), ([6], [6]), ([7], [7]), ([1, 8], [1, 8]), ([0, 1, 2, 3, 4, 5, 6, 7, 8, 9], []), ([10, 9, 9, 0, 1, 2, 3, 4, 5, 6, 7, 8, 9], [9, 10])])
def spec_ParseTask.B11 : List Nat := [0, 1, 0, 4, 12, 0, 60, 124, 252, 511, 1023, 2047]
theorem spec_ParseTask.tab11 : rtab .any (opsOf Try.f40 11) = spec_ParseTask.T11 := by kernel_rfl
theorem spec_ParseTask.bits11 : waitsOk spec_ParseTask.T11.2 spec_ParseTask.B11 = true := by kernel_rfl
theorem spec_ParseTask.calls (k : Nat) (a0 : ByteArray) (r1 : Int) (r2 : List (S60)) (r3 : List (S60)) (r4 : List Bool) (r5 : Int) (r6 : Bool) (w : World) (h : spec_ParseTask.f k a0 = some (r1, r2, r3, r4, r5, r6)) :
  Calls Try.prog 40 #[.string a0] w fun e w' => ∃ v1_ v2_ v3_ : Value, e = .returned (.tuple #[.agg #[.int .i64 r1, v1_, v2_, v3_, .int .i64 r5], .bool r6]) ∧ Kd.R k60 60 w' w.heap.size (fun k_ => some k_ ≠ (v2_ : Value).ownBlock) v1_ r2 ∧ Kd.R k60 60 w' w.heap.size (fun k_ => some k_ ≠ (v1_ : Value).ownBlock) v2_ r3 ∧ Kd.R Kd.bool 4 w' w.heap.size (fun _ => True) v3_ r4 ∧ Below w.heap.size w w' := by
 have hu40 := Try.underlying40
 have HB := Aside0.mk (Below.refl w.heap.size w)
 have H : ((spec_l2Cut.f k a0 59).bind fun t1178 => (if (t1178.length : Int) = 5 then (if 0 < (t1178.length : Int) then ((spec_ParseInt.f k (rdOf ByteArray.empty t1178 0)).bind fun bt1183 => (if 1 < (t1178.length : Int) then ((spec_ParseRows.f k (rdOf ByteArray.empty t1178 1)).bind fun bt1186 => (if 2 < (t1178.length : Int) then ((spec_ParseRows.f k (rdOf ByteArray.empty t1178 2)).bind fun bt1191 => (spec_ParseTask.l0 k a0 t1178 0 bt1183.1 bt1186.1 bt1191.1 ([] : List Bool) 0)) else (none))) else (none))) else (none)) else (some (0, ([] : List (S60)), ([] : List (S60)), ([] : List Bool), 0, false)))) = some (r1, r2, r3, r4, r5, r6) := h
 clear h
 replace H := Option.bind_eq_some_iff.mp H
 obtain ⟨t1178, A20, H⟩ := H
 have A2 := Aside0.mk A20
 clear A20
 by_cases c3 : (t1178.length : Int) = 5
 ·rw [if_pos c3] at H
  have c3b0 : ((t1178.length : Int) == 5) = true := beq_iff_eq.mpr c3
  have c3b1 : ((t1178.length : Int) != 5) = false := bne_eq_false_iff_eq.mpr c3
  clear c3
  by_cases c4 : 0 < (t1178.length : Int)
  ·rw [if_pos c4] at H
   have c4b0 : decide (0 < (t1178.length : Int)) = true := decide_eq_true c4
   have c4b1 : decide (0 < t1178.length) = true := decide_eq_true (by omega)
   clear c4
   replace H := Option.bind_eq_some_iff.mp H
   obtain ⟨⟨t1183, t1184⟩, A50, H⟩ := H
   have A5 := Aside0.mk A50
   clear A50
   by_cases c6 : 1 < (t1178.length : Int)
   ·rw [if_pos c6] at H
    have c6b0 : decide (1 < (t1178.length : Int)) = true := decide_eq_true c6
    have c6b1 : decide (1 < t1178.length) = true := decide_eq_true (by omega)
    clear c6
    replace H := Option.bind_eq_some_iff.mp H
    obtain ⟨⟨t1186, t1187⟩, A70, H⟩ := H
    have A7 := Aside0.mk A70
    clear A70
    by_cases c8 : 2 < (t1178.length : Int)
    ·rw [if_pos c8] at H
     have c8b0 : decide (2 < (t1178.length : Int)) = true := decide_eq_true c8
     have c8b1 : decide (2 < t1178.length) = true := decide_eq_true (by omega)
     clear c8
     replace H := Option.bind_eq_some_iff.mp H
     obtain ⟨⟨t1191, t1192⟩, A90, H⟩ := H
     have A9 := Aside0.mk A90
     clear A90
     have H' := Aside0.mk H
     clear H
     go_enter Try.func40, Try.ntmps40
     go_wp2_with (first | ((with_reducible refine gate_dst (N := 2) rfl ?_); refine box_event ?hg (N := 2) ?hd (cs := #[.int .i64 0, .slice none 0 0, .slice none 0 0, .slice none 0 0, .int .i64 0]) (t := 40) ?hr ?_; (case hd => rfl); (case hg => rfl); (case hr => (go_simp; done)); intro gb1177 hg w10 hbox hb; have n0_ := Aside0.mk (below_step HB.out hb); have n1_ := Aside0.mk (hbox); have n2_ := Aside0.mk ((by rw [hg]; exact (below_size HB.out) : w.heap.size ≤ gb1177)); have n3_ := Aside0.mk ((by rw [hg]; exact (below_size HB.out) : w.heap.size ≤ gb1177)); clear HB; have HB := n0_; have BK1177 := n1_; have GW1177 := n2_; have GE1177 := n3_; clear n0_ n1_ n2_ n3_; clear hb hbox hg) | ((with_reducible refine gate_callee (f := 135) rfl ?_); refine goesL_ (some 8) rfl rfl Try.func135 (by kernel_rfl) rfl #[.string a0, .int .u8 59] rfl (by (try simp only [List.map_toArray, List.map_cons, List.map_nil]); rfl) ?_; (with_reducible refine (spec_l2Cut.calls k a0 59 t1178 _ A2.out).mono ?_); rintro e w11 ⟨v1179, rfl, ho0, hb⟩; refine ⟨_, rfl, ?_⟩; have n0_ := Aside0.mk (Kd.R_lower ho0 (below_size HB.out)); have n1_ := Aside0.mk (blk_below (g := gb1177) (o := .cells #[.int .i64 0, .slice none 0 0, .slice none 0 0, .slice none 0 0, .int .i64 0] 40 (0, 0)) BK1177.out hb); have n2_ := Aside0.mk (below_step HB.out hb); clear BK1177; clear HB; have HO1180 := n0_; have BK1177 := n1_; have HB := n2_; clear n0_ n1_ n2_; (try clear hb); (try clear ho0); obtain ⟨Ao12, co12, eo12⟩ := Kd.R_slice HO1180.out; subst eo12) | ((with_reducible refine gate_dst (N := 5) rfl ?_); refine box_event ?hg (N := 5) ?hd (cs := #[.int .i64 0, .slice none 0 0, .slice none 0 0, .slice none 0 0, .int .i64 0]) (t := 40) ?hr ?_; (case hd => rfl); (case hg => rfl); (case hr => (go_simp; done)); intro gb1181 hg w13 hbox hb; have n0_ := Aside0.mk (Kd.R_below HO1180.out hb); have n1_ := Aside0.mk (blk_below (g := gb1177) (o := .cells #[.int .i64 0, .slice none 0 0, .slice none 0 0, .slice none 0 0, .int .i64 0] 40 (0, 0)) BK1177.out hb); have n2_ := Aside0.mk (below_step HB.out hb); have n3_ := Aside0.mk (hbox); have n4_ := Aside0.mk ((by rw [hg]; exact (below_size HB.out) : w.heap.size ≤ gb1181)); have n5_ := Aside0.mk ((by rw [hg]; exact (below_size HB.out) : w.heap.size ≤ gb1181)); have n6_ := Aside0.mk ((by rw [hg]; exact Nat.ne_of_lt (blk_lt (g := gb1177) (o := .cells #[.int .i64 0, .slice none 0 0, .slice none 0 0, .slice none 0 0, .int .i64 0] 40 (0, 0)) BK1177.out) : gb1177 ≠ gb1181)); have n7_ := Aside0.mk ((by rw [hg]; exact Nat.ne_of_gt (blk_lt (g := gb1177) (o := .cells #[.int .i64 0, .slice none 0 0, .slice none 0 0, .slice none 0 0, .int .i64 0] 40 (0, 0)) BK1177.out) : gb1181 ≠ gb1177)); clear HO1180; clear BK1177; clear HB; have HO1180 := n0_; have BK1177 := n1_; have HB := n2_; have BK1181 := n3_; have GW1181 := n4_; have GE1181 := n5_; have NB1177_1181 := n6_; have NB1181_1177 := n7_; clear n0_ n1_ n2_ n3_ n4_ n5_ n6_ n7_; clear hb hbox hg; have hnb14 := NB1181_1177.out; have hnc14 := NB1177_1181.out; have hcz15_0 : w13.cell? ⟨gb1181, 0, none⟩ = some (.int .i64 0) := (blk_cell BK1181.out 0).trans rfl; have hcz15_1 : w13.cell? ⟨gb1181, 1, none⟩ = some (.slice none 0 0) := (blk_cell BK1181.out 1).trans rfl; have hcz15_2 : w13.cell? ⟨gb1181, 2, none⟩ = some (.slice none 0 0) := (blk_cell BK1181.out 2).trans rfl; have hcz15_3 : w13.cell? ⟨gb1181, 3, none⟩ = some (.slice none 0 0) := (blk_cell BK1181.out 3).trans rfl; have hcz15_4 : w13.cell? ⟨gb1181, 4, none⟩ = some (.int .i64 0) := (blk_cell BK1181.out 4).trans rfl; have hfz15_0 := blk_frozen BK1181.out 0; have hfz15_1 := blk_frozen BK1181.out 1; have hfz15_2 := blk_frozen BK1181.out 2; have hfz15_3 := blk_frozen BK1181.out 3; have hfz15_4 := blk_frozen BK1181.out 4; have p1182 : 0 ≤ (0 : Int) := (by omega); have q1182 : 0 < (t1178.length : Int) := of_decide_eq_true (by (with_reducible assumption)); obtain ⟨ad1182, e1182, hx1182_0⟩ := Kd.at_string (Kd.R_reads' HO1180.out).2.2 0 p1182 q1182; cases e1182; have qi1182 : (0 < t1178.length) = True := eq_true (by omega); (try rw [show ((0 : Int)).toNat = 0 from rfl] at hx1182_0); (try rw [Addr.add_zero'] at hx1182_0); have hn1182_0 : ad1182.block ≠ gb1181 := Kd.own_blk (Kd.R_ne HO1180.out BK1181.out (by decide)); have hn1182_1 : ad1182.block ≠ gb1181 := Kd.own_blk (Kd.R_ne HO1180.out BK1181.out (by decide)); have hn1182_2 : ad1182.block ≠ gb1181 := Kd.own_blk (Kd.R_ne HO1180.out BK1181.out (by decide)); have hn1182_3 : ad1182.block ≠ gb1181 := Kd.own_blk (Kd.R_ne HO1180.out BK1181.out (by decide)); have hn1182_4 : ad1182.block ≠ gb1181 := Kd.own_blk (Kd.R_ne HO1180.out BK1181.out (by decide)); replace hx1182_0 := (cell_far (p := ⟨gb1181, 0, none⟩) (by exact hn1182_0) (.int .i64 0)).trans hx1182_0; replace hx1182_0 := (cell_far (p := ⟨gb1181, 1, none⟩) (by exact hn1182_1) (.slice none 0 0)).trans hx1182_0; replace hx1182_0 := (cell_far (p := ⟨gb1181, 2, none⟩) (by exact hn1182_2) (.slice none 0 0)).trans hx1182_0; replace hx1182_0 := (cell_far (p := ⟨gb1181, 3, none⟩) (by exact hn1182_3) (.slice none 0 0)).trans hx1182_0; replace hx1182_0 := (cell_far (p := ⟨gb1181, 4, none⟩) (by exact hn1182_4) (.int .i64 0)).trans hx1182_0; clear hn1182_0; clear hn1182_1; clear hn1182_2; clear hn1182_3; clear hn1182_4; replace p1182 := eq_true p1182; replace q1182 := eq_true q1182) | ((with_reducible refine gate_callee (f := 136) rfl ?_); refine goesL_ (some 18) rfl rfl Try.func136 (by kernel_rfl) rfl #[.string (rdOf ByteArray.empty t1178 0)] rfl (by (try simp only [List.map_toArray, List.map_cons, List.map_nil]); rfl) ?_; (with_reducible refine (spec_ParseInt.calls k (rdOf ByteArray.empty t1178 0) t1183 t1184 _ A5.out).mono ?_); rintro e w16 ⟨rfl, hb⟩; refine ⟨_, rfl, ?_⟩; have n0_ := Aside0.mk (Kd.R_below (by exact (Kd.R_mono (Kd.R_far (p := ⟨gb1181, 4, none⟩) (Kd.R_far (p := ⟨gb1181, 3, none⟩) (Kd.R_far (p := ⟨gb1181, 2, none⟩) (Kd.R_far (p := ⟨gb1181, 1, none⟩) (Kd.R_far (p := ⟨gb1181, 0, none⟩) (Kd.R_types HO1180.out BK1181.out (by decide)) (fun _ hk => hk.2) (.int .i64 0)) (fun _ hk => hk.2) (.slice none 0 0)) (fun _ hk => hk.2) (.slice none 0 0)) (fun _ hk => hk.2) (.slice none 0 0)) (fun _ hk => hk.2) (.int .i64 0)) (fun _ h_ => h_.1))) hb); have n1_ := Aside0.mk (blk_below (g := gb1177) (o := .cells #[.int .i64 0, .slice none 0 0, .slice none 0 0, .slice none 0 0, .int .i64 0] 40 (0, 0)) (by refine blk_far ?_ NB1177_1181.out _; refine blk_far ?_ NB1177_1181.out _; refine blk_far ?_ NB1177_1181.out _; refine blk_far ?_ NB1177_1181.out _; refine blk_far ?_ NB1177_1181.out _; exact BK1177.out) hb); have n2_ := Aside0.mk (blk_below (g := gb1181) (o := .cells #[.int .i64 0, .slice none 0 0, .slice none 0 0, .slice none 0 0, .int .i64 0] 40 (0, 0)) (by refine blk_put (cs := #[.int .i64 0, .slice none 0 0, .slice none 0 0, .slice none 0 0, .int .i64 0]) ?_ 4 _ rfl; refine blk_put (cs := #[.int .i64 0, .slice none 0 0, .slice none 0 0, .slice none 0 0, .int .i64 0]) ?_ 3 _ rfl; refine blk_put (cs := #[.int .i64 0, .slice none 0 0, .slice none 0 0, .slice none 0 0, .int .i64 0]) ?_ 2 _ rfl; refine blk_put (cs := #[.int .i64 0, .slice none 0 0, .slice none 0 0, .slice none 0 0, .int .i64 0]) ?_ 1 _ rfl; refine blk_put (cs := #[.int .i64 0, .slice none 0 0, .slice none 0 0, .slice none 0 0, .int .i64 0]) ?_ 0 _ rfl; exact BK1181.out) hb); have n3_ := Aside0.mk (below_step (by repeat (with_reducible first | exact HB.out | refine below_set ?_ GE1181.out)) hb); clear HO1180; clear BK1177; clear BK1181; clear HB; have HO1180 := n0_; have BK1177 := n1_; have BK1181 := n2_; have HB := n3_; clear n0_ n1_ n2_ n3_; (try clear hb); have hcz17_0 : w16.cell? ⟨gb1181, 0, none⟩ = some (.int .i64 0) := (blk_cell BK1181.out 0).trans rfl; have hcz17_1 : w16.cell? ⟨gb1181, 1, none⟩ = some (.slice none 0 0) := (blk_cell BK1181.out 1).trans rfl; have hcz17_2 : w16.cell? ⟨gb1181, 2, none⟩ = some (.slice none 0 0) := (blk_cell BK1181.out 2).trans rfl; have hcz17_3 : w16.cell? ⟨gb1181, 3, none⟩ = some (.slice none 0 0) := (blk_cell BK1181.out 3).trans rfl; have hcz17_4 : w16.cell? ⟨gb1181, 4, none⟩ = some (.int .i64 0) := (blk_cell BK1181.out 4).trans rfl; have hfz17_0 := blk_frozen BK1181.out 0; have hfz17_1 := blk_frozen BK1181.out 1; have hfz17_2 := blk_frozen BK1181.out 2; have hfz17_3 := blk_frozen BK1181.out 3; have hfz17_4 := blk_frozen BK1181.out 4; have p1185 : 0 ≤ (1 : Int) := (by omega); have q1185 : 1 < (t1178.length : Int) := of_decide_eq_true (by (with_reducible assumption)); obtain ⟨ad1185, e1185, hx1185_0⟩ := Kd.at_string (Kd.R_reads' HO1180.out).2.2 1 p1185 q1185; obtain rfl : ad1182 = ad1185 := (by injection e1185); (try simp only [show (1 : Int).toNat = 1 from rfl, Nat.reduceMul, Nat.reduceEqDiff, Go.Addr.add, ↓reduceIte] at hx1185_0); have qi1185 : (1 < t1178.length) = True := eq_true (by omega); (try rw [show ((1 : Int)).toNat = 1 from rfl] at hx1185_0); have hn1185_0 : ad1182.block ≠ gb1181 := Kd.own_blk (Kd.R_ne HO1180.out BK1181.out (by decide)); replace hx1185_0 := (cell_far (p := ⟨gb1181, 0, none⟩) (by exact hn1185_0) (.int .i64 t1183)).trans hx1185_0; clear hn1185_0; replace p1185 := eq_true p1185; replace q1185 := eq_true q1185) | ((with_reducible refine gate_callee (f := 137) rfl ?_); refine goesL_ (some 26) rfl rfl Try.func137 (by kernel_rfl) rfl #[.string (rdOf ByteArray.empty t1178 1)] rfl (by (try simp only [List.map_toArray, List.map_cons, List.map_nil]); rfl) ?_; (with_reducible refine (spec_ParseRows.calls k (rdOf ByteArray.empty t1178 1) t1186 t1187 _ A7.out).mono ?_); rintro e w18 ⟨v1188, rfl, ho0, hb⟩; refine ⟨_, rfl, ?_⟩; have n0_ := Aside0.mk (Kd.R_below (by exact (Kd.R_mono (Kd.R_far (p := ⟨gb1181, 0, none⟩) (Kd.R_types HO1180.out BK1181.out (by decide)) (fun _ hk => hk.2) (.int .i64 t1183)) (fun _ h_ => h_.1))) hb); have n1_ := Aside0.mk (Kd.R_lower ho0 (below_size (by repeat (with_reducible first | exact HB.out | refine below_set ?_ GE1181.out)))); have n2_ := Aside0.mk (blk_below (g := gb1177) (o := .cells #[.int .i64 0, .slice none 0 0, .slice none 0 0, .slice none 0 0, .int .i64 0] 40 (0, 0)) (by refine blk_far ?_ NB1177_1181.out _; exact BK1177.out) hb); have n3_ := Aside0.mk (blk_below (g := gb1181) (o := .cells #[.int .i64 t1183, .slice none 0 0, .slice none 0 0, .slice none 0 0, .int .i64 0] 40 (0, 0)) (by refine blk_put (cs := #[.int .i64 0, .slice none 0 0, .slice none 0 0, .slice none 0 0, .int .i64 0]) ?_ 0 _ rfl; exact BK1181.out) hb); have n4_ := Aside0.mk (below_step (by repeat (with_reducible first | exact HB.out | refine below_set ?_ GE1181.out)) hb); clear HO1180; clear BK1177; clear BK1181; clear HB; have HO1180 := n0_; have HO1189 := n1_; have BK1177 := n2_; have BK1181 := n3_; have HB := n4_; clear n0_ n1_ n2_ n3_ n4_; (try clear hb); (try clear ho0); obtain ⟨Ao19, co19, eo19⟩ := Kd.R_slice HO1189.out; subst eo19; have hcz20_0 : w18.cell? ⟨gb1181, 0, none⟩ = some (.int .i64 t1183) := (blk_cell BK1181.out 0).trans rfl; have hcz20_1 : w18.cell? ⟨gb1181, 1, none⟩ = some (.slice none 0 0) := (blk_cell BK1181.out 1).trans rfl; have hcz20_2 : w18.cell? ⟨gb1181, 2, none⟩ = some (.slice none 0 0) := (blk_cell BK1181.out 2).trans rfl; have hcz20_3 : w18.cell? ⟨gb1181, 3, none⟩ = some (.slice none 0 0) := (blk_cell BK1181.out 3).trans rfl; have hcz20_4 : w18.cell? ⟨gb1181, 4, none⟩ = some (.int .i64 0) := (blk_cell BK1181.out 4).trans rfl; have hfz20_0 := blk_frozen BK1181.out 0; have hfz20_1 := blk_frozen BK1181.out 1; have hfz20_2 := blk_frozen BK1181.out 2; have hfz20_3 := blk_frozen BK1181.out 3; have hfz20_4 := blk_frozen BK1181.out 4; have p1190 : 0 ≤ (2 : Int) := (by omega); have q1190 : 2 < (t1178.length : Int) := of_decide_eq_true (by (with_reducible assumption)); obtain ⟨ad1190, e1190, hx1190_0⟩ := Kd.at_string (Kd.R_reads' HO1180.out).2.2 2 p1190 q1190; obtain rfl : ad1182 = ad1190 := (by injection e1190); (try simp only [show (2 : Int).toNat = 2 from rfl, Nat.reduceMul, Nat.reduceEqDiff, Go.Addr.add, ↓reduceIte] at hx1190_0); have qi1190 : (2 < t1178.length) = True := eq_true (by omega); (try rw [show ((2 : Int)).toNat = 2 from rfl] at hx1190_0); have hn1190_0 : ad1182.block ≠ gb1181 := Kd.own_blk (Kd.R_ne HO1180.out BK1181.out (by decide)); replace hx1190_0 := (cell_far (p := ⟨gb1181, 1, none⟩) (by exact hn1190_0) (.slice Ao19 t1186.length co19)).trans hx1190_0; clear hn1190_0; replace p1190 := eq_true p1190; replace q1190 := eq_true q1190) | ((with_reducible refine gate_callee (f := 137) rfl ?_); refine goesL_ (some 34) rfl rfl Try.func137 (by kernel_rfl) rfl #[.string (rdOf ByteArray.empty t1178 2)] rfl (by (try simp only [List.map_toArray, List.map_cons, List.map_nil]); rfl) ?_; (with_reducible refine (spec_ParseRows.calls k (rdOf ByteArray.empty t1178 2) t1191 t1192 _ A9.out).mono ?_); rintro e w21 ⟨v1193, rfl, ho0, hb⟩; refine ⟨_, rfl, ?_⟩; have n0_ := Aside0.mk (Kd.R_below (by exact (Kd.R_mono (Kd.R_far (p := ⟨gb1181, 1, none⟩) (Kd.R_types HO1180.out BK1181.out (by decide)) (fun _ hk => hk.2) (.slice Ao19 t1186.length co19)) (fun _ h_ => h_.1))) hb); have n1_ := Aside0.mk (Kd.R_elder' (by exact (Kd.R_mono (Kd.R_far (p := ⟨gb1181, 1, none⟩) (Kd.R_types HO1189.out BK1181.out (by decide)) (fun _ hk => hk.2) (.slice Ao19 t1186.length co19)) (fun _ h_ => h_.1))) (Kd.R_base ho0) hb); have n2_ := Aside0.mk (Kd.R_lower (Kd.R_new' ho0 (Kd.R_lt (by exact (Kd.R_mono (Kd.R_far (p := ⟨gb1181, 1, none⟩) (Kd.R_types HO1189.out BK1181.out (by decide)) (fun _ hk => hk.2) (.slice Ao19 t1186.length co19)) (fun _ h_ => h_.1))))) (below_size (by repeat (with_reducible first | exact HB.out | refine below_set ?_ GE1181.out)))); have n3_ := Aside0.mk (blk_below (g := gb1177) (o := .cells #[.int .i64 0, .slice none 0 0, .slice none 0 0, .slice none 0 0, .int .i64 0] 40 (0, 0)) (by refine blk_far ?_ NB1177_1181.out _; exact BK1177.out) hb); have n4_ := Aside0.mk (blk_below (g := gb1181) (o := .cells #[.int .i64 t1183, .slice Ao19 t1186.length co19, .slice none 0 0, .slice none 0 0, .int .i64 0] 40 (0, 0)) (by refine blk_put (cs := #[.int .i64 t1183, .slice none 0 0, .slice none 0 0, .slice none 0 0, .int .i64 0]) ?_ 1 _ rfl; exact BK1181.out) hb); have n5_ := Aside0.mk (below_step (by repeat (with_reducible first | exact HB.out | refine below_set ?_ GE1181.out)) hb); clear HO1180; clear HO1189; clear BK1177; clear BK1181; clear HB; have HO1180 := n0_; have HO1189 := n1_; have HO1194 := n2_; have BK1177 := n3_; have BK1181 := n4_; have HB := n5_; clear n0_ n1_ n2_ n3_ n4_ n5_; (try clear hb); (try clear ho0); obtain ⟨Ao22, co22, eo22⟩ := Kd.R_slice HO1194.out; subst eo22; have hcz23_0 : w21.cell? ⟨gb1181, 0, none⟩ = some (.int .i64 t1183) := (blk_cell BK1181.out 0).trans rfl; have hcz23_1 : w21.cell? ⟨gb1181, 1, none⟩ = some (.slice Ao19 t1186.length co19) := (blk_cell BK1181.out 1).trans rfl; have hcz23_2 : w21.cell? ⟨gb1181, 2, none⟩ = some (.slice none 0 0) := (blk_cell BK1181.out 2).trans rfl; have hcz23_3 : w21.cell? ⟨gb1181, 3, none⟩ = some (.slice none 0 0) := (blk_cell BK1181.out 3).trans rfl; have hcz23_4 : w21.cell? ⟨gb1181, 4, none⟩ = some (.int .i64 0) := (blk_cell BK1181.out 4).trans rfl; have hfz23_0 := blk_frozen BK1181.out 0; have hfz23_1 := blk_frozen BK1181.out 1; have hfz23_2 := blk_frozen BK1181.out 2; have hfz23_3 := blk_frozen BK1181.out 3; have hfz23_4 := blk_frozen BK1181.out 4))
     go_loopg [6] k (fun kq v6 w' => ∃ (x6_1 : Int) (x1182003_1 : List Bool) (u1182003 : Value), v6 = .int .i64 x6_1 ∧ Aside0 (spec_ParseTask.l0 kq a0 t1178 x6_1 t1183 t1186 t1191 x1182003_1 0 = some (r1, r2, r3, r4, r5, r6)) ∧ Aside0 (kq ≤ k) ∧ Aside0 (Kd.R Kd.string 9 w' w.heap.size (fun _ => True) (.slice (some ad1182) t1178.length co12) t1178) ∧ Aside0 (Kd.R k60 60 w' w.heap.size (fun k_ => some k_ ≠ ((.slice Ao22 t1191.length co22) : Value).ownBlock) (.slice Ao19 t1186.length co19) t1186) ∧ Aside0 (Kd.R k60 60 w' w.heap.size (fun k_ => some k_ ≠ ((.slice Ao19 t1186.length co19) : Value).ownBlock) (.slice Ao22 t1191.length co22) t1191) ∧ Aside0 (Kd.R Kd.bool 4 w' w.heap.size (fun _ => True) u1182003 x1182003_1) ∧ Aside0 (w'.heap[gb1177]? = some (.cells #[.int .i64 0, (.slice none 0 0), (.slice none 0 0), (.slice none 0 0), .int .i64 0] 40 (0, 0))) ∧ Aside0 (w'.heap[gb1181]? = some (.cells #[.int .i64 t1183, (.slice Ao19 t1186.length co19), (.slice Ao22 t1191.length co22), u1182003, .int .i64 0] 40 (0, 0))) ∧ Aside0 (Below w.heap.size w w'))
     case atStart => exact ⟨(0), (([] : List Bool)), (.slice none 0 0), rfl, H', ⟨Nat.le_refl _⟩, ⟨by exact Kd.R_mono (Kd.R_far (p := ⟨gb1181, 2, none⟩) (Kd.R_types HO1180.out BK1181.out (by decide)) (fun _ hk => hk.2) (.slice Ao22 t1191.length co22)) (fun _ hk => trivial)⟩, ⟨by exact Kd.R_mono (Kd.R_far (p := ⟨gb1181, 2, none⟩) (Kd.R_types HO1189.out BK1181.out (by decide)) (fun _ hk => hk.2) (.slice Ao22 t1191.length co22)) (fun _ hk => hk.1.2)⟩, ⟨by exact Kd.R_mono (Kd.R_far (p := ⟨gb1181, 2, none⟩) (Kd.R_types HO1194.out BK1181.out (by decide)) (fun _ hk => hk.2) (.slice Ao22 t1191.length co22)) (fun _ hk => hk.1.2)⟩, ⟨by exact Kd.R_nil _ _ _ _ _⟩, ⟨by refine blk_far ?_ NB1177_1181.out _; exact BK1177.out⟩, ⟨by refine blk_put (cs := #[.int .i64 t1183, .slice Ao19 t1186.length co19, .slice none 0 0, .slice none 0 0, .int .i64 0]) ?_ 2 _ rfl; exact BK1181.out⟩, ⟨by repeat ((with_reducible first | exact HB.out | refine below_set ?_ GE1181.out))⟩⟩
     case round =>
      clear H'
      try clear c3b0
      try clear c3b1
      try clear c4b0
      try clear c4b1
      try clear c6b0
      try clear c6b1
      try clear c8b0
      try clear c8b1
      try clear hcz15_0
      try clear hcz15_1
      try clear hcz15_2
      try clear hcz15_3
      try clear hcz15_4
      try clear hcz17_0
      try clear hcz17_1
      try clear hcz17_2
      try clear hcz17_3
      try clear hcz17_4
      try clear hcz20_0
      try clear hcz20_1
      try clear hcz20_2
      try clear hcz20_3
      try clear hcz20_4
      try clear hcz23_0
      try clear hcz23_1
      try clear hcz23_2
      try clear hcz23_3
      try clear hcz23_4
      try clear hfz15_0
      try clear hfz15_1
      try clear hfz15_2
      try clear hfz15_3
      try clear hfz15_4
      try clear hfz17_0
      try clear hfz17_1
      try clear hfz17_2
      try clear hfz17_3
      try clear hfz17_4
      try clear hfz20_0
      try clear hfz20_1
      try clear hfz20_2
      try clear hfz20_3
      try clear hfz20_4
      try clear hfz23_0
      try clear hfz23_1
      try clear hfz23_2
      try clear hfz23_3
      try clear hfz23_4
      try clear hx1182_0
      try clear hx1185_0
      try clear hx1190_0
      try clear p1182
      try clear p1185
      try clear p1190
      try clear q1182
      try clear q1185
      try clear q1190
      obtain ⟨x6_1, x1182003_1, u1182003, rfl, HA, HK1, HO_4, HO_1182001, HO_1182002, HO_1182003, BK1177, BK1181, HB⟩ := hrel
      cases gk with
      | zero => exact absurd HA.out (by simp [spec_ParseTask.l0])
      | succ k1 =>
       have H := HA.out
       clear HA
       simp only [spec_ParseTask.l0] at H
       by_cases c24 : 3 < (t1178.length : Int)
       ·rw [if_pos c24] at H
        have c24b0 : decide (3 < (t1178.length : Int)) = true := decide_eq_true c24
        have c24b1 : decide (3 < t1178.length) = true := decide_eq_true (by omega)
        clear c24
        by_cases c25 : x6_1 < ((rdOf ByteArray.empty t1178 3).size : Int)
        ·rw [if_pos c25] at H
         have c25b0 : decide (x6_1 < ((rdOf ByteArray.empty t1178 3).size : Int)) = true := decide_eq_true c25
         clear c25
         by_cases c26 : 0 ≤ x6_1
         ·rw [if_pos c26] at H
          have c26b0 : decide (0 ≤ x6_1) = true := decide_eq_true c26
          clear c26
          by_cases c28 : x1182003_1.length < 140737488355328
          ·rw [if_pos c28] at H
           have LMc28 := Aside0.mk c28
           clear c28
           obtain ⟨y1197, hy1197⟩ : ∃ y_ : List Bool, y_ = (x1182003_1 ++ [((bt (rdOf ByteArray.empty t1178 3) x6_1) == 49)]) := ⟨_, rfl⟩
           replace H : (spec_ParseTask.l0 k1 a0 t1178 (wrap64 (x6_1 + 1)) t1183 t1186 t1191 y1197 0) = some (r1, r2, r3, r4, r5, r6) := by (rw [hy1197]; with_reducible exact H)
           have Ny1197 := Aside0.mk hy1197
           clear hy1197
           have H' := Aside0.mk H
           clear H
           have p1195 : 0 ≤ (3 : Int) := (by omega)
           have q1195 : 3 < (t1178.length : Int) := of_decide_eq_true (by (with_reducible assumption))
           obtain ⟨ad1195, e1195, hx1195_0⟩ := Kd.at_string (Kd.R_reads' HO_4.out).2.2 3 p1195 q1195
           obtain rfl : ad1182 = ad1195 := (by injection e1195)
           (try simp only [show (3 : Int).toNat = 3 from rfl, Nat.reduceMul, Nat.reduceEqDiff, Go.Addr.add, ↓reduceIte] at hx1195_0)
           have qi1195 : (3 < t1178.length) = True := eq_true (by omega)
           (try rw [show ((3 : Int)).toNat = 3 from rfl] at hx1195_0)
           replace p1195 := eq_true p1195
           replace q1195 := eq_true q1195
           try go_wp2
           have n0_ := Aside0.mk (Kd.R_drew HO_4.out)
           have n1_ := Aside0.mk (Kd.R_drew HO_1182001.out)
           have n2_ := Aside0.mk (Kd.R_drew HO_1182002.out)
           have n3_ := Aside0.mk (Kd.R_drew HO_1182003.out)
           have n4_ := Aside0.mk (blk_drew BK1177.out)
           have n5_ := Aside0.mk (blk_drew BK1181.out)
           have n6_ := Aside0.mk (below_drew1 HB.out)
           clear HO_4
           clear HO_1182001
           clear HO_1182002
           clear HO_1182003
           clear BK1177
           clear BK1181
           clear HB
           have HO_4 := n0_
           have HO_1182001 := n1_
           have HO_1182002 := n2_
           have HO_1182003 := n3_
           have BK1177 := n4_
           have BK1181 := n5_
           have HB := n6_
           clear n0_ n1_ n2_ n3_ n4_ n5_ n6_
           have p1196 : 0 ≤ (3 : Int) := (by omega)
           have q1196 : 3 < (t1178.length : Int) := of_decide_eq_true (by (with_reducible assumption))
           obtain ⟨ad1196, e1196, hx1196_0⟩ := Kd.at_string (Kd.R_reads' HO_4.out).2.2 3 p1196 q1196
           obtain rfl : ad1182 = ad1196 := (by injection e1196)
           (try simp only [show (3 : Int).toNat = 3 from rfl, Nat.reduceMul, Nat.reduceEqDiff, Go.Addr.add, ↓reduceIte] at hx1196_0)
           have qi1196 : (3 < t1178.length) = True := eq_true (by omega)
           (try rw [show ((3 : Int)).toNat = 3 from rfl] at hx1196_0)
           replace p1196 := eq_true p1196
           replace q1196 := eq_true q1196
           have p27 : 0 ≤ (x6_1 : Int) := of_decide_eq_true (by (with_reducible assumption))
           have q27 : x6_1 < ((rdOf ByteArray.empty t1178 3).size : Int) := of_decide_eq_true (by (with_reducible assumption))
           have hx27 := bt_at (rdOf ByteArray.empty t1178 3) x6_1
           replace p27 := eq_true p27
           replace q27 := eq_true q27
           refine start_ (n := 12) (S := fun w' => w'.cell? ⟨gb1181, 0, none⟩ = some (.int .i64 t1183) ∧ w'.cell? ⟨gb1181, 1, none⟩ = some (.slice Ao19 t1186.length co19) ∧ w'.cell? ⟨gb1181, 2, none⟩ = some (.slice Ao22 t1191.length co22) ∧ w'.cell? ⟨gb1181, 3, none⟩ = some (u1182003) ∧ w'.cell? ⟨gb1181, 4, none⟩ = some (.int .i64 0) ∧ w'.cell? ⟨ad1182.block, ad1182.off + 3, none⟩ = some (.string (rdOf ByteArray.empty t1178 3))) (ds := [9, 11]) #[false, false, false, false, false, false, false, false, false, false, false, false] (by kernel_rfl) rfl rfl ⟨(blk_cell BK1181.out 0).trans rfl, (blk_cell BK1181.out 1).trans rfl, (blk_cell BK1181.out 2).trans rfl, (blk_cell BK1181.out 3).trans rfl, (blk_cell BK1181.out 4).trans rfl, hx1196_0⟩ (fun hHeld => ?_); refine with_tabW spec_ParseTask.tab11 spec_ParseTask.bits11 (fun HT_ HW_ => ?_)
           generalize wr.drew = w29 at HO_4 HO_1182001 HO_1182002 HO_1182003 BK1177 BK1181 HB hx1196_0 hHeld ⊢
           refine pure_ (i := 0) (N := some 46) (v := ?_) (a' := ?_) #[true, false, false, false, false, false, false, false, false, false, false, false] rfl rfl (any_of HT_.out (by kernel_rfl)) (fun _ _ _ h => h) (Or.inl ⟨rfl, ?_⟩) ?_ ?_
           rotate_left
           ·intro w'
            go_simp
            with_reducible rfl
           rotate_left
           ·simp only [Act.put, List.setIfInBounds_toArray, List.set_cons_zero, List.set_cons_succ, i64_w, i32_w]
            rfl
           refine pure_ (i := 2) (N := some 48) (v := ?_) (a' := ?_) #[true, false, true, false, false, false, false, false, false, false, false, false] rfl rfl (any_of HT_.out (by kernel_rfl)) (fun _ _ _ h => h) (Or.inl ⟨rfl, ?_⟩) ?_ ?_
           rotate_left
           ·intro w'
            go_simp
            with_reducible rfl
           rotate_left
           ·simp only [Act.put, List.setIfInBounds_toArray, List.set_cons_zero, List.set_cons_succ, i64_w, i32_w]
            rfl
           refine pure_ (i := 3) (N := some 49) (v := ?_) (a' := ?_) #[true, false, true, true, false, false, false, false, false, false, false, false] rfl rfl (any_of HT_.out (by kernel_rfl)) (fun _ _ _ h => h) (Or.inl ⟨rfl, ?_⟩) ?_ ?_
           rotate_left
           ·intro w'
            go_simp
            with_reducible rfl
           rotate_left
           ·simp only [Act.put, List.setIfInBounds_toArray, List.set_cons_zero, List.set_cons_succ, i64_w, i32_w]
            rfl
           refine pure_ (i := 5) (N := some 51) (v := ?_) (a' := ?_) #[true, false, true, true, false, true, false, false, false, false, false, false] rfl rfl (any_of HT_.out (by kernel_rfl)) (fun _ _ _ h => h) (Or.inl ⟨rfl, ?_⟩) ?_ ?_
           rotate_left
           ·intro w'
            go_simp
            with_reducible rfl
           rotate_left
           ·simp only [Act.put, List.setIfInBounds_toArray, List.set_cons_zero, List.set_cons_succ, i64_w, i32_w]
            rfl
           refine take_ (i := 1) (N := some 47) (v := ?_) (a' := ?_) #[true, true, true, true, false, true, false, false, false, false, false, false] rfl rfl (take_ofW HT_.out HW_.out (by kernel_rfl)) (fun _ _ _ h => h) (Or.inl ⟨rfl, ?_⟩) hHeld ?_ ?_
           rotate_left
           ·rintro w' ⟨s0, s1, s2, s3, s4, s5⟩
            go_simp
            with_reducible rfl
           rotate_left
           ·simp only [Act.put, List.setIfInBounds_toArray, List.set_cons_zero, List.set_cons_succ, i64_w, i32_w]
            rfl
           refine take_ (i := 4) (N := some 50) (v := ?_) (a' := ?_) #[true, true, true, true, true, true, false, false, false, false, false, false] rfl rfl (take_ofW HT_.out HW_.out (by kernel_rfl)) (fun _ _ _ h => h) (Or.inl ⟨rfl, ?_⟩) hHeld ?_ ?_
           rotate_left
           ·rintro w' ⟨s0, s1, s2, s3, s4, s5⟩
            go_simp
            with_reducible rfl
           rotate_left
           ·simp only [Act.put, List.setIfInBounds_toArray, List.set_cons_zero, List.set_cons_succ, i64_w, i32_w]
            rfl
           refine take_ (i := 6) (N := some 52) (v := ?_) (a' := ?_) #[true, true, true, true, true, true, true, false, false, false, false, false] rfl rfl (take_ofW HT_.out HW_.out (by kernel_rfl)) (fun _ _ _ h => h) (Or.inl ⟨rfl, ?_⟩) hHeld ?_ ?_
           rotate_left
           ·rintro w' ⟨s0, s1, s2, s3, s4, s5⟩
            go_simp
            with_reducible rfl
           rotate_left
           ·simp only [Act.put, List.setIfInBounds_toArray, List.set_cons_zero, List.set_cons_succ, i64_w, i32_w]
            rfl
           refine pure_ (i := 7) (N := some 53) (v := ?_) (a' := ?_) #[true, true, true, true, true, true, true, true, false, false, false, false] rfl rfl (any_of HT_.out (by kernel_rfl)) (fun _ _ _ h => h) (Or.inl ⟨rfl, ?_⟩) ?_ ?_
           rotate_left
           ·intro w'
            go_simp
            with_reducible rfl
           rotate_left
           ·simp only [Act.put, List.setIfInBounds_toArray, List.set_cons_zero, List.set_cons_succ, i64_w, i32_w]
            rfl
           refine one_ (i := 8) (N := some 54) #[true, true, true, true, true, true, true, true, true, false, false, false] rfl rfl (one_of HT_.out (by kernel_rfl)) (by decide) (fun K hK => ?_)
           refine value_ (w1 := ?_) (v := ?_) rfl rfl ?_ ?_
           rotate_left 2
           ·go_simp
            constructor
            ·rfl
            ·rfl
           refine hK.out _ _ ⟨(blk_cell (blk_alloc BK1181.out _) 0).trans rfl, (blk_cell (blk_alloc BK1181.out _) 1).trans rfl, (blk_cell (blk_alloc BK1181.out _) 2).trans rfl, (blk_cell (blk_alloc BK1181.out _) 3).trans rfl, (blk_cell (blk_alloc BK1181.out _) 4).trans rfl, (World.cell?_alloc_lt _ _ _ (World.block_lt_of_cell? _ _ (hHeld.2.2.2.2.2))).trans (hHeld.2.2.2.2.2)⟩ (fun hHeld => ?_)
           clear hK K
           refine norm_ (a' := ?_) ?_ ?_
           rotate_left
           ·show Act.put _ (some 54) _ = _
            simp only [Act.put, List.setIfInBounds_toArray, List.set_cons_zero, List.set_cons_succ, i64_w, i32_w]
            rfl
           refine last_ (i := 9) (N := some 55) #[true, true, true, true, true, true, true, true, true, true, false, false] rfl rfl (one_of HT_.out (by kernel_rfl)) (by decide) (fun K hK => ?_)
           refine Kd.R_append_step Kd.bool (w0 := w) w.heap.size rfl (.tmp 47) (.tmp 54) 38 4 (.bool false) 1 rfl Try.underlying38 info4 rfl (by decide) (by omega) u1182003 x1182003_1 ((bt (rdOf ByteArray.empty t1178 3) x6_1) == 49) [.bool ((bt (rdOf ByteArray.empty t1178 3) x6_1) == 49)] (fun _ => True) (fun _ => False) rfl rfl ?aP (fun _ hk => hk.elim) ?aF ?aO ?aB ?aS ?aL ?_
           (case aP => exact rfl)
           (case aB => exact HB.out)
           (case aF => exact (fun _ _ => trivial))
           (case aO => exact HO_1182003.out)
           (case aS => exact (below_size HB.out))
           (case aL => have := LMc28.out; omega)
           intro v1198 w30 ho hb hg hat
           rw [← Ny1197.out] at ho
           have n0_ := Aside0.mk (Kd.R_over' HO_4.out (Kd.R_typed HO_1182003.out) (by decide) hg)
           have n1_ := Aside0.mk (Kd.R_over' HO_1182001.out (Kd.R_typed HO_1182003.out) (by decide) hg)
           have n2_ := Aside0.mk (Kd.R_over' HO_1182002.out (Kd.R_typed HO_1182003.out) (by decide) hg)
           have n3_ := Aside0.mk (blk_grown (g := gb1177) (o := .cells #[.int .i64 0, .slice none 0 0, .slice none 0 0, .slice none 0 0, .int .i64 0] 40 (0, 0)) BK1177.out hg (Kd.R_ne HO_1182003.out BK1177.out (by decide)))
           have n4_ := Aside0.mk (blk_grown (g := gb1181) (o := .cells #[.int .i64 t1183, .slice Ao19 t1186.length co19, .slice Ao22 t1191.length co22, u1182003, .int .i64 0] 40 (0, 0)) BK1181.out hg (Kd.R_ne HO_1182003.out BK1181.out (by decide)))
           have n5_ := Aside0.mk (hb)
           have n6_ := Aside0.mk (ho)
           clear HO_4
           clear HO_1182001
           clear HO_1182002
           clear BK1177
           clear BK1181
           clear HB
           clear HO_1182003
           have HO_4 := n0_
           have HO_1182001 := n1_
           have HO_1182002 := n2_
           have BK1177 := n3_
           have BK1181 := n4_
           have HB := n5_
           have HO1199 := n6_
           clear n0_ n1_ n2_ n3_ n4_ n5_ n6_
           clear ho hb hg hat
           obtain ⟨Ao31, co31, eo31⟩ := Kd.R_slice HO1199.out
           (subst eo31)
           refine hK.out _ _ ?_
           clear hK K
           refine norm_ (a' := ?_) ?_ ?_
           rotate_left
           ·show Act.put _ (some 55) _ = _
            simp only [Act.put, List.setIfInBounds_toArray, List.set_cons_zero, List.set_cons_succ, i64_w, i32_w]
            rfl
           refine pure_ (i := 10) (N := some 56) (v := ?_) (a' := ?_) #[true, true, true, true, true, true, true, true, true, true, true, false] rfl rfl (any_of HT_.out (by kernel_rfl)) (fun _ _ _ h => h) (Or.inl ⟨rfl, ?_⟩) ?_ ?_
           rotate_left
           ·intro w'
            go_simp
            with_reducible rfl
           rotate_left
           ·simp only [Act.put, List.setIfInBounds_toArray, List.set_cons_zero, List.set_cons_succ, i64_w, i32_w]
            rfl
           refine last_ (i := 11) (N := none) #[true, true, true, true, true, true, true, true, true, true, true, true] rfl rfl (one_of HT_.out (by kernel_rfl)) (by decide) (fun K hK => ?_)
           have hs32 : w30.cell? ⟨gb1181, 3, none⟩ = some (u1182003) := (blk_cell BK1181.out 3).trans rfl
           have hfs32 := blk_frozen BK1181.out 3
           have hns32_0 := NB1177_1181.out
           have hms32_0 := NB1181_1177.out
           refine skip_ (w1 := ?_) rfl rfl ?_ ?_
           rotate_left
           ·go_simp
            rfl
           refine hK.out _ _ ?_
           clear hK K
           refine done_ (done_of HT_.out (by kernel_rfl)) ?_
           try go_wp2
           go_roundg k1
           case measure => have := HK1.out; omega
           case rel => exact ⟨(wrap64 (x6_1 + 1)), (y1197), (.slice Ao31 y1197.length co31), rfl, H', ⟨by have := HK1.out; omega⟩, ⟨by exact Kd.R_mono (Kd.R_far (p := ⟨gb1181, 3, none⟩) (Kd.R_types HO_4.out BK1181.out (by decide)) (fun _ hk => hk.2) (.slice Ao31 y1197.length co31)) (fun _ hk => trivial)⟩, ⟨by exact Kd.R_mono (Kd.R_far (p := ⟨gb1181, 3, none⟩) (Kd.R_types HO_1182001.out BK1181.out (by decide)) (fun _ hk => hk.2) (.slice Ao31 y1197.length co31)) (fun _ hk => hk.1)⟩, ⟨by exact Kd.R_mono (Kd.R_far (p := ⟨gb1181, 3, none⟩) (Kd.R_types HO_1182002.out BK1181.out (by decide)) (fun _ hk => hk.2) (.slice Ao31 y1197.length co31)) (fun _ hk => hk.1)⟩, ⟨by exact Kd.R_mono (Kd.R_far (p := ⟨gb1181, 3, none⟩) (Kd.R_types HO1199.out BK1181.out (by decide)) (fun _ hk => hk.2) (.slice Ao31 y1197.length co31)) (fun _ hk => trivial)⟩, ⟨by refine blk_far ?_ NB1177_1181.out _; exact BK1177.out⟩, ⟨by refine blk_put (cs := #[.int .i64 t1183, .slice Ao19 t1186.length co19, .slice Ao22 t1191.length co22, u1182003, .int .i64 0]) ?_ 3 _ rfl; exact BK1181.out⟩, ⟨by repeat ((with_reducible first | exact HB.out | refine below_set ?_ GE1181.out))⟩⟩
          ·rw [if_neg c28] at H
           exact absurd H (by simp)
         ·rw [if_neg c26] at H
          exact absurd H (by simp)
        ·rw [if_neg c25] at H
         have c25b0 : decide (x6_1 < ((rdOf ByteArray.empty t1178 3).size : Int)) = false := decide_eq_false c25
         clear c25
         by_cases c33 : 4 < (t1178.length : Int)
         ·rw [if_pos c33] at H
          have c33b0 : decide (4 < (t1178.length : Int)) = true := decide_eq_true c33
          have c33b1 : decide (4 < t1178.length) = true := decide_eq_true (by omega)
          clear c33
          replace H := Option.bind_eq_some_iff.mp H
          obtain ⟨⟨t1201, t1202⟩, A340, H⟩ := H
          have A34 := Aside0.mk A340
          clear A340
          replace H := Option.bind_eq_some_iff.mp H
          obtain ⟨t1203, A350, H⟩ := H
          have A35 := Aside0.mk A350
          clear A350
          by_cases c36 : t1203.toList = a0.toList
          ·rw [if_pos c36] at H
           have c36b0 : (t1203.toList == a0.toList) = true := beq_iff_eq.mpr c36
           have c36b1 : (t1203.toList != a0.toList) = false := bne_eq_false_iff_eq.mpr c36
           clear c36
           simp only [Option.some.injEq, Prod.mk.injEq] at H
           obtain ⟨rfl, rfl, rfl, rfl, rfl, rfl⟩ := H
           have p1195 : 0 ≤ (3 : Int) := (by omega)
           have q1195 : 3 < (t1178.length : Int) := of_decide_eq_true (by (with_reducible assumption))
           obtain ⟨ad1195, e1195, hx1195_0⟩ := Kd.at_string (Kd.R_reads' HO_4.out).2.2 3 p1195 q1195
           obtain rfl : ad1182 = ad1195 := (by injection e1195)
           (try simp only [show (3 : Int).toNat = 3 from rfl, Nat.reduceMul, Nat.reduceEqDiff, Go.Addr.add, ↓reduceIte] at hx1195_0)
           have qi1195 : (3 < t1178.length) = True := eq_true (by omega)
           (try rw [show ((3 : Int)).toNat = 3 from rfl] at hx1195_0)
           replace p1195 := eq_true p1195
           replace q1195 := eq_true q1195
           have p1200 : 0 ≤ (4 : Int) := (by omega)
           have q1200 : 4 < (t1178.length : Int) := of_decide_eq_true (by (with_reducible assumption))
           obtain ⟨ad1200, e1200, hx1200_0⟩ := Kd.at_string (Kd.R_reads' HO_4.out).2.2 4 p1200 q1200
           obtain rfl : ad1182 = ad1200 := (by injection e1200)
           (try simp only [show (4 : Int).toNat = 4 from rfl, Nat.reduceMul, Nat.reduceEqDiff, Go.Addr.add, ↓reduceIte] at hx1200_0)
           have qi1200 : (4 < t1178.length) = True := eq_true (by omega)
           (try rw [show ((4 : Int)).toNat = 4 from rfl] at hx1200_0)
           replace p1200 := eq_true p1200
           replace q1200 := eq_true q1200
           go_wp2_with (first | ((with_reducible refine gate_callee (f := 136) rfl ?_); refine goesL_ (some 61) rfl rfl Try.func136 (by kernel_rfl) rfl #[.string (rdOf ByteArray.empty t1178 4)] rfl (by (try simp only [List.map_toArray, List.map_cons, List.map_nil]); rfl) ?_; (with_reducible refine (spec_ParseInt.calls k1 (rdOf ByteArray.empty t1178 4) t1201 t1202 _ A34.out).mono ?_); rintro e w37 ⟨rfl, hb⟩; refine ⟨_, rfl, ?_⟩; have n0_ := Aside0.mk (Kd.R_below HO_4.out hb); have n1_ := Aside0.mk (Kd.R_below HO_1182001.out hb); have n2_ := Aside0.mk (Kd.R_below HO_1182002.out hb); have n3_ := Aside0.mk (Kd.R_below HO_1182003.out hb); have n4_ := Aside0.mk (blk_below (g := gb1177) (o := .cells #[.int .i64 0, .slice none 0 0, .slice none 0 0, .slice none 0 0, .int .i64 0] 40 (0, 0)) BK1177.out hb); have n5_ := Aside0.mk (blk_below (g := gb1181) (o := .cells #[.int .i64 t1183, .slice Ao19 t1186.length co19, .slice Ao22 t1191.length co22, u1182003, .int .i64 0] 40 (0, 0)) BK1181.out hb); have n6_ := Aside0.mk (below_step HB.out hb); clear HO_4; clear HO_1182001; clear HO_1182002; clear HO_1182003; clear BK1177; clear BK1181; clear HB; have HO_4 := n0_; have HO_1182001 := n1_; have HO_1182002 := n2_; have HO_1182003 := n3_; have BK1177 := n4_; have BK1181 := n5_; have HB := n6_; clear n0_ n1_ n2_ n3_ n4_ n5_ n6_; (try clear hb); have hnb38 := NB1181_1177.out; have hnc38 := NB1177_1181.out; have hcz39_0 : w37.cell? ⟨gb1181, 0, none⟩ = some (.int .i64 t1183) := (blk_cell BK1181.out 0).trans rfl; have hcz39_1 : w37.cell? ⟨gb1181, 1, none⟩ = some (.slice Ao19 t1186.length co19) := (blk_cell BK1181.out 1).trans rfl; have hcz39_2 : w37.cell? ⟨gb1181, 2, none⟩ = some (.slice Ao22 t1191.length co22) := (blk_cell BK1181.out 2).trans rfl; have hcz39_3 : w37.cell? ⟨gb1181, 3, none⟩ = some (u1182003) := (blk_cell BK1181.out 3).trans rfl; have hcz39_4 : w37.cell? ⟨gb1181, 4, none⟩ = some (.int .i64 0) := (blk_cell BK1181.out 4).trans rfl; have hfz39_0 := blk_frozen BK1181.out 0; have hfz39_1 := blk_frozen BK1181.out 1; have hfz39_2 := blk_frozen BK1181.out 2; have hfz39_3 := blk_frozen BK1181.out 3; have hfz39_4 := blk_frozen BK1181.out 4; obtain ⟨Ao40, co40, eo40⟩ := Kd.R_slice HO_1182003.out; subst eo40) | ((with_reducible refine gate_callee (f := 138) rfl ?_); refine goesL_ (some 66) rfl rfl Try.func138 (by kernel_rfl) rfl #[.agg #[.int .i64 t1183, .slice Ao19 t1186.length co19, .slice Ao22 t1191.length co22, .slice Ao40 x1182003_1.length co40, .int .i64 t1201]] rfl (by (try simp only [List.map_toArray, List.map_cons, List.map_nil]); rfl) ?_; (with_reducible refine (spec_FormatTask.calls k1 t1183 _ _ t1186 _ _ t1191 _ _ x1182003_1 t1201 t1203 _ ?side1 ?side2 ?side3 ?side4 ?side5 ?side6 A35.out).mono ?_); (case side1 => refine (Kd.R_reads' (e := 60) (base := w.heap.size) (ok := fun k_ => some k_ ≠ (.slice Ao22 t1191.length co22 : Value).ownBlock) (n := t1186.length) (c := co19) ?_).2.2; exact (by exact (Kd.R_mono (Kd.R_far (p := ⟨gb1181, 4, none⟩) (Kd.R_types HO_1182001.out BK1181.out (by decide)) (fun _ hk => hk.2) (.int .i64 t1201)) (fun _ h_ => h_.1)))); (case side2 => exact (Kd.R_reads' HO_1182001.out).2.1); (case side3 => refine (Kd.R_reads' (e := 60) (base := w.heap.size) (ok := fun k_ => some k_ ≠ (.slice Ao19 t1186.length co19 : Value).ownBlock) (n := t1191.length) (c := co22) ?_).2.2; exact (by exact (Kd.R_mono (Kd.R_far (p := ⟨gb1181, 4, none⟩) (Kd.R_types HO_1182002.out BK1181.out (by decide)) (fun _ hk => hk.2) (.int .i64 t1201)) (fun _ h_ => h_.1)))); (case side4 => exact (Kd.R_reads' HO_1182002.out).2.1); (case side5 => refine (Kd.R_reads' (e := 4) (base := w.heap.size) (ok := fun k_ => True) (n := x1182003_1.length) (c := co40) ?_).2.2; exact (by exact (Kd.R_mono (Kd.R_far (p := ⟨gb1181, 4, none⟩) (Kd.R_types HO_1182003.out BK1181.out (by decide)) (fun _ hk => hk.2) (.int .i64 t1201)) (fun _ h_ => h_.1)))); (case side6 => exact (Kd.R_reads' HO_1182003.out).2.1); rintro e w41 ⟨rfl, hb⟩; refine ⟨_, rfl, ?_⟩; have n0_ := Aside0.mk (Kd.R_below (by exact (Kd.R_mono (Kd.R_far (p := ⟨gb1181, 4, none⟩) (Kd.R_types HO_4.out BK1181.out (by decide)) (fun _ hk => hk.2) (.int .i64 t1201)) (fun _ h_ => h_.1))) hb); have n1_ := Aside0.mk (Kd.R_below (by exact (Kd.R_mono (Kd.R_far (p := ⟨gb1181, 4, none⟩) (Kd.R_types HO_1182001.out BK1181.out (by decide)) (fun _ hk => hk.2) (.int .i64 t1201)) (fun _ h_ => h_.1))) hb); have n2_ := Aside0.mk (Kd.R_below (by exact (Kd.R_mono (Kd.R_far (p := ⟨gb1181, 4, none⟩) (Kd.R_types HO_1182002.out BK1181.out (by decide)) (fun _ hk => hk.2) (.int .i64 t1201)) (fun _ h_ => h_.1))) hb); have n3_ := Aside0.mk (Kd.R_below (by exact (Kd.R_mono (Kd.R_far (p := ⟨gb1181, 4, none⟩) (Kd.R_types HO_1182003.out BK1181.out (by decide)) (fun _ hk => hk.2) (.int .i64 t1201)) (fun _ h_ => h_.1))) hb); have n4_ := Aside0.mk (blk_below (g := gb1177) (o := .cells #[.int .i64 0, .slice none 0 0, .slice none 0 0, .slice none 0 0, .int .i64 0] 40 (0, 0)) (by refine blk_far ?_ NB1177_1181.out _; exact BK1177.out) hb); have n5_ := Aside0.mk (blk_below (g := gb1181) (o := .cells #[.int .i64 t1183, .slice Ao19 t1186.length co19, .slice Ao22 t1191.length co22, .slice Ao40 x1182003_1.length co40, .int .i64 t1201] 40 (0, 0)) (by refine blk_put (cs := #[.int .i64 t1183, .slice Ao19 t1186.length co19, .slice Ao22 t1191.length co22, .slice Ao40 x1182003_1.length co40, .int .i64 0]) ?_ 4 _ rfl; exact BK1181.out) hb); have n6_ := Aside0.mk (below_step (by repeat (with_reducible first | exact HB.out | refine below_set ?_ GE1181.out)) hb); clear HO_4; clear HO_1182001; clear HO_1182002; clear HO_1182003; clear BK1177; clear BK1181; clear HB; have HO_4 := n0_; have HO_1182001 := n1_; have HO_1182002 := n2_; have HO_1182003 := n3_; have BK1177 := n4_; have BK1181 := n5_; have HB := n6_; clear n0_ n1_ n2_ n3_ n4_ n5_ n6_; (try clear hb); have hcz42_0 : w41.cell? ⟨gb1181, 0, none⟩ = some (.int .i64 t1183) := (blk_cell BK1181.out 0).trans rfl; have hcz42_1 : w41.cell? ⟨gb1181, 1, none⟩ = some (.slice Ao19 t1186.length co19) := (blk_cell BK1181.out 1).trans rfl; have hcz42_2 : w41.cell? ⟨gb1181, 2, none⟩ = some (.slice Ao22 t1191.length co22) := (blk_cell BK1181.out 2).trans rfl; have hcz42_3 : w41.cell? ⟨gb1181, 3, none⟩ = some (.slice Ao40 x1182003_1.length co40) := (blk_cell BK1181.out 3).trans rfl; have hcz42_4 : w41.cell? ⟨gb1181, 4, none⟩ = some (.int .i64 t1201) := (blk_cell BK1181.out 4).trans rfl; have hfz42_0 := blk_frozen BK1181.out 0; have hfz42_1 := blk_frozen BK1181.out 1; have hfz42_2 := blk_frozen BK1181.out 2; have hfz42_3 := blk_frozen BK1181.out 3; have hfz42_4 := blk_frozen BK1181.out 4; have hcz43_0 : w41.cell? ⟨gb1177, 0, none⟩ = some (.int .i64 0) := (blk_cell BK1177.out 0).trans rfl; have hcz43_1 : w41.cell? ⟨gb1177, 1, none⟩ = some (.slice none 0 0) := (blk_cell BK1177.out 1).trans rfl; have hcz43_2 : w41.cell? ⟨gb1177, 2, none⟩ = some (.slice none 0 0) := (blk_cell BK1177.out 2).trans rfl; have hcz43_3 : w41.cell? ⟨gb1177, 3, none⟩ = some (.slice none 0 0) := (blk_cell BK1177.out 3).trans rfl; have hcz43_4 : w41.cell? ⟨gb1177, 4, none⟩ = some (.int .i64 0) := (blk_cell BK1177.out 4).trans rfl; have hfz43_0 := blk_frozen BK1177.out 0; have hfz43_1 := blk_frozen BK1177.out 1; have hfz43_2 := blk_frozen BK1177.out 2; have hfz43_3 := blk_frozen BK1177.out 3; have hfz43_4 := blk_frozen BK1177.out 4))
           refine bodyPost_ret (results_ct rfl _ _ gb1177 40 #[.int .i64 t1183, .slice Ao19 t1186.length co19, .slice Ao22 t1191.length co22, .slice Ao40 x1182003_1.length co40, .int .i64 t1201] (0, 0) _ rfl (by refine blk_put (cs := #[.int .i64 t1183, .slice Ao19 t1186.length co19, .slice Ao22 t1191.length co22, .slice Ao40 x1182003_1.length co40, .int .i64 0]) ?_ 4 _ rfl; refine blk_put (cs := #[.int .i64 t1183, .slice Ao19 t1186.length co19, .slice Ao22 t1191.length co22, .slice none 0 0, .int .i64 0]) ?_ 3 _ rfl; refine blk_put (cs := #[.int .i64 t1183, .slice Ao19 t1186.length co19, .slice none 0 0, .slice none 0 0, .int .i64 0]) ?_ 2 _ rfl; refine blk_put (cs := #[.int .i64 t1183, .slice none 0 0, .slice none 0 0, .slice none 0 0, .int .i64 0]) ?_ 1 _ rfl; refine blk_put (cs := #[.int .i64 0, .slice none 0 0, .slice none 0 0, .slice none 0 0, .int .i64 0]) ?_ 0 _ rfl; exact BK1177.out) Try.underlying40 rfl (by kernel_rfl)) rfl ?_
           exact ⟨_, _, _, rfl, by exact Kd.R_mono (Kd.R_far (p := ⟨gb1177, 4, none⟩) (Kd.R_far (p := ⟨gb1177, 3, none⟩) (Kd.R_far (p := ⟨gb1177, 2, none⟩) (Kd.R_far (p := ⟨gb1177, 1, none⟩) (Kd.R_far (p := ⟨gb1177, 0, none⟩) (Kd.R_types HO_1182001.out BK1177.out (by decide)) (fun _ hk => hk.2) (.int .i64 t1183)) (fun _ hk => hk.2) (.slice Ao19 t1186.length co19)) (fun _ hk => hk.2) (.slice Ao22 t1191.length co22)) (fun _ hk => hk.2) (.slice Ao40 x1182003_1.length co40)) (fun _ hk => hk.2) (.int .i64 t1201)) (fun _ hk => hk.1), by exact Kd.R_mono (Kd.R_far (p := ⟨gb1177, 4, none⟩) (Kd.R_far (p := ⟨gb1177, 3, none⟩) (Kd.R_far (p := ⟨gb1177, 2, none⟩) (Kd.R_far (p := ⟨gb1177, 1, none⟩) (Kd.R_far (p := ⟨gb1177, 0, none⟩) (Kd.R_types HO_1182002.out BK1177.out (by decide)) (fun _ hk => hk.2) (.int .i64 t1183)) (fun _ hk => hk.2) (.slice Ao19 t1186.length co19)) (fun _ hk => hk.2) (.slice Ao22 t1191.length co22)) (fun _ hk => hk.2) (.slice Ao40 x1182003_1.length co40)) (fun _ hk => hk.2) (.int .i64 t1201)) (fun _ hk => hk.1), by exact Kd.R_mono (Kd.R_far (p := ⟨gb1177, 4, none⟩) (Kd.R_far (p := ⟨gb1177, 3, none⟩) (Kd.R_far (p := ⟨gb1177, 2, none⟩) (Kd.R_far (p := ⟨gb1177, 1, none⟩) (Kd.R_far (p := ⟨gb1177, 0, none⟩) (Kd.R_types HO_1182003.out BK1177.out (by decide)) (fun _ hk => hk.2) (.int .i64 t1183)) (fun _ hk => hk.2) (.slice Ao19 t1186.length co19)) (fun _ hk => hk.2) (.slice Ao22 t1191.length co22)) (fun _ hk => hk.2) (.slice Ao40 x1182003_1.length co40)) (fun _ hk => hk.2) (.int .i64 t1201)) (fun _ hk => trivial), by repeat ((with_reducible first | exact HB.out | refine below_set ?_ GE1177.out))⟩
          ·rw [if_neg c36] at H
           have c36b0 : (t1203.toList == a0.toList) = false := beq_eq_false_iff_ne.mpr c36
           have c36b1 : (t1203.toList != a0.toList) = true := bne_iff_ne.mpr c36
           simp only [Option.some.injEq, Prod.mk.injEq] at H
           obtain ⟨rfl, rfl, rfl, rfl, rfl, rfl⟩ := H
           have p1195 : 0 ≤ (3 : Int) := (by omega)
           have q1195 : 3 < (t1178.length : Int) := of_decide_eq_true (by (with_reducible assumption))
           obtain ⟨ad1195, e1195, hx1195_0⟩ := Kd.at_string (Kd.R_reads' HO_4.out).2.2 3 p1195 q1195
           obtain rfl : ad1182 = ad1195 := (by injection e1195)
           (try simp only [show (3 : Int).toNat = 3 from rfl, Nat.reduceMul, Nat.reduceEqDiff, Go.Addr.add, ↓reduceIte] at hx1195_0)
           have qi1195 : (3 < t1178.length) = True := eq_true (by omega)
           (try rw [show ((3 : Int)).toNat = 3 from rfl] at hx1195_0)
           replace p1195 := eq_true p1195
           replace q1195 := eq_true q1195
           have p1200 : 0 ≤ (4 : Int) := (by omega)
           have q1200 : 4 < (t1178.length : Int) := of_decide_eq_true (by (with_reducible assumption))
           obtain ⟨ad1200, e1200, hx1200_0⟩ := Kd.at_string (Kd.R_reads' HO_4.out).2.2 4 p1200 q1200
           obtain rfl : ad1182 = ad1200 := (by injection e1200)
           (try simp only [show (4 : Int).toNat = 4 from rfl, Nat.reduceMul, Nat.reduceEqDiff, Go.Addr.add, ↓reduceIte] at hx1200_0)
           have qi1200 : (4 < t1178.length) = True := eq_true (by omega)
           (try rw [show ((4 : Int)).toNat = 4 from rfl] at hx1200_0)
           replace p1200 := eq_true p1200
           replace q1200 := eq_true q1200
           go_wp2_with (first | ((with_reducible refine gate_callee (f := 136) rfl ?_); refine goesL_ (some 61) rfl rfl Try.func136 (by kernel_rfl) rfl #[.string (rdOf ByteArray.empty t1178 4)] rfl (by (try simp only [List.map_toArray, List.map_cons, List.map_nil]); rfl) ?_; (with_reducible refine (spec_ParseInt.calls k1 (rdOf ByteArray.empty t1178 4) t1201 t1202 _ A34.out).mono ?_); rintro e w44 ⟨rfl, hb⟩; refine ⟨_, rfl, ?_⟩; have n0_ := Aside0.mk (Kd.R_below HO_4.out hb); have n1_ := Aside0.mk (Kd.R_below HO_1182001.out hb); have n2_ := Aside0.mk (Kd.R_below HO_1182002.out hb); have n3_ := Aside0.mk (Kd.R_below HO_1182003.out hb); have n4_ := Aside0.mk (blk_below (g := gb1177) (o := .cells #[.int .i64 0, .slice none 0 0, .slice none 0 0, .slice none 0 0, .int .i64 0] 40 (0, 0)) BK1177.out hb); have n5_ := Aside0.mk (blk_below (g := gb1181) (o := .cells #[.int .i64 t1183, .slice Ao19 t1186.length co19, .slice Ao22 t1191.length co22, u1182003, .int .i64 0] 40 (0, 0)) BK1181.out hb); have n6_ := Aside0.mk (below_step HB.out hb); clear HO_4; clear HO_1182001; clear HO_1182002; clear HO_1182003; clear BK1177; clear BK1181; clear HB; have HO_4 := n0_; have HO_1182001 := n1_; have HO_1182002 := n2_; have HO_1182003 := n3_; have BK1177 := n4_; have BK1181 := n5_; have HB := n6_; clear n0_ n1_ n2_ n3_ n4_ n5_ n6_; (try clear hb); have hnb45 := NB1181_1177.out; have hnc45 := NB1177_1181.out; have hcz46_0 : w44.cell? ⟨gb1181, 0, none⟩ = some (.int .i64 t1183) := (blk_cell BK1181.out 0).trans rfl; have hcz46_1 : w44.cell? ⟨gb1181, 1, none⟩ = some (.slice Ao19 t1186.length co19) := (blk_cell BK1181.out 1).trans rfl; have hcz46_2 : w44.cell? ⟨gb1181, 2, none⟩ = some (.slice Ao22 t1191.length co22) := (blk_cell BK1181.out 2).trans rfl; have hcz46_3 : w44.cell? ⟨gb1181, 3, none⟩ = some (u1182003) := (blk_cell BK1181.out 3).trans rfl; have hcz46_4 : w44.cell? ⟨gb1181, 4, none⟩ = some (.int .i64 0) := (blk_cell BK1181.out 4).trans rfl; have hfz46_0 := blk_frozen BK1181.out 0; have hfz46_1 := blk_frozen BK1181.out 1; have hfz46_2 := blk_frozen BK1181.out 2; have hfz46_3 := blk_frozen BK1181.out 3; have hfz46_4 := blk_frozen BK1181.out 4; obtain ⟨Ao47, co47, eo47⟩ := Kd.R_slice HO_1182003.out; subst eo47) | ((with_reducible refine gate_callee (f := 138) rfl ?_); refine goesL_ (some 66) rfl rfl Try.func138 (by kernel_rfl) rfl #[.agg #[.int .i64 t1183, .slice Ao19 t1186.length co19, .slice Ao22 t1191.length co22, .slice Ao47 x1182003_1.length co47, .int .i64 t1201]] rfl (by (try simp only [List.map_toArray, List.map_cons, List.map_nil]); rfl) ?_; (with_reducible refine (spec_FormatTask.calls k1 t1183 _ _ t1186 _ _ t1191 _ _ x1182003_1 t1201 t1203 _ ?side1 ?side2 ?side3 ?side4 ?side5 ?side6 A35.out).mono ?_); (case side1 => refine (Kd.R_reads' (e := 60) (base := w.heap.size) (ok := fun k_ => some k_ ≠ (.slice Ao22 t1191.length co22 : Value).ownBlock) (n := t1186.length) (c := co19) ?_).2.2; exact (by exact (Kd.R_mono (Kd.R_far (p := ⟨gb1181, 4, none⟩) (Kd.R_types HO_1182001.out BK1181.out (by decide)) (fun _ hk => hk.2) (.int .i64 t1201)) (fun _ h_ => h_.1)))); (case side2 => exact (Kd.R_reads' HO_1182001.out).2.1); (case side3 => refine (Kd.R_reads' (e := 60) (base := w.heap.size) (ok := fun k_ => some k_ ≠ (.slice Ao19 t1186.length co19 : Value).ownBlock) (n := t1191.length) (c := co22) ?_).2.2; exact (by exact (Kd.R_mono (Kd.R_far (p := ⟨gb1181, 4, none⟩) (Kd.R_types HO_1182002.out BK1181.out (by decide)) (fun _ hk => hk.2) (.int .i64 t1201)) (fun _ h_ => h_.1)))); (case side4 => exact (Kd.R_reads' HO_1182002.out).2.1); (case side5 => refine (Kd.R_reads' (e := 4) (base := w.heap.size) (ok := fun k_ => True) (n := x1182003_1.length) (c := co47) ?_).2.2; exact (by exact (Kd.R_mono (Kd.R_far (p := ⟨gb1181, 4, none⟩) (Kd.R_types HO_1182003.out BK1181.out (by decide)) (fun _ hk => hk.2) (.int .i64 t1201)) (fun _ h_ => h_.1)))); (case side6 => exact (Kd.R_reads' HO_1182003.out).2.1); rintro e w48 ⟨rfl, hb⟩; refine ⟨_, rfl, ?_⟩; have n0_ := Aside0.mk (Kd.R_below (by exact (Kd.R_mono (Kd.R_far (p := ⟨gb1181, 4, none⟩) (Kd.R_types HO_4.out BK1181.out (by decide)) (fun _ hk => hk.2) (.int .i64 t1201)) (fun _ h_ => h_.1))) hb); have n1_ := Aside0.mk (Kd.R_below (by exact (Kd.R_mono (Kd.R_far (p := ⟨gb1181, 4, none⟩) (Kd.R_types HO_1182001.out BK1181.out (by decide)) (fun _ hk => hk.2) (.int .i64 t1201)) (fun _ h_ => h_.1))) hb); have n2_ := Aside0.mk (Kd.R_below (by exact (Kd.R_mono (Kd.R_far (p := ⟨gb1181, 4, none⟩) (Kd.R_types HO_1182002.out BK1181.out (by decide)) (fun _ hk => hk.2) (.int .i64 t1201)) (fun _ h_ => h_.1))) hb); have n3_ := Aside0.mk (Kd.R_below (by exact (Kd.R_mono (Kd.R_far (p := ⟨gb1181, 4, none⟩) (Kd.R_types HO_1182003.out BK1181.out (by decide)) (fun _ hk => hk.2) (.int .i64 t1201)) (fun _ h_ => h_.1))) hb); have n4_ := Aside0.mk (blk_below (g := gb1177) (o := .cells #[.int .i64 0, .slice none 0 0, .slice none 0 0, .slice none 0 0, .int .i64 0] 40 (0, 0)) (by refine blk_far ?_ NB1177_1181.out _; exact BK1177.out) hb); have n5_ := Aside0.mk (blk_below (g := gb1181) (o := .cells #[.int .i64 t1183, .slice Ao19 t1186.length co19, .slice Ao22 t1191.length co22, .slice Ao47 x1182003_1.length co47, .int .i64 t1201] 40 (0, 0)) (by refine blk_put (cs := #[.int .i64 t1183, .slice Ao19 t1186.length co19, .slice Ao22 t1191.length co22, .slice Ao47 x1182003_1.length co47, .int .i64 0]) ?_ 4 _ rfl; exact BK1181.out) hb); have n6_ := Aside0.mk (below_step (by repeat (with_reducible first | exact HB.out | refine below_set ?_ GE1181.out)) hb); clear HO_4; clear HO_1182001; clear HO_1182002; clear HO_1182003; clear BK1177; clear BK1181; clear HB; have HO_4 := n0_; have HO_1182001 := n1_; have HO_1182002 := n2_; have HO_1182003 := n3_; have BK1177 := n4_; have BK1181 := n5_; have HB := n6_; clear n0_ n1_ n2_ n3_ n4_ n5_ n6_; (try clear hb); have hcz49_0 : w48.cell? ⟨gb1177, 0, none⟩ = some (.int .i64 0) := (blk_cell BK1177.out 0).trans rfl; have hcz49_1 : w48.cell? ⟨gb1177, 1, none⟩ = some (.slice none 0 0) := (blk_cell BK1177.out 1).trans rfl; have hcz49_2 : w48.cell? ⟨gb1177, 2, none⟩ = some (.slice none 0 0) := (blk_cell BK1177.out 2).trans rfl; have hcz49_3 : w48.cell? ⟨gb1177, 3, none⟩ = some (.slice none 0 0) := (blk_cell BK1177.out 3).trans rfl; have hcz49_4 : w48.cell? ⟨gb1177, 4, none⟩ = some (.int .i64 0) := (blk_cell BK1177.out 4).trans rfl; have hfz49_0 := blk_frozen BK1177.out 0; have hfz49_1 := blk_frozen BK1177.out 1; have hfz49_2 := blk_frozen BK1177.out 2; have hfz49_3 := blk_frozen BK1177.out 3; have hfz49_4 := blk_frozen BK1177.out 4))
           refine bodyPost_ret (results_ct rfl _ _ gb1177 40 #[.int .i64 0, .slice none 0 0, .slice none 0 0, .slice none 0 0, .int .i64 0] (0, 0) _ rfl (by refine blk_put (cs := #[.int .i64 0, .slice none 0 0, .slice none 0 0, .slice none 0 0, .int .i64 0]) ?_ 4 _ rfl; refine blk_put (cs := #[.int .i64 0, .slice none 0 0, .slice none 0 0, .slice none 0 0, .int .i64 0]) ?_ 3 _ rfl; refine blk_put (cs := #[.int .i64 0, .slice none 0 0, .slice none 0 0, .slice none 0 0, .int .i64 0]) ?_ 2 _ rfl; refine blk_put (cs := #[.int .i64 0, .slice none 0 0, .slice none 0 0, .slice none 0 0, .int .i64 0]) ?_ 1 _ rfl; refine blk_put (cs := #[.int .i64 0, .slice none 0 0, .slice none 0 0, .slice none 0 0, .int .i64 0]) ?_ 0 _ rfl; exact BK1177.out) Try.underlying40 rfl (by kernel_rfl)) rfl ?_
           exact ⟨_, _, _, rfl, by exact Kd.R_nil _ _ _ _ _, by exact Kd.R_nil _ _ _ _ _, by exact Kd.R_nil _ _ _ _ _, by repeat ((with_reducible first | exact HB.out | refine below_set ?_ GE1177.out))⟩
         ·rw [if_neg c33] at H
          exact absurd H (by simp)
       ·rw [if_neg c24] at H
        exact absurd H (by simp)
    ·rw [if_neg c8] at H
     exact absurd H (by simp)
   ·rw [if_neg c6] at H
    exact absurd H (by simp)
  ·rw [if_neg c4] at H
   exact absurd H (by simp)
 ·rw [if_neg c3] at H
  have c3b0 : ((t1178.length : Int) == 5) = false := beq_eq_false_iff_ne.mpr c3
  have c3b1 : ((t1178.length : Int) != 5) = true := bne_iff_ne.mpr c3
  simp only [Option.some.injEq, Prod.mk.injEq] at H
  obtain ⟨rfl, rfl, rfl, rfl, rfl, rfl⟩ := H
  go_enter Try.func40, Try.ntmps40
  go_wp2_with (first | ((with_reducible refine gate_dst (N := 2) rfl ?_); refine box_event ?hg (N := 2) ?hd (cs := #[.int .i64 0, .slice none 0 0, .slice none 0 0, .slice none 0 0, .int .i64 0]) (t := 40) ?hr ?_; (case hd => rfl); (case hg => rfl); (case hr => (go_simp; done)); intro gb1177 hg w50 hbox hb; have n0_ := Aside0.mk (below_step HB.out hb); have n1_ := Aside0.mk (hbox); have n2_ := Aside0.mk ((by rw [hg]; exact (below_size HB.out) : w.heap.size ≤ gb1177)); have n3_ := Aside0.mk ((by rw [hg]; exact (below_size HB.out) : w.heap.size ≤ gb1177)); clear HB; have HB := n0_; have BK1177 := n1_; have GW1177 := n2_; have GE1177 := n3_; clear n0_ n1_ n2_ n3_; clear hb hbox hg) | ((with_reducible refine gate_callee (f := 135) rfl ?_); refine goesL_ (some 8) rfl rfl Try.func135 (by kernel_rfl) rfl #[.string a0, .int .u8 59] rfl (by (try simp only [List.map_toArray, List.map_cons, List.map_nil]); rfl) ?_; (with_reducible refine (spec_l2Cut.calls k a0 59 t1178 _ A2.out).mono ?_); rintro e w51 ⟨v1179, rfl, ho0, hb⟩; refine ⟨_, rfl, ?_⟩; have n0_ := Aside0.mk (Kd.R_lower ho0 (below_size HB.out)); have n1_ := Aside0.mk (blk_below (g := gb1177) (o := .cells #[.int .i64 0, .slice none 0 0, .slice none 0 0, .slice none 0 0, .int .i64 0] 40 (0, 0)) BK1177.out hb); have n2_ := Aside0.mk (below_step HB.out hb); clear BK1177; clear HB; have HO1180 := n0_; have BK1177 := n1_; have HB := n2_; clear n0_ n1_ n2_; (try clear hb); (try clear ho0); obtain ⟨Ao52, co52, eo52⟩ := Kd.R_slice HO1180.out; subst eo52; have hcz53_0 : w51.cell? ⟨gb1177, 0, none⟩ = some (.int .i64 0) := (blk_cell BK1177.out 0).trans rfl; have hcz53_1 : w51.cell? ⟨gb1177, 1, none⟩ = some (.slice none 0 0) := (blk_cell BK1177.out 1).trans rfl; have hcz53_2 : w51.cell? ⟨gb1177, 2, none⟩ = some (.slice none 0 0) := (blk_cell BK1177.out 2).trans rfl; have hcz53_3 : w51.cell? ⟨gb1177, 3, none⟩ = some (.slice none 0 0) := (blk_cell BK1177.out 3).trans rfl; have hcz53_4 : w51.cell? ⟨gb1177, 4, none⟩ = some (.int .i64 0) := (blk_cell BK1177.out 4).trans rfl; have hfz53_0 := blk_frozen BK1177.out 0; have hfz53_1 := blk_frozen BK1177.out 1; have hfz53_2 := blk_frozen BK1177.out 2; have hfz53_3 := blk_frozen BK1177.out 3; have hfz53_4 := blk_frozen BK1177.out 4))
  refine bodyPost_ret (results_ct rfl _ _ gb1177 40 #[.int .i64 0, .slice none 0 0, .slice none 0 0, .slice none 0 0, .int .i64 0] (0, 0) _ rfl (by refine blk_put (cs := #[.int .i64 0, .slice none 0 0, .slice none 0 0, .slice none 0 0, .int .i64 0]) ?_ 4 _ rfl; refine blk_put (cs := #[.int .i64 0, .slice none 0 0, .slice none 0 0, .slice none 0 0, .int .i64 0]) ?_ 3 _ rfl; refine blk_put (cs := #[.int .i64 0, .slice none 0 0, .slice none 0 0, .slice none 0 0, .int .i64 0]) ?_ 2 _ rfl; refine blk_put (cs := #[.int .i64 0, .slice none 0 0, .slice none 0 0, .slice none 0 0, .int .i64 0]) ?_ 1 _ rfl; refine blk_put (cs := #[.int .i64 0, .slice none 0 0, .slice none 0 0, .slice none 0 0, .int .i64 0]) ?_ 0 _ rfl; exact BK1177.out) Try.underlying40 rfl (by kernel_rfl)) rfl ?_
  exact ⟨_, _, _, rfl, by exact Kd.R_nil _ _ _ _ _, by exact Kd.R_nil _ _ _ _ _, by exact Kd.R_nil _ _ _ _ _, by repeat ((with_reducible first | exact HB.out | refine below_set ?_ GE1177.out))⟩

end Go.Proofs.Ytobndcjmjhehjaa.P
