/- For every code the law FnRollup of the given program returns true and leaves its argument as it was; no condition. -/
import Derived.Test.YtphkghnppcfdpaaPuf2
namespace Go.Proofs.Ytphkghnppcfdpaa.P
open Go.RowKit Go.Proofs.YtphkghnppcfdpaaW.PrintWords Go.Proofs.YtphkghnppcfdpaaW.PrintLast Go.Proofs.YtphkghnppcfdpaaW.PrintMore
attribute [local go_sem] max2_int min2_int max_two min_two max_three min_three max_four min_four   -- for this text's walks alone
set_option linter.unusedVariables false
set_option linter.unusedSimpArgs false
set_option maxHeartbeats 8000000
set_option maxRecDepth 100000
mutual
def spec_FormatGroups.l0 : Nat → List (S60) → ByteArray → Int → Option (ByteArray)
  | 0, _, _, _ => none
  | k + 1, x0, x3, x4 => if x4 < (x0.length : Int) then (if x4 > 0 then (if x3.size + 1 ≤ 9223372036854775807 then (spec_FormatGroups.j1 k x0 (x3 ++ (⟨#[32]⟩ : ByteArray)) x4) else (none)) else (spec_FormatGroups.j1 k x0 x3 x4)) else (some x3)
def spec_FormatGroups.j1 : Nat → List (S60) → ByteArray → Int → Option (ByteArray)
  | 0, _, _, _ => none
  | k + 1, x0, x3, x4 => if 0 ≤ x4 then (if x4 < (x0.length : Int) then ((spec_FormatInt.f k ((rd_T60 x0 x4).f0)).bind fun t582 => (if x3.size + t582.size ≤ 9223372036854775807 then (if (x3 ++ t582).size + 1 ≤ 9223372036854775807 then ((spec_FormatInt.f k ((rd_T60 x0 x4).f1)).bind fun t584 => (if ((x3 ++ t582) ++ (⟨#[58]⟩ : ByteArray)).size + t584.size ≤ 9223372036854775807 then (if (((x3 ++ t582) ++ (⟨#[58]⟩ : ByteArray)) ++ t584).size + 1 ≤ 9223372036854775807 then ((spec_FormatInt.f k ((rd_T60 x0 x4).f2)).bind fun t586 => (if ((((x3 ++ t582) ++ (⟨#[58]⟩ : ByteArray)) ++ t584) ++ (⟨#[44]⟩ : ByteArray)).size + t586.size ≤ 9223372036854775807 then (if (((((x3 ++ t582) ++ (⟨#[58]⟩ : ByteArray)) ++ t584) ++ (⟨#[44]⟩ : ByteArray)) ++ t586).size + 1 ≤ 9223372036854775807 then ((spec_FormatInt.f k ((rd_T60 x0 x4).f3)).bind fun t588 => (if ((((((x3 ++ t582) ++ (⟨#[58]⟩ : ByteArray)) ++ t584) ++ (⟨#[44]⟩ : ByteArray)) ++ t586) ++ (⟨#[44]⟩ : ByteArray)).size + t588.size ≤ 9223372036854775807 then (if (((((((x3 ++ t582) ++ (⟨#[58]⟩ : ByteArray)) ++ t584) ++ (⟨#[44]⟩ : ByteArray)) ++ t586) ++ (⟨#[44]⟩ : ByteArray)) ++ t588).size + 1 ≤ 9223372036854775807 then ((spec_FormatInt.f k ((rd_T60 x0 x4).f4)).bind fun t590 => (if ((((((((x3 ++ t582) ++ (⟨#[58]⟩ : ByteArray)) ++ t584) ++ (⟨#[44]⟩ : ByteArray)) ++ t586) ++ (⟨#[44]⟩ : ByteArray)) ++ t588) ++ (⟨#[44]⟩ : ByteArray)).size + t590.size ≤ 9223372036854775807 then (spec_FormatGroups.l0 k x0 (((((((((x3 ++ t582) ++ (⟨#[58]⟩ : ByteArray)) ++ t584) ++ (⟨#[44]⟩ : ByteArray)) ++ t586) ++ (⟨#[44]⟩ : ByteArray)) ++ t588) ++ (⟨#[44]⟩ : ByteArray)) ++ t590) (wrap64 (x4 + 1))) else (none))) else (none)) else (none))) else (none)) else (none))) else (none)) else (none))) else (none)) else (none))) else (none)) else (none)
end
def spec_FormatGroups.f (k : Nat) (l0 : List (S60)) : Option (ByteArray) := spec_FormatGroups.l0 k l0 (⟨#[]⟩ : ByteArray) 0
def spec_FormatGroups.T7 : Bool × List (List Nat × List Nat) := (true, [([], []), ([], []), ([], []), ([1, 2], [1, 2]), ([3], [3]), ([4], [4]), ([5], [5]), ([0, 6], [0, 6]), ([7], [7]), ([], []), ([], []), ([9, 10], [9, 10]), ([11], [11]), ([12], [12]), ([13, 6], [13]), ([8, 14], [8, 14]), ([15], [15]), ([], []), ([], []), ([17, 18], [17, 18]), ([19], [19]), ([20], [20]), ([21, 14], [21]), ([16, 22], [16, 22]), ([23], [23]), ([], []), ([], []), ([25, 26], [25, 26]), ([27], [27]), ([28], [28]), ([29, 22], [29]), ([24, 30], [24, 30]), ([31], [31]), ([], []), ([], []), ([33, 34], [33, 34]), ([35], [35]), ([36], [36]), ([37, 30], [37]), ([32, 38], [32, 38]), ([39, 38, 0, 1, 2, 3, 4, 5, 6, 7, 8, 9, 10, 11, 12, 13, 14, 15, 16, 17, 18, 19, 20, 21, 22, 23, 24, 25, 26, 27, 28, 29, 30, 31, 32, 33, 34, 35, 36, 37, 38, 39], [0, 39])])
def spec_FormatGroups.B7 : List Nat := [0, 0, 0, 6, 14, 30, 62, 127, 255, 0, 0, 1536, 3584, 7680, 15998, 32767, 65535, 0, 0, 393216, 917504, 1966080, 4095614, 8388607, 16777215, 0, 0, 100663296, 234881024, 503316480, 1048477310, 2147483647, 4294967295, 0, 0, 25769803776, 60129542144, 128849018880, 268410191486, 549755813887, 1099511627775]
theorem spec_FormatGroups.tab7 : rtab .any (opsOf Try.f108 7) = spec_FormatGroups.T7 := by kernel_rfl
theorem spec_FormatGroups.bits7 : waitsOk spec_FormatGroups.T7.2 spec_FormatGroups.B7 = true := by kernel_rfl
theorem spec_FormatGroups.calls (k : Nat) (A0 : Option Addr) (c0 : Nat) (l0 : List (S60)) (r : ByteArray) (w : World) (hr0 : Kd.C k60 w A0 l0.length l0) (hc0 : l0.length ≤ c0) (h : spec_FormatGroups.f k l0 = some r) :
    Calls Try.prog 108 #[.slice A0 l0.length c0] w fun e w' => e = .returned (.string r) ∧ Below w.heap.size w w' := by
  have HR0 := Aside0.mk hr0
  have HC0 := Aside0.mk hc0
  clear hr0 hc0
  have HB := Aside0.mk (Below.refl w.heap.size w)
  have H : (spec_FormatGroups.l0 k l0 (⟨#[]⟩ : ByteArray) 0) = some r := h
  clear h
  have H' := Aside0.mk H
  clear H
  go_enter Try.func108, Try.ntmps108
  go_wp2
  go_loopg [3, 4] k (fun kq v3 v4 w' => ∃ (x3_1 : ByteArray) (x4_1 : Int), v3 = .string x3_1 ∧ v4 = .int .i64 x4_1 ∧ Aside0 (spec_FormatGroups.l0 kq l0 x3_1 x4_1 = some r) ∧ Aside0 (kq ≤ k) ∧ Aside0 (Below w.heap.size w w'))
  case atStart => exact ⟨((⟨#[]⟩ : ByteArray)), (0), (by first | rfl | (simp; done) | (simp [*]; done) | (simp; exact isE_ _)), (by first | rfl | (simp; done) | (simp [*]; done) | (simp; exact isE_ _)), H', ⟨Nat.le_refl _⟩, ⟨by repeat (first | (with_reducible first | exact HB.out | apply below_alloc | apply pw_below_drewN | apply below_drew1) | exact HB.out)⟩⟩
  case round =>
    clear H'
    try clear c1
    obtain ⟨x3_1, x4_1, rfl, rfl, HA, HK1, HB⟩ := hrel
    cases gk with
    | zero => exact absurd HA.out (by simp [spec_FormatGroups.l0])
    | succ k1 =>
      have H := HA.out
      clear HA
      simp only [spec_FormatGroups.l0] at H
      by_cases c2 : x4_1 < (l0.length : Int)
      · rw [if_pos c2] at H
        have c2b0 : decide (x4_1 < (l0.length : Int)) = true := decide_eq_true c2
        clear c2
        have HC3 := Aside0.mk H
        clear H
        go_upto_if 12 with (fail)
        go_cut [3] (fun v3 wc => ∃ (kq : Nat) (x3_2 : ByteArray), v3 = .string x3_2 ∧ Aside0 (spec_FormatGroups.j1 kq l0 x3_2 x4_1 = some r) ∧ Aside0 (kq ≤ k1) ∧ Aside0 (Below w.heap.size w wc))
        case first =>
          have H := HC3.out
          clear HC3
          by_cases c4 : x4_1 > 0
          · rw [if_pos c4] at H
            have c4b0 : decide (0 < x4_1) = true := decide_eq_true c4
            clear c4
            (first | rw [c4b0] | (simp only [i64_w, i32_w]; rw [c4b0]) | skip)
            by_cases c5 : x3_1.size + 1 ≤ 9223372036854775807
            · rw [if_pos c5] at H
              have c5b0 := eq_true c5
              have c5b1 : decide (x3_1.size + 1 ≤ 9223372036854775807) = true := decide_eq_true c5
              try have c5b2 : (9223372036854775807 < x3_1.size + 1) = False := eq_false (Nat.not_lt.2 c5)
              have H' := Aside0.mk H
              clear H
              go_wp2
              go_meet
              case rel => exact ⟨_, (x3_1 ++ (⟨#[32]⟩ : ByteArray)), (by first | rfl | (simp; done) | (simp [*]; done) | (simp; exact isE_ _)), H', ⟨by have := HK1.out; first | omega | exact Nat.le_refl _⟩, ⟨by repeat (first | (with_reducible first | exact HB.out | apply below_alloc | apply pw_below_drewN | apply below_drew1) | exact HB.out)⟩⟩
            · rw [if_neg c5] at H
              exact absurd H (by simp)
          · rw [if_neg c4] at H
            have c4b0 : decide (0 < x4_1) = false := decide_eq_false c4
            clear c4
            (first | rw [c4b0] | (simp only [i64_w, i32_w]; rw [c4b0]) | skip)
            have H' := Aside0.mk H
            clear H
            go_wp2
            go_meet
            case rel => exact ⟨_, (x3_1), (by first | rfl | (simp; done) | (simp [*]; done) | (simp; exact isE_ _)), H', ⟨by have := HK1.out; first | omega | exact Nat.le_refl _⟩, ⟨by repeat (first | (with_reducible first | exact HB.out | apply below_alloc | apply pw_below_drewN | apply below_drew1) | exact HB.out)⟩⟩
        case rest =>
          clear HC3
          try clear c1
          try clear c2
          try clear c2b0
          try clear p2
          try clear c4
          try clear c4b0
          try clear c5
          try clear c5b0
          try clear c5b1
          try clear c5b2
          obtain ⟨kq, x3_2, rfl, HA, HJ2, HB⟩ := hcut
          cases kq with
          | zero => exact absurd HA.out (by simp [spec_FormatGroups.j1])
          | succ kj2 =>
            have H := HA.out
            clear HA
            simp only [spec_FormatGroups.j1] at H
            by_cases c6 : 0 ≤ x4_1
            · rw [if_pos c6] at H
              have c6b0 : decide (0 ≤ x4_1) = true := decide_eq_true c6
              clear c6
              by_cases c7 : x4_1 < (l0.length : Int)
              · rw [if_pos c7] at H
                have c7b0 : decide (x4_1 < (l0.length : Int)) = true := decide_eq_true c7
                clear c7
                replace H := Option.bind_eq_some_iff.mp H
                obtain ⟨t582, A80, H⟩ := H
                replace H : (if x3_2.size + t582.size ≤ 9223372036854775807 then (if (x3_2 ++ t582).size + 1 ≤ 9223372036854775807 then ((spec_FormatInt.f kj2 ((rd_T60 l0 x4_1).f1)).bind fun t584 => (if ((x3_2 ++ t582) ++ (⟨#[58]⟩ : ByteArray)).size + t584.size ≤ 9223372036854775807 then (if (((x3_2 ++ t582) ++ (⟨#[58]⟩ : ByteArray)) ++ t584).size + 1 ≤ 9223372036854775807 then ((spec_FormatInt.f kj2 ((rd_T60 l0 x4_1).f2)).bind fun t586 => (if ((((x3_2 ++ t582) ++ (⟨#[58]⟩ : ByteArray)) ++ t584) ++ (⟨#[44]⟩ : ByteArray)).size + t586.size ≤ 9223372036854775807 then (if (((((x3_2 ++ t582) ++ (⟨#[58]⟩ : ByteArray)) ++ t584) ++ (⟨#[44]⟩ : ByteArray)) ++ t586).size + 1 ≤ 9223372036854775807 then ((spec_FormatInt.f kj2 ((rd_T60 l0 x4_1).f3)).bind fun t588 => (if ((((((x3_2 ++ t582) ++ (⟨#[58]⟩ : ByteArray)) ++ t584) ++ (⟨#[44]⟩ : ByteArray)) ++ t586) ++ (⟨#[44]⟩ : ByteArray)).size + t588.size ≤ 9223372036854775807 then (if (((((((x3_2 ++ t582) ++ (⟨#[58]⟩ : ByteArray)) ++ t584) ++ (⟨#[44]⟩ : ByteArray)) ++ t586) ++ (⟨#[44]⟩ : ByteArray)) ++ t588).size + 1 ≤ 9223372036854775807 then ((spec_FormatInt.f kj2 ((rd_T60 l0 x4_1).f4)).bind fun t590 => (if ((((((((x3_2 ++ t582) ++ (⟨#[58]⟩ : ByteArray)) ++ t584) ++ (⟨#[44]⟩ : ByteArray)) ++ t586) ++ (⟨#[44]⟩ : ByteArray)) ++ t588) ++ (⟨#[44]⟩ : ByteArray)).size + t590.size ≤ 9223372036854775807 then (spec_FormatGroups.l0 kj2 l0 (((((((((x3_2 ++ t582) ++ (⟨#[58]⟩ : ByteArray)) ++ t584) ++ (⟨#[44]⟩ : ByteArray)) ++ t586) ++ (⟨#[44]⟩ : ByteArray)) ++ t588) ++ (⟨#[44]⟩ : ByteArray)) ++ t590) (wrap64 (x4_1 + 1))) else (none))) else (none)) else (none))) else (none)) else (none))) else (none)) else (none))) else (none)) else (none)) = some r := H
                have A8 := Aside0.mk A80
                clear A80
                by_cases c9 : x3_2.size + t582.size ≤ 9223372036854775807
                · rw [if_pos c9] at H
                  have c9b0 := eq_true c9
                  have c9b1 : decide (x3_2.size + t582.size ≤ 9223372036854775807) = true := decide_eq_true c9
                  try have c9b2 : (9223372036854775807 < x3_2.size + t582.size) = False := eq_false (Nat.not_lt.2 c9)
                  by_cases c10 : (x3_2 ++ t582).size + 1 ≤ 9223372036854775807
                  · rw [if_pos c10] at H
                    have c10b0 := eq_true c10
                    have c10b1 : decide ((x3_2 ++ t582).size + 1 ≤ 9223372036854775807) = true := decide_eq_true c10
                    try have c10b3 : (9223372036854775807 < x3_2.size + t582.size + 1) = False := eq_false (by have h_ := c10; simp only [ByteArray.size_append] at h_; (first | exact Nat.not_lt.2 h_ | omega))
                    try have c10b2 : (9223372036854775807 < (x3_2 ++ t582).size + 1) = False := eq_false (Nat.not_lt.2 c10)
                    replace H := Option.bind_eq_some_iff.mp H
                    obtain ⟨t584, A110, H⟩ := H
                    replace H : (if ((x3_2 ++ t582) ++ (⟨#[58]⟩ : ByteArray)).size + t584.size ≤ 9223372036854775807 then (if (((x3_2 ++ t582) ++ (⟨#[58]⟩ : ByteArray)) ++ t584).size + 1 ≤ 9223372036854775807 then ((spec_FormatInt.f kj2 ((rd_T60 l0 x4_1).f2)).bind fun t586 => (if ((((x3_2 ++ t582) ++ (⟨#[58]⟩ : ByteArray)) ++ t584) ++ (⟨#[44]⟩ : ByteArray)).size + t586.size ≤ 9223372036854775807 then (if (((((x3_2 ++ t582) ++ (⟨#[58]⟩ : ByteArray)) ++ t584) ++ (⟨#[44]⟩ : ByteArray)) ++ t586).size + 1 ≤ 9223372036854775807 then ((spec_FormatInt.f kj2 ((rd_T60 l0 x4_1).f3)).bind fun t588 => (if ((((((x3_2 ++ t582) ++ (⟨#[58]⟩ : ByteArray)) ++ t584) ++ (⟨#[44]⟩ : ByteArray)) ++ t586) ++ (⟨#[44]⟩ : ByteArray)).size + t588.size ≤ 9223372036854775807 then (if (((((((x3_2 ++ t582) ++ (⟨#[58]⟩ : ByteArray)) ++ t584) ++ (⟨#[44]⟩ : ByteArray)) ++ t586) ++ (⟨#[44]⟩ : ByteArray)) ++ t588).size + 1 ≤ 9223372036854775807 then ((spec_FormatInt.f kj2 ((rd_T60 l0 x4_1).f4)).bind fun t590 => (if ((((((((x3_2 ++ t582) ++ (⟨#[58]⟩ : ByteArray)) ++ t584) ++ (⟨#[44]⟩ : ByteArray)) ++ t586) ++ (⟨#[44]⟩ : ByteArray)) ++ t588) ++ (⟨#[44]⟩ : ByteArray)).size + t590.size ≤ 9223372036854775807 then (spec_FormatGroups.l0 kj2 l0 (((((((((x3_2 ++ t582) ++ (⟨#[58]⟩ : ByteArray)) ++ t584) ++ (⟨#[44]⟩ : ByteArray)) ++ t586) ++ (⟨#[44]⟩ : ByteArray)) ++ t588) ++ (⟨#[44]⟩ : ByteArray)) ++ t590) (wrap64 (x4_1 + 1))) else (none))) else (none)) else (none))) else (none)) else (none))) else (none)) else (none)) = some r := H
                    have A11 := Aside0.mk A110
                    clear A110
                    by_cases c12 : ((x3_2 ++ t582) ++ (⟨#[58]⟩ : ByteArray)).size + t584.size ≤ 9223372036854775807
                    · rw [if_pos c12] at H
                      have c12b0 := eq_true c12
                      have c12b1 : decide (((x3_2 ++ t582) ++ (⟨#[58]⟩ : ByteArray)).size + t584.size ≤ 9223372036854775807) = true := decide_eq_true c12
                      try have c12b3 : (9223372036854775807 < x3_2.size + t582.size + 1 + t584.size) = False := eq_false (by have h_ := c12; simp only [ByteArray.size_append] at h_; (first | exact Nat.not_lt.2 h_ | omega))
                      try have c12b2 : (9223372036854775807 < ((x3_2 ++ t582) ++ (⟨#[58]⟩ : ByteArray)).size + t584.size) = False := eq_false (Nat.not_lt.2 c12)
                      by_cases c13 : (((x3_2 ++ t582) ++ (⟨#[58]⟩ : ByteArray)) ++ t584).size + 1 ≤ 9223372036854775807
                      · rw [if_pos c13] at H
                        have c13b0 := eq_true c13
                        have c13b1 : decide ((((x3_2 ++ t582) ++ (⟨#[58]⟩ : ByteArray)) ++ t584).size + 1 ≤ 9223372036854775807) = true := decide_eq_true c13
                        try have c13b3 : (9223372036854775807 < x3_2.size + t582.size + 1 + t584.size + 1) = False := eq_false (by have h_ := c13; simp only [ByteArray.size_append] at h_; (first | exact Nat.not_lt.2 h_ | omega))
                        try have c13b2 : (9223372036854775807 < (((x3_2 ++ t582) ++ (⟨#[58]⟩ : ByteArray)) ++ t584).size + 1) = False := eq_false (Nat.not_lt.2 c13)
                        replace H := Option.bind_eq_some_iff.mp H
                        obtain ⟨t586, A140, H⟩ := H
                        replace H : (if ((((x3_2 ++ t582) ++ (⟨#[58]⟩ : ByteArray)) ++ t584) ++ (⟨#[44]⟩ : ByteArray)).size + t586.size ≤ 9223372036854775807 then (if (((((x3_2 ++ t582) ++ (⟨#[58]⟩ : ByteArray)) ++ t584) ++ (⟨#[44]⟩ : ByteArray)) ++ t586).size + 1 ≤ 9223372036854775807 then ((spec_FormatInt.f kj2 ((rd_T60 l0 x4_1).f3)).bind fun t588 => (if ((((((x3_2 ++ t582) ++ (⟨#[58]⟩ : ByteArray)) ++ t584) ++ (⟨#[44]⟩ : ByteArray)) ++ t586) ++ (⟨#[44]⟩ : ByteArray)).size + t588.size ≤ 9223372036854775807 then (if (((((((x3_2 ++ t582) ++ (⟨#[58]⟩ : ByteArray)) ++ t584) ++ (⟨#[44]⟩ : ByteArray)) ++ t586) ++ (⟨#[44]⟩ : ByteArray)) ++ t588).size + 1 ≤ 9223372036854775807 then ((spec_FormatInt.f kj2 ((rd_T60 l0 x4_1).f4)).bind fun t590 => (if ((((((((x3_2 ++ t582) ++ (⟨#[58]⟩ : ByteArray)) ++ t584) ++ (⟨#[44]⟩ : ByteArray)) ++ t586) ++ (⟨#[44]⟩ : ByteArray)) ++ t588) ++ (⟨#[44]⟩ : ByteArray)).size + t590.size ≤ 9223372036854775807 then (spec_FormatGroups.l0 kj2 l0 (((((((((x3_2 ++ t582) ++ (⟨#[58]⟩ : ByteArray)) ++ t584) ++ (⟨#[44]⟩ : ByteArray)) ++ t586) ++ (⟨#[44]⟩ : ByteArray)) ++ t588) ++ (⟨#[44]⟩ : ByteArray)) ++ t590) (wrap64 (x4_1 + 1))) else (none))) else (none)) else (none))) else (none)) else (none)) = some r := H
                        have A14 := Aside0.mk A140
                        clear A140
                        by_cases c15 : ((((x3_2 ++ t582) ++ (⟨#[58]⟩ : ByteArray)) ++ t584) ++ (⟨#[44]⟩ : ByteArray)).size + t586.size ≤ 9223372036854775807
                        · rw [if_pos c15] at H
                          have c15b0 := eq_true c15
                          have c15b1 : decide (((((x3_2 ++ t582) ++ (⟨#[58]⟩ : ByteArray)) ++ t584) ++ (⟨#[44]⟩ : ByteArray)).size + t586.size ≤ 9223372036854775807) = true := decide_eq_true c15
                          try have c15b3 : (9223372036854775807 < x3_2.size + t582.size + 1 + t584.size + 1 + t586.size) = False := eq_false (by have h_ := c15; simp only [ByteArray.size_append] at h_; (first | exact Nat.not_lt.2 h_ | omega))
                          try have c15b2 : (9223372036854775807 < ((((x3_2 ++ t582) ++ (⟨#[58]⟩ : ByteArray)) ++ t584) ++ (⟨#[44]⟩ : ByteArray)).size + t586.size) = False := eq_false (Nat.not_lt.2 c15)
                          by_cases c16 : (((((x3_2 ++ t582) ++ (⟨#[58]⟩ : ByteArray)) ++ t584) ++ (⟨#[44]⟩ : ByteArray)) ++ t586).size + 1 ≤ 9223372036854775807
                          · rw [if_pos c16] at H
                            have c16b0 := eq_true c16
                            have c16b1 : decide ((((((x3_2 ++ t582) ++ (⟨#[58]⟩ : ByteArray)) ++ t584) ++ (⟨#[44]⟩ : ByteArray)) ++ t586).size + 1 ≤ 9223372036854775807) = true := decide_eq_true c16
                            try have c16b3 : (9223372036854775807 < x3_2.size + t582.size + 1 + t584.size + 1 + t586.size + 1) = False := eq_false (by have h_ := c16; simp only [ByteArray.size_append] at h_; (first | exact Nat.not_lt.2 h_ | omega))
                            try have c16b2 : (9223372036854775807 < (((((x3_2 ++ t582) ++ (⟨#[58]⟩ : ByteArray)) ++ t584) ++ (⟨#[44]⟩ : ByteArray)) ++ t586).size + 1) = False := eq_false (Nat.not_lt.2 c16)
                            replace H := Option.bind_eq_some_iff.mp H
                            obtain ⟨t588, A170, H⟩ := H
                            replace H : (if ((((((x3_2 ++ t582) ++ (⟨#[58]⟩ : ByteArray)) ++ t584) ++ (⟨#[44]⟩ : ByteArray)) ++ t586) ++ (⟨#[44]⟩ : ByteArray)).size + t588.size ≤ 9223372036854775807 then (if (((((((x3_2 ++ t582) ++ (⟨#[58]⟩ : ByteArray)) ++ t584) ++ (⟨#[44]⟩ : ByteArray)) ++ t586) ++ (⟨#[44]⟩ : ByteArray)) ++ t588).size + 1 ≤ 9223372036854775807 then ((spec_FormatInt.f kj2 ((rd_T60 l0 x4_1).f4)).bind fun t590 => (if ((((((((x3_2 ++ t582) ++ (⟨#[58]⟩ : ByteArray)) ++ t584) ++ (⟨#[44]⟩ : ByteArray)) ++ t586) ++ (⟨#[44]⟩ : ByteArray)) ++ t588) ++ (⟨#[44]⟩ : ByteArray)).size + t590.size ≤ 9223372036854775807 then (spec_FormatGroups.l0 kj2 l0 (((((((((x3_2 ++ t582) ++ (⟨#[58]⟩ : ByteArray)) ++ t584) ++ (⟨#[44]⟩ : ByteArray)) ++ t586) ++ (⟨#[44]⟩ : ByteArray)) ++ t588) ++ (⟨#[44]⟩ : ByteArray)) ++ t590) (wrap64 (x4_1 + 1))) else (none))) else (none)) else (none)) = some r := H
                            have A17 := Aside0.mk A170
                            clear A170
                            by_cases c18 : ((((((x3_2 ++ t582) ++ (⟨#[58]⟩ : ByteArray)) ++ t584) ++ (⟨#[44]⟩ : ByteArray)) ++ t586) ++ (⟨#[44]⟩ : ByteArray)).size + t588.size ≤ 9223372036854775807
                            · rw [if_pos c18] at H
                              have c18b0 := eq_true c18
                              have c18b1 : decide (((((((x3_2 ++ t582) ++ (⟨#[58]⟩ : ByteArray)) ++ t584) ++ (⟨#[44]⟩ : ByteArray)) ++ t586) ++ (⟨#[44]⟩ : ByteArray)).size + t588.size ≤ 9223372036854775807) = true := decide_eq_true c18
                              try have c18b3 : (9223372036854775807 < x3_2.size + t582.size + 1 + t584.size + 1 + t586.size + 1 + t588.size) = False := eq_false (by have h_ := c18; simp only [ByteArray.size_append] at h_; (first | exact Nat.not_lt.2 h_ | omega))
                              try have c18b2 : (9223372036854775807 < ((((((x3_2 ++ t582) ++ (⟨#[58]⟩ : ByteArray)) ++ t584) ++ (⟨#[44]⟩ : ByteArray)) ++ t586) ++ (⟨#[44]⟩ : ByteArray)).size + t588.size) = False := eq_false (Nat.not_lt.2 c18)
                              by_cases c19 : (((((((x3_2 ++ t582) ++ (⟨#[58]⟩ : ByteArray)) ++ t584) ++ (⟨#[44]⟩ : ByteArray)) ++ t586) ++ (⟨#[44]⟩ : ByteArray)) ++ t588).size + 1 ≤ 9223372036854775807
                              · rw [if_pos c19] at H
                                have c19b0 := eq_true c19
                                have c19b1 : decide ((((((((x3_2 ++ t582) ++ (⟨#[58]⟩ : ByteArray)) ++ t584) ++ (⟨#[44]⟩ : ByteArray)) ++ t586) ++ (⟨#[44]⟩ : ByteArray)) ++ t588).size + 1 ≤ 9223372036854775807) = true := decide_eq_true c19
                                try have c19b3 : (9223372036854775807 < x3_2.size + t582.size + 1 + t584.size + 1 + t586.size + 1 + t588.size + 1) = False := eq_false (by have h_ := c19; simp only [ByteArray.size_append] at h_; (first | exact Nat.not_lt.2 h_ | omega))
                                try have c19b2 : (9223372036854775807 < (((((((x3_2 ++ t582) ++ (⟨#[58]⟩ : ByteArray)) ++ t584) ++ (⟨#[44]⟩ : ByteArray)) ++ t586) ++ (⟨#[44]⟩ : ByteArray)) ++ t588).size + 1) = False := eq_false (Nat.not_lt.2 c19)
                                replace H := Option.bind_eq_some_iff.mp H
                                obtain ⟨t590, A200, H⟩ := H
                                replace H : (if ((((((((x3_2 ++ t582) ++ (⟨#[58]⟩ : ByteArray)) ++ t584) ++ (⟨#[44]⟩ : ByteArray)) ++ t586) ++ (⟨#[44]⟩ : ByteArray)) ++ t588) ++ (⟨#[44]⟩ : ByteArray)).size + t590.size ≤ 9223372036854775807 then (spec_FormatGroups.l0 kj2 l0 (((((((((x3_2 ++ t582) ++ (⟨#[58]⟩ : ByteArray)) ++ t584) ++ (⟨#[44]⟩ : ByteArray)) ++ t586) ++ (⟨#[44]⟩ : ByteArray)) ++ t588) ++ (⟨#[44]⟩ : ByteArray)) ++ t590) (wrap64 (x4_1 + 1))) else (none)) = some r := H
                                have A20 := Aside0.mk A200
                                clear A200
                                by_cases c21 : ((((((((x3_2 ++ t582) ++ (⟨#[58]⟩ : ByteArray)) ++ t584) ++ (⟨#[44]⟩ : ByteArray)) ++ t586) ++ (⟨#[44]⟩ : ByteArray)) ++ t588) ++ (⟨#[44]⟩ : ByteArray)).size + t590.size ≤ 9223372036854775807
                                · rw [if_pos c21] at H
                                  have c21b0 := eq_true c21
                                  have c21b1 : decide (((((((((x3_2 ++ t582) ++ (⟨#[58]⟩ : ByteArray)) ++ t584) ++ (⟨#[44]⟩ : ByteArray)) ++ t586) ++ (⟨#[44]⟩ : ByteArray)) ++ t588) ++ (⟨#[44]⟩ : ByteArray)).size + t590.size ≤ 9223372036854775807) = true := decide_eq_true c21
                                  try have c21b3 : (9223372036854775807 < x3_2.size + t582.size + 1 + t584.size + 1 + t586.size + 1 + t588.size + 1 + t590.size) = False := eq_false (by have h_ := c21; simp only [ByteArray.size_append] at h_; (first | exact Nat.not_lt.2 h_ | omega))
                                  try have c21b2 : (9223372036854775807 < ((((((((x3_2 ++ t582) ++ (⟨#[58]⟩ : ByteArray)) ++ t584) ++ (⟨#[44]⟩ : ByteArray)) ++ t586) ++ (⟨#[44]⟩ : ByteArray)) ++ t588) ++ (⟨#[44]⟩ : ByteArray)).size + t590.size) = False := eq_false (Nat.not_lt.2 c21)
                                  have H' := Aside0.mk H
                                  clear H
                                  try go_wp2
                                  have n0_ := Aside0.mk (below_drew1 HB.out)
                                  clear HB
                                  have HB := n0_
                                  clear n0_
                                  have p581 : 0 ≤ (x4_1 : Int) := of_decide_eq_true (by first | (with_reducible assumption) | assumption)
                                  have q581 : x4_1 < (l0.length : Int) := of_decide_eq_true (by first | (with_reducible assumption) | assumption)
                                  obtain ⟨ad581, e581, hx581_0, hx581_1, hx581_2, hx581_3, hx581_4⟩ := at_T60 HR0.out x4_1 p581 q581
                                  have hw581_4 := hx581_4
                                  have hw581_3 := hx581_3
                                  have hw581_2 := hx581_2
                                  have hw581_1 := hx581_1
                                  have hw581_0 := hx581_0
                                  cases e581
                                  replace hx581_0 := (HB.out.cell (World.block_lt_of_cell? w _ hx581_0)).trans hx581_0
                                  replace hx581_1 := (HB.out.cell (World.block_lt_of_cell? w _ hx581_1)).trans hx581_1
                                  replace hx581_2 := (HB.out.cell (World.block_lt_of_cell? w _ hx581_2)).trans hx581_2
                                  replace hx581_3 := (HB.out.cell (World.block_lt_of_cell? w _ hx581_3)).trans hx581_3
                                  replace hx581_4 := (HB.out.cell (World.block_lt_of_cell? w _ hx581_4)).trans hx581_4
                                  replace p581 := eq_true p581
                                  replace q581 := eq_true q581
                                  have p583 : 0 ≤ (x4_1 : Int) := of_decide_eq_true (by first | (with_reducible assumption) | assumption)
                                  have q583 : x4_1 < (l0.length : Int) := of_decide_eq_true (by first | (with_reducible assumption) | assumption)
                                  obtain ⟨ad583, e583, hx583_0, hx583_1, hx583_2, hx583_3, hx583_4⟩ := at_T60 HR0.out x4_1 p583 q583
                                  have hw583_4 := hx583_4
                                  have hw583_3 := hx583_3
                                  have hw583_2 := hx583_2
                                  have hw583_1 := hx583_1
                                  have hw583_0 := hx583_0
                                  obtain rfl : ad581 = ad583 := (by injection e583)
                                  replace hx583_0 := (HB.out.cell (World.block_lt_of_cell? w _ hx583_0)).trans hx583_0
                                  replace hx583_1 := (HB.out.cell (World.block_lt_of_cell? w _ hx583_1)).trans hx583_1
                                  replace hx583_2 := (HB.out.cell (World.block_lt_of_cell? w _ hx583_2)).trans hx583_2
                                  replace hx583_3 := (HB.out.cell (World.block_lt_of_cell? w _ hx583_3)).trans hx583_3
                                  replace hx583_4 := (HB.out.cell (World.block_lt_of_cell? w _ hx583_4)).trans hx583_4
                                  replace p583 := eq_true p583
                                  replace q583 := eq_true q583
                                  have p585 : 0 ≤ (x4_1 : Int) := of_decide_eq_true (by first | (with_reducible assumption) | assumption)
                                  have q585 : x4_1 < (l0.length : Int) := of_decide_eq_true (by first | (with_reducible assumption) | assumption)
                                  obtain ⟨ad585, e585, hx585_0, hx585_1, hx585_2, hx585_3, hx585_4⟩ := at_T60 HR0.out x4_1 p585 q585
                                  have hw585_4 := hx585_4
                                  have hw585_3 := hx585_3
                                  have hw585_2 := hx585_2
                                  have hw585_1 := hx585_1
                                  have hw585_0 := hx585_0
                                  obtain rfl : ad581 = ad585 := (by injection e585)
                                  replace hx585_0 := (HB.out.cell (World.block_lt_of_cell? w _ hx585_0)).trans hx585_0
                                  replace hx585_1 := (HB.out.cell (World.block_lt_of_cell? w _ hx585_1)).trans hx585_1
                                  replace hx585_2 := (HB.out.cell (World.block_lt_of_cell? w _ hx585_2)).trans hx585_2
                                  replace hx585_3 := (HB.out.cell (World.block_lt_of_cell? w _ hx585_3)).trans hx585_3
                                  replace hx585_4 := (HB.out.cell (World.block_lt_of_cell? w _ hx585_4)).trans hx585_4
                                  replace p585 := eq_true p585
                                  replace q585 := eq_true q585
                                  have p587 : 0 ≤ (x4_1 : Int) := of_decide_eq_true (by first | (with_reducible assumption) | assumption)
                                  have q587 : x4_1 < (l0.length : Int) := of_decide_eq_true (by first | (with_reducible assumption) | assumption)
                                  obtain ⟨ad587, e587, hx587_0, hx587_1, hx587_2, hx587_3, hx587_4⟩ := at_T60 HR0.out x4_1 p587 q587
                                  have hw587_4 := hx587_4
                                  have hw587_3 := hx587_3
                                  have hw587_2 := hx587_2
                                  have hw587_1 := hx587_1
                                  have hw587_0 := hx587_0
                                  obtain rfl : ad581 = ad587 := (by injection e587)
                                  replace hx587_0 := (HB.out.cell (World.block_lt_of_cell? w _ hx587_0)).trans hx587_0
                                  replace hx587_1 := (HB.out.cell (World.block_lt_of_cell? w _ hx587_1)).trans hx587_1
                                  replace hx587_2 := (HB.out.cell (World.block_lt_of_cell? w _ hx587_2)).trans hx587_2
                                  replace hx587_3 := (HB.out.cell (World.block_lt_of_cell? w _ hx587_3)).trans hx587_3
                                  replace hx587_4 := (HB.out.cell (World.block_lt_of_cell? w _ hx587_4)).trans hx587_4
                                  replace p587 := eq_true p587
                                  replace q587 := eq_true q587
                                  have p589 : 0 ≤ (x4_1 : Int) := of_decide_eq_true (by first | (with_reducible assumption) | assumption)
                                  have q589 : x4_1 < (l0.length : Int) := of_decide_eq_true (by first | (with_reducible assumption) | assumption)
                                  obtain ⟨ad589, e589, hx589_0, hx589_1, hx589_2, hx589_3, hx589_4⟩ := at_T60 HR0.out x4_1 p589 q589
                                  have hw589_4 := hx589_4
                                  have hw589_3 := hx589_3
                                  have hw589_2 := hx589_2
                                  have hw589_1 := hx589_1
                                  have hw589_0 := hx589_0
                                  obtain rfl : ad581 = ad589 := (by injection e589)
                                  replace hx589_0 := (HB.out.cell (World.block_lt_of_cell? w _ hx589_0)).trans hx589_0
                                  replace hx589_1 := (HB.out.cell (World.block_lt_of_cell? w _ hx589_1)).trans hx589_1
                                  replace hx589_2 := (HB.out.cell (World.block_lt_of_cell? w _ hx589_2)).trans hx589_2
                                  replace hx589_3 := (HB.out.cell (World.block_lt_of_cell? w _ hx589_3)).trans hx589_3
                                  replace hx589_4 := (HB.out.cell (World.block_lt_of_cell? w _ hx589_4)).trans hx589_4
                                  replace p589 := eq_true p589
                                  replace q589 := eq_true q589
                                  refine start_ (n := 41) (S := fun w' => w'.cell? (ad581.add ((x4_1).toNat * 5)) = some (.int .i64 ((rd_T60 l0 x4_1).f0)) ∧ w'.cell? ⟨(ad581.add ((x4_1).toNat * 5)).block, (ad581.add ((x4_1).toNat * 5)).off + 1, none⟩ = some (.int .i64 ((rd_T60 l0 x4_1).f1)) ∧ w'.cell? ⟨(ad581.add ((x4_1).toNat * 5)).block, (ad581.add ((x4_1).toNat * 5)).off + 2, none⟩ = some (.int .i64 ((rd_T60 l0 x4_1).f2)) ∧ w'.cell? ⟨(ad581.add ((x4_1).toNat * 5)).block, (ad581.add ((x4_1).toNat * 5)).off + 3, none⟩ = some (.int .i64 ((rd_T60 l0 x4_1).f3)) ∧ w'.cell? ⟨(ad581.add ((x4_1).toNat * 5)).block, (ad581.add ((x4_1).toNat * 5)).off + 4, none⟩ = some (.int .i64 ((rd_T60 l0 x4_1).f4)) ∧ w'.cell? (ad581.add ((x4_1).toNat * 5)) = some (.int .i64 ((rd_T60 l0 x4_1).f0)) ∧ w'.cell? ⟨(ad581.add ((x4_1).toNat * 5)).block, (ad581.add ((x4_1).toNat * 5)).off + 1, none⟩ = some (.int .i64 ((rd_T60 l0 x4_1).f1)) ∧ w'.cell? ⟨(ad581.add ((x4_1).toNat * 5)).block, (ad581.add ((x4_1).toNat * 5)).off + 2, none⟩ = some (.int .i64 ((rd_T60 l0 x4_1).f2)) ∧ w'.cell? ⟨(ad581.add ((x4_1).toNat * 5)).block, (ad581.add ((x4_1).toNat * 5)).off + 3, none⟩ = some (.int .i64 ((rd_T60 l0 x4_1).f3)) ∧ w'.cell? ⟨(ad581.add ((x4_1).toNat * 5)).block, (ad581.add ((x4_1).toNat * 5)).off + 4, none⟩ = some (.int .i64 ((rd_T60 l0 x4_1).f4)) ∧ w'.cell? (ad581.add ((x4_1).toNat * 5)) = some (.int .i64 ((rd_T60 l0 x4_1).f0)) ∧ w'.cell? ⟨(ad581.add ((x4_1).toNat * 5)).block, (ad581.add ((x4_1).toNat * 5)).off + 1, none⟩ = some (.int .i64 ((rd_T60 l0 x4_1).f1)) ∧ w'.cell? ⟨(ad581.add ((x4_1).toNat * 5)).block, (ad581.add ((x4_1).toNat * 5)).off + 2, none⟩ = some (.int .i64 ((rd_T60 l0 x4_1).f2)) ∧ w'.cell? ⟨(ad581.add ((x4_1).toNat * 5)).block, (ad581.add ((x4_1).toNat * 5)).off + 3, none⟩ = some (.int .i64 ((rd_T60 l0 x4_1).f3)) ∧ w'.cell? ⟨(ad581.add ((x4_1).toNat * 5)).block, (ad581.add ((x4_1).toNat * 5)).off + 4, none⟩ = some (.int .i64 ((rd_T60 l0 x4_1).f4)) ∧ w'.cell? (ad581.add ((x4_1).toNat * 5)) = some (.int .i64 ((rd_T60 l0 x4_1).f0)) ∧ w'.cell? ⟨(ad581.add ((x4_1).toNat * 5)).block, (ad581.add ((x4_1).toNat * 5)).off + 1, none⟩ = some (.int .i64 ((rd_T60 l0 x4_1).f1)) ∧ w'.cell? ⟨(ad581.add ((x4_1).toNat * 5)).block, (ad581.add ((x4_1).toNat * 5)).off + 2, none⟩ = some (.int .i64 ((rd_T60 l0 x4_1).f2)) ∧ w'.cell? ⟨(ad581.add ((x4_1).toNat * 5)).block, (ad581.add ((x4_1).toNat * 5)).off + 3, none⟩ = some (.int .i64 ((rd_T60 l0 x4_1).f3)) ∧ w'.cell? ⟨(ad581.add ((x4_1).toNat * 5)).block, (ad581.add ((x4_1).toNat * 5)).off + 4, none⟩ = some (.int .i64 ((rd_T60 l0 x4_1).f4)) ∧ w'.cell? (ad581.add ((x4_1).toNat * 5)) = some (.int .i64 ((rd_T60 l0 x4_1).f0)) ∧ w'.cell? ⟨(ad581.add ((x4_1).toNat * 5)).block, (ad581.add ((x4_1).toNat * 5)).off + 1, none⟩ = some (.int .i64 ((rd_T60 l0 x4_1).f1)) ∧ w'.cell? ⟨(ad581.add ((x4_1).toNat * 5)).block, (ad581.add ((x4_1).toNat * 5)).off + 2, none⟩ = some (.int .i64 ((rd_T60 l0 x4_1).f2)) ∧ w'.cell? ⟨(ad581.add ((x4_1).toNat * 5)).block, (ad581.add ((x4_1).toNat * 5)).off + 3, none⟩ = some (.int .i64 ((rd_T60 l0 x4_1).f3)) ∧ w'.cell? ⟨(ad581.add ((x4_1).toNat * 5)).block, (ad581.add ((x4_1).toNat * 5)).off + 4, none⟩ = some (.int .i64 ((rd_T60 l0 x4_1).f4))) (ds := []) #[false, false, false, false, false, false, false, false, false, false, false, false, false, false, false, false, false, false, false, false, false, false, false, false, false, false, false, false, false, false, false, false, false, false, false, false, false, false, false, false, false] (by kernel_rfl) rfl rfl ⟨((HB.out.cell (World.block_lt_of_cell? w _ hw581_0)).trans hw581_0), ((HB.out.cell (World.block_lt_of_cell? w _ hw581_1)).trans hw581_1), ((HB.out.cell (World.block_lt_of_cell? w _ hw581_2)).trans hw581_2), ((HB.out.cell (World.block_lt_of_cell? w _ hw581_3)).trans hw581_3), ((HB.out.cell (World.block_lt_of_cell? w _ hw581_4)).trans hw581_4), ((HB.out.cell (World.block_lt_of_cell? w _ hw583_0)).trans hw583_0), ((HB.out.cell (World.block_lt_of_cell? w _ hw583_1)).trans hw583_1), ((HB.out.cell (World.block_lt_of_cell? w _ hw583_2)).trans hw583_2), ((HB.out.cell (World.block_lt_of_cell? w _ hw583_3)).trans hw583_3), ((HB.out.cell (World.block_lt_of_cell? w _ hw583_4)).trans hw583_4), ((HB.out.cell (World.block_lt_of_cell? w _ hw585_0)).trans hw585_0), ((HB.out.cell (World.block_lt_of_cell? w _ hw585_1)).trans hw585_1), ((HB.out.cell (World.block_lt_of_cell? w _ hw585_2)).trans hw585_2), ((HB.out.cell (World.block_lt_of_cell? w _ hw585_3)).trans hw585_3), ((HB.out.cell (World.block_lt_of_cell? w _ hw585_4)).trans hw585_4), ((HB.out.cell (World.block_lt_of_cell? w _ hw587_0)).trans hw587_0), ((HB.out.cell (World.block_lt_of_cell? w _ hw587_1)).trans hw587_1), ((HB.out.cell (World.block_lt_of_cell? w _ hw587_2)).trans hw587_2), ((HB.out.cell (World.block_lt_of_cell? w _ hw587_3)).trans hw587_3), ((HB.out.cell (World.block_lt_of_cell? w _ hw587_4)).trans hw587_4), ((HB.out.cell (World.block_lt_of_cell? w _ hw589_0)).trans hw589_0), ((HB.out.cell (World.block_lt_of_cell? w _ hw589_1)).trans hw589_1), ((HB.out.cell (World.block_lt_of_cell? w _ hw589_2)).trans hw589_2), ((HB.out.cell (World.block_lt_of_cell? w _ hw589_3)).trans hw589_3), ((HB.out.cell (World.block_lt_of_cell? w _ hw589_4)).trans hw589_4)⟩ (fun hHeld => ?_); refine with_tabW spec_FormatGroups.tab7 spec_FormatGroups.bits7 (fun HT_ HW_ => ?_)
                                  generalize wc.drew = w22 at HB hx581_0 hx581_1 hx581_2 hx581_3 hx581_4 hx583_0 hx583_1 hx583_2 hx583_3 hx583_4 hx585_0 hx585_1 hx585_2 hx585_3 hx585_4 hx587_0 hx587_1 hx587_2 hx587_3 hx587_4 hx589_0 hx589_1 hx589_2 hx589_3 hx589_4 hHeld ⊢
                                  refine pure_ (i := 0) (N := some 15) (v := ?_) (a' := ?_) #[true, false, false, false, false, false, false, false, false, false, false, false, false, false, false, false, false, false, false, false, false, false, false, false, false, false, false, false, false, false, false, false, false, false, false, false, false, false, false, false, false] rfl rfl (any_of HT_.out (by kernel_rfl)) (fun _ _ _ h => h) (Or.inl ⟨by rfl, ?_⟩) ?_ ?_
                                  rotate_left
                                  · intro w'
                                    go_simp
                                    with_reducible rfl
                                  rotate_left
                                  · simp only [Act.put, List.setIfInBounds_toArray, List.set_cons_zero, List.set_cons_succ, i64_w, i32_w]
                                    rfl
                                  refine pure_ (i := 1) (N := some 16) (v := ?_) (a' := ?_) #[true, true, false, false, false, false, false, false, false, false, false, false, false, false, false, false, false, false, false, false, false, false, false, false, false, false, false, false, false, false, false, false, false, false, false, false, false, false, false, false, false] rfl rfl (any_of HT_.out (by kernel_rfl)) (fun _ _ _ h => h) (Or.inl ⟨by rfl, ?_⟩) ?_ ?_
                                  rotate_left
                                  · intro w'
                                    go_simp
                                    with_reducible rfl
                                  rotate_left
                                  · simp only [Act.put, List.setIfInBounds_toArray, List.set_cons_zero, List.set_cons_succ, i64_w, i32_w]
                                    rfl
                                  refine pure_ (i := 2) (N := some 17) (v := ?_) (a' := ?_) #[true, true, true, false, false, false, false, false, false, false, false, false, false, false, false, false, false, false, false, false, false, false, false, false, false, false, false, false, false, false, false, false, false, false, false, false, false, false, false, false, false] rfl rfl (any_of HT_.out (by kernel_rfl)) (fun _ _ _ h => h) (Or.inl ⟨by rfl, ?_⟩) ?_ ?_
                                  rotate_left
                                  · intro w'
                                    go_simp
                                    with_reducible rfl
                                  rotate_left
                                  · simp only [Act.put, List.setIfInBounds_toArray, List.set_cons_zero, List.set_cons_succ, i64_w, i32_w]
                                    rfl
                                  refine pure_ (i := 3) (N := some 18) (v := ?_) (a' := ?_) #[true, true, true, true, false, false, false, false, false, false, false, false, false, false, false, false, false, false, false, false, false, false, false, false, false, false, false, false, false, false, false, false, false, false, false, false, false, false, false, false, false] rfl rfl (any_of HT_.out (by kernel_rfl)) (fun _ _ _ h => h) (Or.inl ⟨by rfl, ?_⟩) ?_ ?_
                                  rotate_left
                                  · intro w'
                                    go_simp
                                    with_reducible rfl
                                  rotate_left
                                  · simp only [Act.put, List.setIfInBounds_toArray, List.set_cons_zero, List.set_cons_succ, i64_w, i32_w]
                                    rfl
                                  refine pure_ (i := 4) (N := some 19) (v := ?_) (a' := ?_) #[true, true, true, true, true, false, false, false, false, false, false, false, false, false, false, false, false, false, false, false, false, false, false, false, false, false, false, false, false, false, false, false, false, false, false, false, false, false, false, false, false] rfl rfl (any_of HT_.out (by kernel_rfl)) (fun _ _ _ h => h) (Or.inl ⟨by rfl, ?_⟩) ?_ ?_
                                  rotate_left
                                  · intro w'
                                    go_simp
                                    with_reducible rfl
                                  rotate_left
                                  · simp only [Act.put, List.setIfInBounds_toArray, List.set_cons_zero, List.set_cons_succ, i64_w, i32_w]
                                    rfl
                                  refine pure_ (i := 9) (N := some 24) (v := ?_) (a' := ?_) #[true, true, true, true, true, false, false, false, false, true, false, false, false, false, false, false, false, false, false, false, false, false, false, false, false, false, false, false, false, false, false, false, false, false, false, false, false, false, false, false, false] rfl rfl (any_of HT_.out (by kernel_rfl)) (fun _ _ _ h => h) (Or.inl ⟨by rfl, ?_⟩) ?_ ?_
                                  rotate_left
                                  · intro w'
                                    go_simp
                                    with_reducible rfl
                                  rotate_left
                                  · simp only [Act.put, List.setIfInBounds_toArray, List.set_cons_zero, List.set_cons_succ, i64_w, i32_w]
                                    rfl
                                  refine pure_ (i := 10) (N := some 25) (v := ?_) (a' := ?_) #[true, true, true, true, true, false, false, false, false, true, true, false, false, false, false, false, false, false, false, false, false, false, false, false, false, false, false, false, false, false, false, false, false, false, false, false, false, false, false, false, false] rfl rfl (any_of HT_.out (by kernel_rfl)) (fun _ _ _ h => h) (Or.inl ⟨by rfl, ?_⟩) ?_ ?_
                                  rotate_left
                                  · intro w'
                                    go_simp
                                    with_reducible rfl
                                  rotate_left
                                  · simp only [Act.put, List.setIfInBounds_toArray, List.set_cons_zero, List.set_cons_succ, i64_w, i32_w]
                                    rfl
                                  refine pure_ (i := 11) (N := some 26) (v := ?_) (a' := ?_) #[true, true, true, true, true, false, false, false, false, true, true, true, false, false, false, false, false, false, false, false, false, false, false, false, false, false, false, false, false, false, false, false, false, false, false, false, false, false, false, false, false] rfl rfl (any_of HT_.out (by kernel_rfl)) (fun _ _ _ h => h) (Or.inl ⟨by rfl, ?_⟩) ?_ ?_
                                  rotate_left
                                  · intro w'
                                    go_simp
                                    with_reducible rfl
                                  rotate_left
                                  · simp only [Act.put, List.setIfInBounds_toArray, List.set_cons_zero, List.set_cons_succ, i64_w, i32_w]
                                    rfl
                                  refine pure_ (i := 12) (N := some 27) (v := ?_) (a' := ?_) #[true, true, true, true, true, false, false, false, false, true, true, true, true, false, false, false, false, false, false, false, false, false, false, false, false, false, false, false, false, false, false, false, false, false, false, false, false, false, false, false, false] rfl rfl (any_of HT_.out (by kernel_rfl)) (fun _ _ _ h => h) (Or.inl ⟨by rfl, ?_⟩) ?_ ?_
                                  rotate_left
                                  · intro w'
                                    go_simp
                                    with_reducible rfl
                                  rotate_left
                                  · simp only [Act.put, List.setIfInBounds_toArray, List.set_cons_zero, List.set_cons_succ, i64_w, i32_w]
                                    rfl
                                  refine pure_ (i := 17) (N := some 32) (v := ?_) (a' := ?_) #[true, true, true, true, true, false, false, false, false, true, true, true, true, false, false, false, false, true, false, false, false, false, false, false, false, false, false, false, false, false, false, false, false, false, false, false, false, false, false, false, false] rfl rfl (any_of HT_.out (by kernel_rfl)) (fun _ _ _ h => h) (Or.inl ⟨by rfl, ?_⟩) ?_ ?_
                                  rotate_left
                                  · intro w'
                                    go_simp
                                    with_reducible rfl
                                  rotate_left
                                  · simp only [Act.put, List.setIfInBounds_toArray, List.set_cons_zero, List.set_cons_succ, i64_w, i32_w]
                                    rfl
                                  refine pure_ (i := 18) (N := some 33) (v := ?_) (a' := ?_) #[true, true, true, true, true, false, false, false, false, true, true, true, true, false, false, false, false, true, true, false, false, false, false, false, false, false, false, false, false, false, false, false, false, false, false, false, false, false, false, false, false] rfl rfl (any_of HT_.out (by kernel_rfl)) (fun _ _ _ h => h) (Or.inl ⟨by rfl, ?_⟩) ?_ ?_
                                  rotate_left
                                  · intro w'
                                    go_simp
                                    with_reducible rfl
                                  rotate_left
                                  · simp only [Act.put, List.setIfInBounds_toArray, List.set_cons_zero, List.set_cons_succ, i64_w, i32_w]
                                    rfl
                                  refine pure_ (i := 19) (N := some 34) (v := ?_) (a' := ?_) #[true, true, true, true, true, false, false, false, false, true, true, true, true, false, false, false, false, true, true, true, false, false, false, false, false, false, false, false, false, false, false, false, false, false, false, false, false, false, false, false, false] rfl rfl (any_of HT_.out (by kernel_rfl)) (fun _ _ _ h => h) (Or.inl ⟨by rfl, ?_⟩) ?_ ?_
                                  rotate_left
                                  · intro w'
                                    go_simp
                                    with_reducible rfl
                                  rotate_left
                                  · simp only [Act.put, List.setIfInBounds_toArray, List.set_cons_zero, List.set_cons_succ, i64_w, i32_w]
                                    rfl
                                  refine pure_ (i := 20) (N := some 35) (v := ?_) (a' := ?_) #[true, true, true, true, true, false, false, false, false, true, true, true, true, false, false, false, false, true, true, true, true, false, false, false, false, false, false, false, false, false, false, false, false, false, false, false, false, false, false, false, false] rfl rfl (any_of HT_.out (by kernel_rfl)) (fun _ _ _ h => h) (Or.inl ⟨by rfl, ?_⟩) ?_ ?_
                                  rotate_left
                                  · intro w'
                                    go_simp
                                    with_reducible rfl
                                  rotate_left
                                  · simp only [Act.put, List.setIfInBounds_toArray, List.set_cons_zero, List.set_cons_succ, i64_w, i32_w]
                                    rfl
                                  refine pure_ (i := 25) (N := some 40) (v := ?_) (a' := ?_) #[true, true, true, true, true, false, false, false, false, true, true, true, true, false, false, false, false, true, true, true, true, false, false, false, false, true, false, false, false, false, false, false, false, false, false, false, false, false, false, false, false] rfl rfl (any_of HT_.out (by kernel_rfl)) (fun _ _ _ h => h) (Or.inl ⟨by rfl, ?_⟩) ?_ ?_
                                  rotate_left
                                  · intro w'
                                    go_simp
                                    with_reducible rfl
                                  rotate_left
                                  · simp only [Act.put, List.setIfInBounds_toArray, List.set_cons_zero, List.set_cons_succ, i64_w, i32_w]
                                    rfl
                                  refine pure_ (i := 26) (N := some 41) (v := ?_) (a' := ?_) #[true, true, true, true, true, false, false, false, false, true, true, true, true, false, false, false, false, true, true, true, true, false, false, false, false, true, true, false, false, false, false, false, false, false, false, false, false, false, false, false, false] rfl rfl (any_of HT_.out (by kernel_rfl)) (fun _ _ _ h => h) (Or.inl ⟨by rfl, ?_⟩) ?_ ?_
                                  rotate_left
                                  · intro w'
                                    go_simp
                                    with_reducible rfl
                                  rotate_left
                                  · simp only [Act.put, List.setIfInBounds_toArray, List.set_cons_zero, List.set_cons_succ, i64_w, i32_w]
                                    rfl
                                  refine pure_ (i := 27) (N := some 42) (v := ?_) (a' := ?_) #[true, true, true, true, true, false, false, false, false, true, true, true, true, false, false, false, false, true, true, true, true, false, false, false, false, true, true, true, false, false, false, false, false, false, false, false, false, false, false, false, false] rfl rfl (any_of HT_.out (by kernel_rfl)) (fun _ _ _ h => h) (Or.inl ⟨by rfl, ?_⟩) ?_ ?_
                                  rotate_left
                                  · intro w'
                                    go_simp
                                    with_reducible rfl
                                  rotate_left
                                  · simp only [Act.put, List.setIfInBounds_toArray, List.set_cons_zero, List.set_cons_succ, i64_w, i32_w]
                                    rfl
                                  refine pure_ (i := 28) (N := some 43) (v := ?_) (a' := ?_) #[true, true, true, true, true, false, false, false, false, true, true, true, true, false, false, false, false, true, true, true, true, false, false, false, false, true, true, true, true, false, false, false, false, false, false, false, false, false, false, false, false] rfl rfl (any_of HT_.out (by kernel_rfl)) (fun _ _ _ h => h) (Or.inl ⟨by rfl, ?_⟩) ?_ ?_
                                  rotate_left
                                  · intro w'
                                    go_simp
                                    with_reducible rfl
                                  rotate_left
                                  · simp only [Act.put, List.setIfInBounds_toArray, List.set_cons_zero, List.set_cons_succ, i64_w, i32_w]
                                    rfl
                                  refine pure_ (i := 33) (N := some 48) (v := ?_) (a' := ?_) #[true, true, true, true, true, false, false, false, false, true, true, true, true, false, false, false, false, true, true, true, true, false, false, false, false, true, true, true, true, false, false, false, false, true, false, false, false, false, false, false, false] rfl rfl (any_of HT_.out (by kernel_rfl)) (fun _ _ _ h => h) (Or.inl ⟨by rfl, ?_⟩) ?_ ?_
                                  rotate_left
                                  · intro w'
                                    go_simp
                                    with_reducible rfl
                                  rotate_left
                                  · simp only [Act.put, List.setIfInBounds_toArray, List.set_cons_zero, List.set_cons_succ, i64_w, i32_w]
                                    rfl
                                  refine pure_ (i := 34) (N := some 49) (v := ?_) (a' := ?_) #[true, true, true, true, true, false, false, false, false, true, true, true, true, false, false, false, false, true, true, true, true, false, false, false, false, true, true, true, true, false, false, false, false, true, true, false, false, false, false, false, false] rfl rfl (any_of HT_.out (by kernel_rfl)) (fun _ _ _ h => h) (Or.inl ⟨by rfl, ?_⟩) ?_ ?_
                                  rotate_left
                                  · intro w'
                                    go_simp
                                    with_reducible rfl
                                  rotate_left
                                  · simp only [Act.put, List.setIfInBounds_toArray, List.set_cons_zero, List.set_cons_succ, i64_w, i32_w]
                                    rfl
                                  refine pure_ (i := 35) (N := some 50) (v := ?_) (a' := ?_) #[true, true, true, true, true, false, false, false, false, true, true, true, true, false, false, false, false, true, true, true, true, false, false, false, false, true, true, true, true, false, false, false, false, true, true, true, false, false, false, false, false] rfl rfl (any_of HT_.out (by kernel_rfl)) (fun _ _ _ h => h) (Or.inl ⟨by rfl, ?_⟩) ?_ ?_
                                  rotate_left
                                  · intro w'
                                    go_simp
                                    with_reducible rfl
                                  rotate_left
                                  · simp only [Act.put, List.setIfInBounds_toArray, List.set_cons_zero, List.set_cons_succ, i64_w, i32_w]
                                    rfl
                                  refine pure_ (i := 36) (N := some 51) (v := ?_) (a' := ?_) #[true, true, true, true, true, false, false, false, false, true, true, true, true, false, false, false, false, true, true, true, true, false, false, false, false, true, true, true, true, false, false, false, false, true, true, true, true, false, false, false, false] rfl rfl (any_of HT_.out (by kernel_rfl)) (fun _ _ _ h => h) (Or.inl ⟨by rfl, ?_⟩) ?_ ?_
                                  rotate_left
                                  · intro w'
                                    go_simp
                                    with_reducible rfl
                                  rotate_left
                                  · simp only [Act.put, List.setIfInBounds_toArray, List.set_cons_zero, List.set_cons_succ, i64_w, i32_w]
                                    rfl
                                  refine take_ (i := 5) (N := some 20) (v := ?_) (a' := ?_) #[true, true, true, true, true, true, false, false, false, true, true, true, true, false, false, false, false, true, true, true, true, false, false, false, false, true, true, true, true, false, false, false, false, true, true, true, true, false, false, false, false] rfl rfl (take_ofW HT_.out HW_.out (by kernel_rfl)) (fun _ _ _ h => h) (Or.inl ⟨by rfl, ?_⟩) hHeld ?_ ?_
                                  rotate_left
                                  · rintro w' ⟨s0, s1, s2, s3, s4, s5, s6, s7, s8, s9, s10, s11, s12, s13, s14, s15, s16, s17, s18, s19, s20, s21, s22, s23, s24⟩
                                    go_simp
                                    with_reducible rfl
                                  rotate_left
                                  · simp only [Act.put, List.setIfInBounds_toArray, List.set_cons_zero, List.set_cons_succ, i64_w, i32_w]
                                    rfl
                                  refine take_ (i := 13) (N := some 28) (v := ?_) (a' := ?_) #[true, true, true, true, true, true, false, false, false, true, true, true, true, true, false, false, false, true, true, true, true, false, false, false, false, true, true, true, true, false, false, false, false, true, true, true, true, false, false, false, false] rfl rfl (take_ofW HT_.out HW_.out (by kernel_rfl)) (fun _ _ _ h => h) (Or.inl ⟨by rfl, ?_⟩) hHeld ?_ ?_
                                  rotate_left
                                  · rintro w' ⟨s0, s1, s2, s3, s4, s5, s6, s7, s8, s9, s10, s11, s12, s13, s14, s15, s16, s17, s18, s19, s20, s21, s22, s23, s24⟩
                                    go_simp
                                    with_reducible rfl
                                  rotate_left
                                  · simp only [Act.put, List.setIfInBounds_toArray, List.set_cons_zero, List.set_cons_succ, i64_w, i32_w]
                                    rfl
                                  refine take_ (i := 21) (N := some 36) (v := ?_) (a' := ?_) #[true, true, true, true, true, true, false, false, false, true, true, true, true, true, false, false, false, true, true, true, true, true, false, false, false, true, true, true, true, false, false, false, false, true, true, true, true, false, false, false, false] rfl rfl (take_ofW HT_.out HW_.out (by kernel_rfl)) (fun _ _ _ h => h) (Or.inl ⟨by rfl, ?_⟩) hHeld ?_ ?_
                                  rotate_left
                                  · rintro w' ⟨s0, s1, s2, s3, s4, s5, s6, s7, s8, s9, s10, s11, s12, s13, s14, s15, s16, s17, s18, s19, s20, s21, s22, s23, s24⟩
                                    go_simp
                                    with_reducible rfl
                                  rotate_left
                                  · simp only [Act.put, List.setIfInBounds_toArray, List.set_cons_zero, List.set_cons_succ, i64_w, i32_w]
                                    rfl
                                  refine take_ (i := 29) (N := some 44) (v := ?_) (a' := ?_) #[true, true, true, true, true, true, false, false, false, true, true, true, true, true, false, false, false, true, true, true, true, true, false, false, false, true, true, true, true, true, false, false, false, true, true, true, true, false, false, false, false] rfl rfl (take_ofW HT_.out HW_.out (by kernel_rfl)) (fun _ _ _ h => h) (Or.inl ⟨by rfl, ?_⟩) hHeld ?_ ?_
                                  rotate_left
                                  · rintro w' ⟨s0, s1, s2, s3, s4, s5, s6, s7, s8, s9, s10, s11, s12, s13, s14, s15, s16, s17, s18, s19, s20, s21, s22, s23, s24⟩
                                    go_simp
                                    with_reducible rfl
                                  rotate_left
                                  · simp only [Act.put, List.setIfInBounds_toArray, List.set_cons_zero, List.set_cons_succ, i64_w, i32_w]
                                    rfl
                                  refine take_ (i := 37) (N := some 52) (v := ?_) (a' := ?_) #[true, true, true, true, true, true, false, false, false, true, true, true, true, true, false, false, false, true, true, true, true, true, false, false, false, true, true, true, true, true, false, false, false, true, true, true, true, true, false, false, false] rfl rfl (take_ofW HT_.out HW_.out (by kernel_rfl)) (fun _ _ _ h => h) (Or.inl ⟨by rfl, ?_⟩) hHeld ?_ ?_
                                  rotate_left
                                  · rintro w' ⟨s0, s1, s2, s3, s4, s5, s6, s7, s8, s9, s10, s11, s12, s13, s14, s15, s16, s17, s18, s19, s20, s21, s22, s23, s24⟩
                                    go_simp
                                    with_reducible rfl
                                  rotate_left
                                  · simp only [Act.put, List.setIfInBounds_toArray, List.set_cons_zero, List.set_cons_succ, i64_w, i32_w]
                                    rfl
                                  refine one_ (i := 6) (N := some 21) #[true, true, true, true, true, true, true, false, false, true, true, true, true, true, false, false, false, true, true, true, true, true, false, false, false, true, true, true, true, true, false, false, false, true, true, true, true, true, false, false, false] rfl rfl (one_of HT_.out (by kernel_rfl)) (by decide) (fun K hK => ?_)
                                  refine goes_ Try.func107 (by kernel_rfl) rfl #[.int .i64 ((rd_T60 l0 x4_1).f0)] (by rfl) rfl rfl (by (try simp only [List.map_toArray, List.map_cons, List.map_nil]); first | done | rfl | (simp only [List.length_drop, List.length_take]; rfl)) ?_
                                  with_reducible refine (spec_FormatInt.calls kj2 ((rd_T60 l0 x4_1).f0) t582 _ A8.out).mono ?_
                                  rintro e w23 ⟨rfl, hb⟩
                                  refine ⟨_, rfl, ?_⟩
                                  have n0_ := Aside0.mk (below_step (by repeat (first | (with_reducible first | exact HB.out | apply below_alloc | apply pw_below_drewN | apply below_drew1) | exact HB.out)) hb)
                                  clear HB
                                  have HB := n0_
                                  clear n0_
                                  (try clear hb)
                                  (try clear hb2)
                                  (try clear hk)
                                  (try clear hi)
                                  refine hK.out _ _ ⟨((HB.out.cell (World.block_lt_of_cell? w _ hw581_0)).trans hw581_0), ((HB.out.cell (World.block_lt_of_cell? w _ hw581_1)).trans hw581_1), ((HB.out.cell (World.block_lt_of_cell? w _ hw581_2)).trans hw581_2), ((HB.out.cell (World.block_lt_of_cell? w _ hw581_3)).trans hw581_3), ((HB.out.cell (World.block_lt_of_cell? w _ hw581_4)).trans hw581_4), ((HB.out.cell (World.block_lt_of_cell? w _ hw583_0)).trans hw583_0), ((HB.out.cell (World.block_lt_of_cell? w _ hw583_1)).trans hw583_1), ((HB.out.cell (World.block_lt_of_cell? w _ hw583_2)).trans hw583_2), ((HB.out.cell (World.block_lt_of_cell? w _ hw583_3)).trans hw583_3), ((HB.out.cell (World.block_lt_of_cell? w _ hw583_4)).trans hw583_4), ((HB.out.cell (World.block_lt_of_cell? w _ hw585_0)).trans hw585_0), ((HB.out.cell (World.block_lt_of_cell? w _ hw585_1)).trans hw585_1), ((HB.out.cell (World.block_lt_of_cell? w _ hw585_2)).trans hw585_2), ((HB.out.cell (World.block_lt_of_cell? w _ hw585_3)).trans hw585_3), ((HB.out.cell (World.block_lt_of_cell? w _ hw585_4)).trans hw585_4), ((HB.out.cell (World.block_lt_of_cell? w _ hw587_0)).trans hw587_0), ((HB.out.cell (World.block_lt_of_cell? w _ hw587_1)).trans hw587_1), ((HB.out.cell (World.block_lt_of_cell? w _ hw587_2)).trans hw587_2), ((HB.out.cell (World.block_lt_of_cell? w _ hw587_3)).trans hw587_3), ((HB.out.cell (World.block_lt_of_cell? w _ hw587_4)).trans hw587_4), ((HB.out.cell (World.block_lt_of_cell? w _ hw589_0)).trans hw589_0), ((HB.out.cell (World.block_lt_of_cell? w _ hw589_1)).trans hw589_1), ((HB.out.cell (World.block_lt_of_cell? w _ hw589_2)).trans hw589_2), ((HB.out.cell (World.block_lt_of_cell? w _ hw589_3)).trans hw589_3), ((HB.out.cell (World.block_lt_of_cell? w _ hw589_4)).trans hw589_4)⟩ (fun hHeld => ?_)
                                  clear hK K
                                  refine norm_ (a' := ?_) ?_ ?_
                                  rotate_left
                                  · show Act.put _ (some 21) _ = _
                                    simp only [Act.put, List.setIfInBounds_toArray, List.set_cons_zero, List.set_cons_succ, i64_w, i32_w]
                                    rfl
                                  refine pure_ (i := 7) (N := some 22) (v := ?_) (a' := ?_) #[true, true, true, true, true, true, true, true, false, true, true, true, true, true, false, false, false, true, true, true, true, true, false, false, false, true, true, true, true, true, false, false, false, true, true, true, true, true, false, false, false] rfl rfl (any_of HT_.out (by kernel_rfl)) (fun _ _ _ h => h) (Or.inl ⟨by rfl, ?_⟩) ?_ ?_
                                  rotate_left
                                  · intro w'
                                    go_simp
                                    with_reducible rfl
                                  rotate_left
                                  · simp only [Act.put, List.setIfInBounds_toArray, List.set_cons_zero, List.set_cons_succ, i64_w, i32_w]
                                    rfl
                                  refine pure_ (i := 8) (N := some 23) (v := ?_) (a' := ?_) #[true, true, true, true, true, true, true, true, true, true, true, true, true, true, false, false, false, true, true, true, true, true, false, false, false, true, true, true, true, true, false, false, false, true, true, true, true, true, false, false, false] rfl rfl (any_of HT_.out (by kernel_rfl)) (fun _ _ _ h => h) (Or.inl ⟨by rfl, ?_⟩) ?_ ?_
                                  rotate_left
                                  · intro w'
                                    go_simp
                                    with_reducible rfl
                                  rotate_left
                                  · simp only [Act.put, List.setIfInBounds_toArray, List.set_cons_zero, List.set_cons_succ, i64_w, i32_w]
                                    rfl
                                  refine one_ (i := 14) (N := some 29) #[true, true, true, true, true, true, true, true, true, true, true, true, true, true, true, false, false, true, true, true, true, true, false, false, false, true, true, true, true, true, false, false, false, true, true, true, true, true, false, false, false] rfl rfl (one_of HT_.out (by kernel_rfl)) (by decide) (fun K hK => ?_)
                                  refine goes_ Try.func107 (by kernel_rfl) rfl #[.int .i64 ((rd_T60 l0 x4_1).f1)] (by rfl) rfl rfl (by (try simp only [List.map_toArray, List.map_cons, List.map_nil]); first | done | rfl | (simp only [List.length_drop, List.length_take]; rfl)) ?_
                                  with_reducible refine (spec_FormatInt.calls kj2 ((rd_T60 l0 x4_1).f1) t584 _ A11.out).mono ?_
                                  rintro e w24 ⟨rfl, hb⟩
                                  refine ⟨_, rfl, ?_⟩
                                  have n0_ := Aside0.mk (below_step (by repeat (first | (with_reducible first | exact HB.out | apply below_alloc | apply pw_below_drewN | apply below_drew1) | exact HB.out)) hb)
                                  clear HB
                                  have HB := n0_
                                  clear n0_
                                  (try clear hb)
                                  (try clear hb2)
                                  (try clear hk)
                                  (try clear hi)
                                  refine hK.out _ _ ⟨((HB.out.cell (World.block_lt_of_cell? w _ hw581_0)).trans hw581_0), ((HB.out.cell (World.block_lt_of_cell? w _ hw581_1)).trans hw581_1), ((HB.out.cell (World.block_lt_of_cell? w _ hw581_2)).trans hw581_2), ((HB.out.cell (World.block_lt_of_cell? w _ hw581_3)).trans hw581_3), ((HB.out.cell (World.block_lt_of_cell? w _ hw581_4)).trans hw581_4), ((HB.out.cell (World.block_lt_of_cell? w _ hw583_0)).trans hw583_0), ((HB.out.cell (World.block_lt_of_cell? w _ hw583_1)).trans hw583_1), ((HB.out.cell (World.block_lt_of_cell? w _ hw583_2)).trans hw583_2), ((HB.out.cell (World.block_lt_of_cell? w _ hw583_3)).trans hw583_3), ((HB.out.cell (World.block_lt_of_cell? w _ hw583_4)).trans hw583_4), ((HB.out.cell (World.block_lt_of_cell? w _ hw585_0)).trans hw585_0), ((HB.out.cell (World.block_lt_of_cell? w _ hw585_1)).trans hw585_1), ((HB.out.cell (World.block_lt_of_cell? w _ hw585_2)).trans hw585_2), ((HB.out.cell (World.block_lt_of_cell? w _ hw585_3)).trans hw585_3), ((HB.out.cell (World.block_lt_of_cell? w _ hw585_4)).trans hw585_4), ((HB.out.cell (World.block_lt_of_cell? w _ hw587_0)).trans hw587_0), ((HB.out.cell (World.block_lt_of_cell? w _ hw587_1)).trans hw587_1), ((HB.out.cell (World.block_lt_of_cell? w _ hw587_2)).trans hw587_2), ((HB.out.cell (World.block_lt_of_cell? w _ hw587_3)).trans hw587_3), ((HB.out.cell (World.block_lt_of_cell? w _ hw587_4)).trans hw587_4), ((HB.out.cell (World.block_lt_of_cell? w _ hw589_0)).trans hw589_0), ((HB.out.cell (World.block_lt_of_cell? w _ hw589_1)).trans hw589_1), ((HB.out.cell (World.block_lt_of_cell? w _ hw589_2)).trans hw589_2), ((HB.out.cell (World.block_lt_of_cell? w _ hw589_3)).trans hw589_3), ((HB.out.cell (World.block_lt_of_cell? w _ hw589_4)).trans hw589_4)⟩ (fun hHeld => ?_)
                                  clear hK K
                                  refine norm_ (a' := ?_) ?_ ?_
                                  rotate_left
                                  · show Act.put _ (some 29) _ = _
                                    simp only [Act.put, List.setIfInBounds_toArray, List.set_cons_zero, List.set_cons_succ, i64_w, i32_w]
                                    rfl
                                  refine pure_ (i := 15) (N := some 30) (v := ?_) (a' := ?_) #[true, true, true, true, true, true, true, true, true, true, true, true, true, true, true, true, false, true, true, true, true, true, false, false, false, true, true, true, true, true, false, false, false, true, true, true, true, true, false, false, false] rfl rfl (any_of HT_.out (by kernel_rfl)) (fun _ _ _ h => h) (Or.inl ⟨by rfl, ?_⟩) ?_ ?_
                                  rotate_left
                                  · intro w'
                                    go_simp
                                    with_reducible rfl
                                  rotate_left
                                  · simp only [Act.put, List.setIfInBounds_toArray, List.set_cons_zero, List.set_cons_succ, i64_w, i32_w]
                                    rfl
                                  refine pure_ (i := 16) (N := some 31) (v := ?_) (a' := ?_) #[true, true, true, true, true, true, true, true, true, true, true, true, true, true, true, true, true, true, true, true, true, true, false, false, false, true, true, true, true, true, false, false, false, true, true, true, true, true, false, false, false] rfl rfl (any_of HT_.out (by kernel_rfl)) (fun _ _ _ h => h) (Or.inl ⟨by rfl, ?_⟩) ?_ ?_
                                  rotate_left
                                  · intro w'
                                    go_simp
                                    with_reducible rfl
                                  rotate_left
                                  · simp only [Act.put, List.setIfInBounds_toArray, List.set_cons_zero, List.set_cons_succ, i64_w, i32_w]
                                    rfl
                                  refine one_ (i := 22) (N := some 37) #[true, true, true, true, true, true, true, true, true, true, true, true, true, true, true, true, true, true, true, true, true, true, true, false, false, true, true, true, true, true, false, false, false, true, true, true, true, true, false, false, false] rfl rfl (one_of HT_.out (by kernel_rfl)) (by decide) (fun K hK => ?_)
                                  refine goes_ Try.func107 (by kernel_rfl) rfl #[.int .i64 ((rd_T60 l0 x4_1).f2)] (by rfl) rfl rfl (by (try simp only [List.map_toArray, List.map_cons, List.map_nil]); first | done | rfl | (simp only [List.length_drop, List.length_take]; rfl)) ?_
                                  with_reducible refine (spec_FormatInt.calls kj2 ((rd_T60 l0 x4_1).f2) t586 _ A14.out).mono ?_
                                  rintro e w25 ⟨rfl, hb⟩
                                  refine ⟨_, rfl, ?_⟩
                                  have n0_ := Aside0.mk (below_step (by repeat (first | (with_reducible first | exact HB.out | apply below_alloc | apply pw_below_drewN | apply below_drew1) | exact HB.out)) hb)
                                  clear HB
                                  have HB := n0_
                                  clear n0_
                                  (try clear hb)
                                  (try clear hb2)
                                  (try clear hk)
                                  (try clear hi)
                                  refine hK.out _ _ ⟨((HB.out.cell (World.block_lt_of_cell? w _ hw581_0)).trans hw581_0), ((HB.out.cell (World.block_lt_of_cell? w _ hw581_1)).trans hw581_1), ((HB.out.cell (World.block_lt_of_cell? w _ hw581_2)).trans hw581_2), ((HB.out.cell (World.block_lt_of_cell? w _ hw581_3)).trans hw581_3), ((HB.out.cell (World.block_lt_of_cell? w _ hw581_4)).trans hw581_4), ((HB.out.cell (World.block_lt_of_cell? w _ hw583_0)).trans hw583_0), ((HB.out.cell (World.block_lt_of_cell? w _ hw583_1)).trans hw583_1), ((HB.out.cell (World.block_lt_of_cell? w _ hw583_2)).trans hw583_2), ((HB.out.cell (World.block_lt_of_cell? w _ hw583_3)).trans hw583_3), ((HB.out.cell (World.block_lt_of_cell? w _ hw583_4)).trans hw583_4), ((HB.out.cell (World.block_lt_of_cell? w _ hw585_0)).trans hw585_0), ((HB.out.cell (World.block_lt_of_cell? w _ hw585_1)).trans hw585_1), ((HB.out.cell (World.block_lt_of_cell? w _ hw585_2)).trans hw585_2), ((HB.out.cell (World.block_lt_of_cell? w _ hw585_3)).trans hw585_3), ((HB.out.cell (World.block_lt_of_cell? w _ hw585_4)).trans hw585_4), ((HB.out.cell (World.block_lt_of_cell? w _ hw587_0)).trans hw587_0), ((HB.out.cell (World.block_lt_of_cell? w _ hw587_1)).trans hw587_1), ((HB.out.cell (World.block_lt_of_cell? w _ hw587_2)).trans hw587_2), ((HB.out.cell (World.block_lt_of_cell? w _ hw587_3)).trans hw587_3), ((HB.out.cell (World.block_lt_of_cell? w _ hw587_4)).trans hw587_4), ((HB.out.cell (World.block_lt_of_cell? w _ hw589_0)).trans hw589_0), ((HB.out.cell (World.block_lt_of_cell? w _ hw589_1)).trans hw589_1), ((HB.out.cell (World.block_lt_of_cell? w _ hw589_2)).trans hw589_2), ((HB.out.cell (World.block_lt_of_cell? w _ hw589_3)).trans hw589_3), ((HB.out.cell (World.block_lt_of_cell? w _ hw589_4)).trans hw589_4)⟩ (fun hHeld => ?_)
                                  clear hK K
                                  refine norm_ (a' := ?_) ?_ ?_
                                  rotate_left
                                  · show Act.put _ (some 37) _ = _
                                    simp only [Act.put, List.setIfInBounds_toArray, List.set_cons_zero, List.set_cons_succ, i64_w, i32_w]
                                    rfl
                                  refine pure_ (i := 23) (N := some 38) (v := ?_) (a' := ?_) #[true, true, true, true, true, true, true, true, true, true, true, true, true, true, true, true, true, true, true, true, true, true, true, true, false, true, true, true, true, true, false, false, false, true, true, true, true, true, false, false, false] rfl rfl (any_of HT_.out (by kernel_rfl)) (fun _ _ _ h => h) (Or.inl ⟨by rfl, ?_⟩) ?_ ?_
                                  rotate_left
                                  · intro w'
                                    go_simp
                                    with_reducible rfl
                                  rotate_left
                                  · simp only [Act.put, List.setIfInBounds_toArray, List.set_cons_zero, List.set_cons_succ, i64_w, i32_w]
                                    rfl
                                  refine pure_ (i := 24) (N := some 39) (v := ?_) (a' := ?_) #[true, true, true, true, true, true, true, true, true, true, true, true, true, true, true, true, true, true, true, true, true, true, true, true, true, true, true, true, true, true, false, false, false, true, true, true, true, true, false, false, false] rfl rfl (any_of HT_.out (by kernel_rfl)) (fun _ _ _ h => h) (Or.inl ⟨by rfl, ?_⟩) ?_ ?_
                                  rotate_left
                                  · intro w'
                                    go_simp
                                    with_reducible rfl
                                  rotate_left
                                  · simp only [Act.put, List.setIfInBounds_toArray, List.set_cons_zero, List.set_cons_succ, i64_w, i32_w]
                                    rfl
                                  refine one_ (i := 30) (N := some 45) #[true, true, true, true, true, true, true, true, true, true, true, true, true, true, true, true, true, true, true, true, true, true, true, true, true, true, true, true, true, true, true, false, false, true, true, true, true, true, false, false, false] rfl rfl (one_of HT_.out (by kernel_rfl)) (by decide) (fun K hK => ?_)
                                  refine goes_ Try.func107 (by kernel_rfl) rfl #[.int .i64 ((rd_T60 l0 x4_1).f3)] (by rfl) rfl rfl (by (try simp only [List.map_toArray, List.map_cons, List.map_nil]); first | done | rfl | (simp only [List.length_drop, List.length_take]; rfl)) ?_
                                  with_reducible refine (spec_FormatInt.calls kj2 ((rd_T60 l0 x4_1).f3) t588 _ A17.out).mono ?_
                                  rintro e w26 ⟨rfl, hb⟩
                                  refine ⟨_, rfl, ?_⟩
                                  have n0_ := Aside0.mk (below_step (by repeat (first | (with_reducible first | exact HB.out | apply below_alloc | apply pw_below_drewN | apply below_drew1) | exact HB.out)) hb)
                                  clear HB
                                  have HB := n0_
                                  clear n0_
                                  (try clear hb)
                                  (try clear hb2)
                                  (try clear hk)
                                  (try clear hi)
                                  refine hK.out _ _ ⟨((HB.out.cell (World.block_lt_of_cell? w _ hw581_0)).trans hw581_0), ((HB.out.cell (World.block_lt_of_cell? w _ hw581_1)).trans hw581_1), ((HB.out.cell (World.block_lt_of_cell? w _ hw581_2)).trans hw581_2), ((HB.out.cell (World.block_lt_of_cell? w _ hw581_3)).trans hw581_3), ((HB.out.cell (World.block_lt_of_cell? w _ hw581_4)).trans hw581_4), ((HB.out.cell (World.block_lt_of_cell? w _ hw583_0)).trans hw583_0), ((HB.out.cell (World.block_lt_of_cell? w _ hw583_1)).trans hw583_1), ((HB.out.cell (World.block_lt_of_cell? w _ hw583_2)).trans hw583_2), ((HB.out.cell (World.block_lt_of_cell? w _ hw583_3)).trans hw583_3), ((HB.out.cell (World.block_lt_of_cell? w _ hw583_4)).trans hw583_4), ((HB.out.cell (World.block_lt_of_cell? w _ hw585_0)).trans hw585_0), ((HB.out.cell (World.block_lt_of_cell? w _ hw585_1)).trans hw585_1), ((HB.out.cell (World.block_lt_of_cell? w _ hw585_2)).trans hw585_2), ((HB.out.cell (World.block_lt_of_cell? w _ hw585_3)).trans hw585_3), ((HB.out.cell (World.block_lt_of_cell? w _ hw585_4)).trans hw585_4), ((HB.out.cell (World.block_lt_of_cell? w _ hw587_0)).trans hw587_0), ((HB.out.cell (World.block_lt_of_cell? w _ hw587_1)).trans hw587_1), ((HB.out.cell (World.block_lt_of_cell? w _ hw587_2)).trans hw587_2), ((HB.out.cell (World.block_lt_of_cell? w _ hw587_3)).trans hw587_3), ((HB.out.cell (World.block_lt_of_cell? w _ hw587_4)).trans hw587_4), ((HB.out.cell (World.block_lt_of_cell? w _ hw589_0)).trans hw589_0), ((HB.out.cell (World.block_lt_of_cell? w _ hw589_1)).trans hw589_1), ((HB.out.cell (World.block_lt_of_cell? w _ hw589_2)).trans hw589_2), ((HB.out.cell (World.block_lt_of_cell? w _ hw589_3)).trans hw589_3), ((HB.out.cell (World.block_lt_of_cell? w _ hw589_4)).trans hw589_4)⟩ (fun hHeld => ?_)
                                  clear hK K
                                  refine norm_ (a' := ?_) ?_ ?_
                                  rotate_left
                                  · show Act.put _ (some 45) _ = _
                                    simp only [Act.put, List.setIfInBounds_toArray, List.set_cons_zero, List.set_cons_succ, i64_w, i32_w]
                                    rfl
                                  refine pure_ (i := 31) (N := some 46) (v := ?_) (a' := ?_) #[true, true, true, true, true, true, true, true, true, true, true, true, true, true, true, true, true, true, true, true, true, true, true, true, true, true, true, true, true, true, true, true, false, true, true, true, true, true, false, false, false] rfl rfl (any_of HT_.out (by kernel_rfl)) (fun _ _ _ h => h) (Or.inl ⟨by rfl, ?_⟩) ?_ ?_
                                  rotate_left
                                  · intro w'
                                    go_simp
                                    with_reducible rfl
                                  rotate_left
                                  · simp only [Act.put, List.setIfInBounds_toArray, List.set_cons_zero, List.set_cons_succ, i64_w, i32_w]
                                    rfl
                                  refine pure_ (i := 32) (N := some 47) (v := ?_) (a' := ?_) #[true, true, true, true, true, true, true, true, true, true, true, true, true, true, true, true, true, true, true, true, true, true, true, true, true, true, true, true, true, true, true, true, true, true, true, true, true, true, false, false, false] rfl rfl (any_of HT_.out (by kernel_rfl)) (fun _ _ _ h => h) (Or.inl ⟨by rfl, ?_⟩) ?_ ?_
                                  rotate_left
                                  · intro w'
                                    go_simp
                                    with_reducible rfl
                                  rotate_left
                                  · simp only [Act.put, List.setIfInBounds_toArray, List.set_cons_zero, List.set_cons_succ, i64_w, i32_w]
                                    rfl
                                  refine one_ (i := 38) (N := some 53) #[true, true, true, true, true, true, true, true, true, true, true, true, true, true, true, true, true, true, true, true, true, true, true, true, true, true, true, true, true, true, true, true, true, true, true, true, true, true, true, false, false] rfl rfl (one_of HT_.out (by kernel_rfl)) (by decide) (fun K hK => ?_)
                                  refine goes_ Try.func107 (by kernel_rfl) rfl #[.int .i64 ((rd_T60 l0 x4_1).f4)] (by rfl) rfl rfl (by (try simp only [List.map_toArray, List.map_cons, List.map_nil]); first | done | rfl | (simp only [List.length_drop, List.length_take]; rfl)) ?_
                                  with_reducible refine (spec_FormatInt.calls kj2 ((rd_T60 l0 x4_1).f4) t590 _ A20.out).mono ?_
                                  rintro e w27 ⟨rfl, hb⟩
                                  refine ⟨_, rfl, ?_⟩
                                  have n0_ := Aside0.mk (below_step (by repeat (first | (with_reducible first | exact HB.out | apply below_alloc | apply pw_below_drewN | apply below_drew1) | exact HB.out)) hb)
                                  clear HB
                                  have HB := n0_
                                  clear n0_
                                  (try clear hb)
                                  (try clear hb2)
                                  (try clear hk)
                                  (try clear hi)
                                  refine hK.out _ _ ⟨((HB.out.cell (World.block_lt_of_cell? w _ hw581_0)).trans hw581_0), ((HB.out.cell (World.block_lt_of_cell? w _ hw581_1)).trans hw581_1), ((HB.out.cell (World.block_lt_of_cell? w _ hw581_2)).trans hw581_2), ((HB.out.cell (World.block_lt_of_cell? w _ hw581_3)).trans hw581_3), ((HB.out.cell (World.block_lt_of_cell? w _ hw581_4)).trans hw581_4), ((HB.out.cell (World.block_lt_of_cell? w _ hw583_0)).trans hw583_0), ((HB.out.cell (World.block_lt_of_cell? w _ hw583_1)).trans hw583_1), ((HB.out.cell (World.block_lt_of_cell? w _ hw583_2)).trans hw583_2), ((HB.out.cell (World.block_lt_of_cell? w _ hw583_3)).trans hw583_3), ((HB.out.cell (World.block_lt_of_cell? w _ hw583_4)).trans hw583_4), ((HB.out.cell (World.block_lt_of_cell? w _ hw585_0)).trans hw585_0), ((HB.out.cell (World.block_lt_of_cell? w _ hw585_1)).trans hw585_1), ((HB.out.cell (World.block_lt_of_cell? w _ hw585_2)).trans hw585_2), ((HB.out.cell (World.block_lt_of_cell? w _ hw585_3)).trans hw585_3), ((HB.out.cell (World.block_lt_of_cell? w _ hw585_4)).trans hw585_4), ((HB.out.cell (World.block_lt_of_cell? w _ hw587_0)).trans hw587_0), ((HB.out.cell (World.block_lt_of_cell? w _ hw587_1)).trans hw587_1), ((HB.out.cell (World.block_lt_of_cell? w _ hw587_2)).trans hw587_2), ((HB.out.cell (World.block_lt_of_cell? w _ hw587_3)).trans hw587_3), ((HB.out.cell (World.block_lt_of_cell? w _ hw587_4)).trans hw587_4), ((HB.out.cell (World.block_lt_of_cell? w _ hw589_0)).trans hw589_0), ((HB.out.cell (World.block_lt_of_cell? w _ hw589_1)).trans hw589_1), ((HB.out.cell (World.block_lt_of_cell? w _ hw589_2)).trans hw589_2), ((HB.out.cell (World.block_lt_of_cell? w _ hw589_3)).trans hw589_3), ((HB.out.cell (World.block_lt_of_cell? w _ hw589_4)).trans hw589_4)⟩ (fun hHeld => ?_)
                                  clear hK K
                                  refine norm_ (a' := ?_) ?_ ?_
                                  rotate_left
                                  · show Act.put _ (some 53) _ = _
                                    simp only [Act.put, List.setIfInBounds_toArray, List.set_cons_zero, List.set_cons_succ, i64_w, i32_w]
                                    rfl
                                  refine pure_ (i := 39) (N := some 54) (v := ?_) (a' := ?_) #[true, true, true, true, true, true, true, true, true, true, true, true, true, true, true, true, true, true, true, true, true, true, true, true, true, true, true, true, true, true, true, true, true, true, true, true, true, true, true, true, false] rfl rfl (any_of HT_.out (by kernel_rfl)) (fun _ _ _ h => h) (Or.inl ⟨by rfl, ?_⟩) ?_ ?_
                                  rotate_left
                                  · intro w'
                                    go_simp
                                    with_reducible rfl
                                  rotate_left
                                  · simp only [Act.put, List.setIfInBounds_toArray, List.set_cons_zero, List.set_cons_succ, i64_w, i32_w]
                                    rfl
                                  refine pure_ (i := 40) (N := some 3) (v := ?_) (a' := ?_) #[true, true, true, true, true, true, true, true, true, true, true, true, true, true, true, true, true, true, true, true, true, true, true, true, true, true, true, true, true, true, true, true, true, true, true, true, true, true, true, true, true] rfl rfl (any_of HT_.out (by kernel_rfl)) (fun _ _ _ h => h) (Or.inl ⟨by rfl, ?_⟩) ?_ ?_
                                  rotate_left
                                  · intro w'
                                    go_simp
                                    with_reducible rfl
                                  rotate_left
                                  · simp only [Act.put, List.setIfInBounds_toArray, List.set_cons_zero, List.set_cons_succ, i64_w, i32_w]
                                    rfl
                                  refine done_ (done_of HT_.out (by kernel_rfl)) ?_
                                  try go_wp2
                                  go_roundg kj2
                                  case measure => have := HK1.out; have := HJ2.out; omega
                                  case rel => exact ⟨(((((((((x3_2 ++ t582) ++ (⟨#[58]⟩ : ByteArray)) ++ t584) ++ (⟨#[44]⟩ : ByteArray)) ++ t586) ++ (⟨#[44]⟩ : ByteArray)) ++ t588) ++ (⟨#[44]⟩ : ByteArray)) ++ t590), (wrap64 (x4_1 + 1)), (by first | rfl | (simp; done) | (simp [*]; done) | (simp; exact isE_ _)), (by first | rfl | (simp; done) | (simp [*]; done) | (simp; exact isE_ _)), H', ⟨by have := HK1.out; have := HJ2.out; omega⟩, ⟨by repeat (first | (with_reducible first | exact HB.out | apply below_alloc | apply pw_below_drewN | apply below_drew1) | exact HB.out)⟩⟩
                                · rw [if_neg c21] at H
                                  exact absurd H (by simp)
                              · rw [if_neg c19] at H
                                exact absurd H (by simp)
                            · rw [if_neg c18] at H
                              exact absurd H (by simp)
                          · rw [if_neg c16] at H
                            exact absurd H (by simp)
                        · rw [if_neg c15] at H
                          exact absurd H (by simp)
                      · rw [if_neg c13] at H
                        exact absurd H (by simp)
                    · rw [if_neg c12] at H
                      exact absurd H (by simp)
                  · rw [if_neg c10] at H
                    exact absurd H (by simp)
                · rw [if_neg c9] at H
                  exact absurd H (by simp)
              · rw [if_neg c7] at H
                exact absurd H (by simp)
            · rw [if_neg c6] at H
              exact absurd H (by simp)
      · rw [if_neg c2] at H
        have c2b0 : decide (x4_1 < (l0.length : Int)) = false := decide_eq_false c2
        clear c2
        obtain rfl := Option.some.inj H
        go_wp2
        go_ret
        exact ⟨by first | rfl | (simp [errW_none, errW_some] <;> rfl) | (simp [*, errW_none, errW_some] <;> rfl), by repeat (first | (with_reducible first | exact HB.out | apply below_alloc | apply pw_below_drewN | apply below_drew1) | exact HB.out)⟩

def spec_FormatRollup.l0 : Nat → List (S62) → ByteArray → Int → Option (ByteArray)
  | 0, _, _, _ => none
  | k + 1, x0, x3, x4 => if x4 < (x0.length : Int) then (if x4 > 0 then (if x3.size + 1 ≤ 9223372036854775807 then (if 0 ≤ x4 then ((spec_FormatInt.f k ((rd_T62 x0 x4).f0)).bind fun t592 => (if (x3 ++ (⟨#[32]⟩ : ByteArray)).size + t592.size ≤ 9223372036854775807 then (if ((x3 ++ (⟨#[32]⟩ : ByteArray)) ++ t592).size + 1 ≤ 9223372036854775807 then ((spec_FormatGroups.f k (([(⟨(rd_T62 x0 x4).f1.f0, (rd_T62 x0 x4).f1.f1, (rd_T62 x0 x4).f1.f2, (rd_T62 x0 x4).f1.f3, (rd_T62 x0 x4).f1.f4⟩ : S60)] : List (S60)))).bind fun t597 => (if (((x3 ++ (⟨#[32]⟩ : ByteArray)) ++ t592) ++ (⟨#[47]⟩ : ByteArray)).size + t597.size ≤ 9223372036854775807 then (spec_FormatRollup.l0 k x0 ((((x3 ++ (⟨#[32]⟩ : ByteArray)) ++ t592) ++ (⟨#[47]⟩ : ByteArray)) ++ t597) (wrap64 (x4 + 1))) else (none))) else (none)) else (none))) else (none)) else (none)) else (if 0 ≤ x4 then ((spec_FormatInt.f k ((rd_T62 x0 x4).f0)).bind fun t599 => (if x3.size + t599.size ≤ 9223372036854775807 then (if (x3 ++ t599).size + 1 ≤ 9223372036854775807 then ((spec_FormatGroups.f k (([(⟨(rd_T62 x0 x4).f1.f0, (rd_T62 x0 x4).f1.f1, (rd_T62 x0 x4).f1.f2, (rd_T62 x0 x4).f1.f3, (rd_T62 x0 x4).f1.f4⟩ : S60)] : List (S60)))).bind fun t604 => (if ((x3 ++ t599) ++ (⟨#[47]⟩ : ByteArray)).size + t604.size ≤ 9223372036854775807 then (spec_FormatRollup.l0 k x0 (((x3 ++ t599) ++ (⟨#[47]⟩ : ByteArray)) ++ t604) (wrap64 (x4 + 1))) else (none))) else (none)) else (none))) else (none))) else (some x3)
def spec_FormatRollup.f (k : Nat) (l0 : List (S62)) : Option (ByteArray) := spec_FormatRollup.l0 k l0 (⟨#[]⟩ : ByteArray) 0
def spec_FormatRollup.T7 : Bool × List (List Nat × List Nat) := (true, [([], []), ([], []), ([], []), ([1, 2], [1, 2]), ([3], [3]), ([4], [4]), ([5], [5]), ([0, 6], [0, 6]), ([7], [7]), ([], []), ([], []), ([9, 10], [9, 10]), ([11], [11]), ([12], [12]), ([13], [13]), ([14, 6], [14]), ([8, 15], [8, 15]), ([16, 15, 0, 1, 2, 3, 4, 5, 6, 7, 8, 9, 10, 11, 12, 13, 14, 15, 16], [0, 16])])
def spec_FormatRollup.B7 : List Nat := [0, 0, 0, 6, 14, 30, 62, 127, 255, 0, 0, 1536, 3584, 7680, 15872, 32382, 65535, 131071]
theorem spec_FormatRollup.tab7 : rtab .any (opsOf Try.f40 7) = spec_FormatRollup.T7 := by kernel_rfl
theorem spec_FormatRollup.bits7 : waitsOk spec_FormatRollup.T7.2 spec_FormatRollup.B7 = true := by kernel_rfl
theorem spec_FormatRollup.calls (k : Nat) (A0 : Option Addr) (c0 : Nat) (l0 : List (S62)) (r : ByteArray) (w : World) (hr0 : Kd.C k62 w A0 l0.length l0) (hc0 : l0.length ≤ c0) (h : spec_FormatRollup.f k l0 = some r) :
    Calls Try.prog 40 #[.slice A0 l0.length c0] w fun e w' => e = .returned (.string r) ∧ Below w.heap.size w w' := by
  have hu60 := Try.underlying60
  have HR0 := Aside0.mk hr0
  have HC0 := Aside0.mk hc0
  clear hr0 hc0
  have HB := Aside0.mk (Below.refl w.heap.size w)
  have H : (spec_FormatRollup.l0 k l0 (⟨#[]⟩ : ByteArray) 0) = some r := h
  clear h
  have H' := Aside0.mk H
  clear H
  go_enter Try.func40, Try.ntmps40
  go_wp2
  go_loopg [3, 4] k (fun kq v3 v4 w' => ∃ (x3_1 : ByteArray) (x4_1 : Int), v3 = .string x3_1 ∧ v4 = .int .i64 x4_1 ∧ Aside0 (spec_FormatRollup.l0 kq l0 x3_1 x4_1 = some r) ∧ Aside0 (kq ≤ k) ∧ Aside0 (Below w.heap.size w w'))
  case atStart => exact ⟨((⟨#[]⟩ : ByteArray)), (0), (by first | rfl | (simp; done) | (simp [*]; done) | (simp; exact isE_ _)), (by first | rfl | (simp; done) | (simp [*]; done) | (simp; exact isE_ _)), H', ⟨Nat.le_refl _⟩, ⟨by repeat (first | (with_reducible first | exact HB.out | apply below_alloc | apply pw_below_drewN | apply below_drew1) | exact HB.out)⟩⟩
  case round =>
    clear H'
    obtain ⟨x3_1, x4_1, rfl, rfl, HA, HK1, HB⟩ := hrel
    cases gk with
    | zero => exact absurd HA.out (by simp [spec_FormatRollup.l0])
    | succ k1 =>
      have H := HA.out
      clear HA
      simp only [spec_FormatRollup.l0] at H
      by_cases c2 : x4_1 < (l0.length : Int)
      · rw [if_pos c2] at H
        have c2b0 : decide (x4_1 < (l0.length : Int)) = true := decide_eq_true c2
        clear c2
        by_cases c3 : x4_1 > 0
        · rw [if_pos c3] at H
          have c3b0 : decide (0 < x4_1) = true := decide_eq_true c3
          clear c3
          by_cases c4 : x3_1.size + 1 ≤ 9223372036854775807
          · rw [if_pos c4] at H
            have c4b0 := eq_true c4
            have c4b1 : decide (x3_1.size + 1 ≤ 9223372036854775807) = true := decide_eq_true c4
            try have c4b2 : (9223372036854775807 < x3_1.size + 1) = False := eq_false (Nat.not_lt.2 c4)
            by_cases c5 : 0 ≤ x4_1
            · rw [if_pos c5] at H
              have c5b0 : decide (0 ≤ x4_1) = true := decide_eq_true c5
              clear c5
              replace H := Option.bind_eq_some_iff.mp H
              obtain ⟨t592, A60, H⟩ := H
              replace H : (if (x3_1 ++ (⟨#[32]⟩ : ByteArray)).size + t592.size ≤ 9223372036854775807 then (if ((x3_1 ++ (⟨#[32]⟩ : ByteArray)) ++ t592).size + 1 ≤ 9223372036854775807 then ((spec_FormatGroups.f k1 (([(⟨(rd_T62 l0 x4_1).f1.f0, (rd_T62 l0 x4_1).f1.f1, (rd_T62 l0 x4_1).f1.f2, (rd_T62 l0 x4_1).f1.f3, (rd_T62 l0 x4_1).f1.f4⟩ : S60)] : List (S60)))).bind fun t597 => (if (((x3_1 ++ (⟨#[32]⟩ : ByteArray)) ++ t592) ++ (⟨#[47]⟩ : ByteArray)).size + t597.size ≤ 9223372036854775807 then (spec_FormatRollup.l0 k1 l0 ((((x3_1 ++ (⟨#[32]⟩ : ByteArray)) ++ t592) ++ (⟨#[47]⟩ : ByteArray)) ++ t597) (wrap64 (x4_1 + 1))) else (none))) else (none)) else (none)) = some r := H
              have A6 := Aside0.mk A60
              clear A60
              by_cases c7 : (x3_1 ++ (⟨#[32]⟩ : ByteArray)).size + t592.size ≤ 9223372036854775807
              · rw [if_pos c7] at H
                have c7b0 := eq_true c7
                have c7b1 : decide ((x3_1 ++ (⟨#[32]⟩ : ByteArray)).size + t592.size ≤ 9223372036854775807) = true := decide_eq_true c7
                try have c7b3 : (9223372036854775807 < x3_1.size + 1 + t592.size) = False := eq_false (by have h_ := c7; simp only [ByteArray.size_append] at h_; (first | exact Nat.not_lt.2 h_ | omega))
                try have c7b2 : (9223372036854775807 < (x3_1 ++ (⟨#[32]⟩ : ByteArray)).size + t592.size) = False := eq_false (Nat.not_lt.2 c7)
                by_cases c8 : ((x3_1 ++ (⟨#[32]⟩ : ByteArray)) ++ t592).size + 1 ≤ 9223372036854775807
                · rw [if_pos c8] at H
                  have c8b0 := eq_true c8
                  have c8b1 : decide (((x3_1 ++ (⟨#[32]⟩ : ByteArray)) ++ t592).size + 1 ≤ 9223372036854775807) = true := decide_eq_true c8
                  try have c8b3 : (9223372036854775807 < x3_1.size + 1 + t592.size + 1) = False := eq_false (by have h_ := c8; simp only [ByteArray.size_append] at h_; (first | exact Nat.not_lt.2 h_ | omega))
                  try have c8b2 : (9223372036854775807 < ((x3_1 ++ (⟨#[32]⟩ : ByteArray)) ++ t592).size + 1) = False := eq_false (Nat.not_lt.2 c8)
                  obtain ⟨y594, hy594⟩ : ∃ y_ : List (S60), y_ = (([(⟨(rd_T62 l0 x4_1).f1.f0, (rd_T62 l0 x4_1).f1.f1, (rd_T62 l0 x4_1).f1.f2, (rd_T62 l0 x4_1).f1.f3, (rd_T62 l0 x4_1).f1.f4⟩ : S60)] : List (S60))) := ⟨_, rfl⟩
                  replace H : ((spec_FormatGroups.f k1 y594).bind fun t597 => (if (((x3_1 ++ (⟨#[32]⟩ : ByteArray)) ++ t592) ++ (⟨#[47]⟩ : ByteArray)).size + t597.size ≤ 9223372036854775807 then (spec_FormatRollup.l0 k1 l0 ((((x3_1 ++ (⟨#[32]⟩ : ByteArray)) ++ t592) ++ (⟨#[47]⟩ : ByteArray)) ++ t597) (wrap64 (x4_1 + 1))) else (none))) = some r := by first | (rw [hy594]; with_reducible exact H) | (have H2_ := (Option.bind_some _ _).symm.trans H; rw [hy594]; with_reducible exact H2_) | (have H2_ := (Option.bind_some _ _).symm.trans H; with_reducible exact H2_) | with_reducible exact H | (rw [hy594]; exact H) | exact H
                  have Ny594 := Aside0.mk hy594
                  clear hy594
                  replace H := Option.bind_eq_some_iff.mp H
                  obtain ⟨t597, A90, H⟩ := H
                  replace H : (if (((x3_1 ++ (⟨#[32]⟩ : ByteArray)) ++ t592) ++ (⟨#[47]⟩ : ByteArray)).size + t597.size ≤ 9223372036854775807 then (spec_FormatRollup.l0 k1 l0 ((((x3_1 ++ (⟨#[32]⟩ : ByteArray)) ++ t592) ++ (⟨#[47]⟩ : ByteArray)) ++ t597) (wrap64 (x4_1 + 1))) else (none)) = some r := H
                  have A9 := Aside0.mk A90
                  clear A90
                  by_cases c10 : (((x3_1 ++ (⟨#[32]⟩ : ByteArray)) ++ t592) ++ (⟨#[47]⟩ : ByteArray)).size + t597.size ≤ 9223372036854775807
                  · rw [if_pos c10] at H
                    have c10b0 := eq_true c10
                    have c10b1 : decide ((((x3_1 ++ (⟨#[32]⟩ : ByteArray)) ++ t592) ++ (⟨#[47]⟩ : ByteArray)).size + t597.size ≤ 9223372036854775807) = true := decide_eq_true c10
                    try have c10b3 : (9223372036854775807 < x3_1.size + 1 + t592.size + 1 + t597.size) = False := eq_false (by have h_ := c10; simp only [ByteArray.size_append] at h_; (first | exact Nat.not_lt.2 h_ | omega))
                    try have c10b2 : (9223372036854775807 < (((x3_1 ++ (⟨#[32]⟩ : ByteArray)) ++ t592) ++ (⟨#[47]⟩ : ByteArray)).size + t597.size) = False := eq_false (Nat.not_lt.2 c10)
                    have H' := Aside0.mk H
                    clear H
                    try go_wp2
                    have n0_ := Aside0.mk (below_drew1 HB.out)
                    clear HB
                    have HB := n0_
                    clear n0_
                    have p591 : 0 ≤ (x4_1 : Int) := of_decide_eq_true (by first | (with_reducible assumption) | assumption)
                    have q591 : x4_1 < (l0.length : Int) := of_decide_eq_true (by first | (with_reducible assumption) | assumption)
                    obtain ⟨ad591, e591, hx591_0, hx591_1, hx591_2, hx591_3, hx591_4, hx591_5⟩ := at_T62 HR0.out x4_1 p591 q591
                    have hw591_5 := hx591_5
                    have hw591_4 := hx591_4
                    have hw591_3 := hx591_3
                    have hw591_2 := hx591_2
                    have hw591_1 := hx591_1
                    have hw591_0 := hx591_0
                    cases e591
                    replace hx591_0 := (HB.out.cell (World.block_lt_of_cell? w _ hx591_0)).trans hx591_0
                    replace hx591_1 := (HB.out.cell (World.block_lt_of_cell? w _ hx591_1)).trans hx591_1
                    replace hx591_2 := (HB.out.cell (World.block_lt_of_cell? w _ hx591_2)).trans hx591_2
                    replace hx591_3 := (HB.out.cell (World.block_lt_of_cell? w _ hx591_3)).trans hx591_3
                    replace hx591_4 := (HB.out.cell (World.block_lt_of_cell? w _ hx591_4)).trans hx591_4
                    replace hx591_5 := (HB.out.cell (World.block_lt_of_cell? w _ hx591_5)).trans hx591_5
                    replace p591 := eq_true p591
                    replace q591 := eq_true q591
                    have p593 : 0 ≤ (x4_1 : Int) := of_decide_eq_true (by first | (with_reducible assumption) | assumption)
                    have q593 : x4_1 < (l0.length : Int) := of_decide_eq_true (by first | (with_reducible assumption) | assumption)
                    obtain ⟨ad593, e593, hx593_0, hx593_1, hx593_2, hx593_3, hx593_4, hx593_5⟩ := at_T62 HR0.out x4_1 p593 q593
                    have hw593_5 := hx593_5
                    have hw593_4 := hx593_4
                    have hw593_3 := hx593_3
                    have hw593_2 := hx593_2
                    have hw593_1 := hx593_1
                    have hw593_0 := hx593_0
                    obtain rfl : ad591 = ad593 := (by injection e593)
                    replace hx593_0 := (HB.out.cell (World.block_lt_of_cell? w _ hx593_0)).trans hx593_0
                    replace hx593_1 := (HB.out.cell (World.block_lt_of_cell? w _ hx593_1)).trans hx593_1
                    replace hx593_2 := (HB.out.cell (World.block_lt_of_cell? w _ hx593_2)).trans hx593_2
                    replace hx593_3 := (HB.out.cell (World.block_lt_of_cell? w _ hx593_3)).trans hx593_3
                    replace hx593_4 := (HB.out.cell (World.block_lt_of_cell? w _ hx593_4)).trans hx593_4
                    replace hx593_5 := (HB.out.cell (World.block_lt_of_cell? w _ hx593_5)).trans hx593_5
                    replace p593 := eq_true p593
                    replace q593 := eq_true q593
                    refine start_ (n := 18) (S := fun w' => True) (ds := []) #[false, false, false, false, false, false, false, false, false, false, false, false, false, false, false, false, false, false] (by kernel_rfl) rfl rfl trivial (fun hHeld => ?_); refine with_tabW spec_FormatRollup.tab7 spec_FormatRollup.bits7 (fun HT_ HW_ => ?_)
                    generalize wr.drew = w11 at HB hx591_0 hx591_1 hx591_2 hx591_3 hx591_4 hx591_5 hx593_0 hx593_1 hx593_2 hx593_3 hx593_4 hx593_5 hHeld ⊢
                    refine pure_ (i := 0) (N := some 15) (v := ?_) (a' := ?_) #[true, false, false, false, false, false, false, false, false, false, false, false, false, false, false, false, false, false] rfl rfl (any_of HT_.out (by kernel_rfl)) (fun _ _ _ h => h) (Or.inl ⟨by rfl, ?_⟩) ?_ ?_
                    rotate_left
                    · intro w'
                      go_simp
                      with_reducible rfl
                    rotate_left
                    · simp only [Act.put, List.setIfInBounds_toArray, List.set_cons_zero, List.set_cons_succ, i64_w, i32_w]
                      rfl
                    refine pure_ (i := 1) (N := some 16) (v := ?_) (a' := ?_) #[true, true, false, false, false, false, false, false, false, false, false, false, false, false, false, false, false, false] rfl rfl (any_of HT_.out (by kernel_rfl)) (fun _ _ _ h => h) (Or.inl ⟨by rfl, ?_⟩) ?_ ?_
                    rotate_left
                    · intro w'
                      go_simp
                      with_reducible rfl
                    rotate_left
                    · simp only [Act.put, List.setIfInBounds_toArray, List.set_cons_zero, List.set_cons_succ, i64_w, i32_w]
                      rfl
                    refine pure_ (i := 2) (N := some 17) (v := ?_) (a' := ?_) #[true, true, true, false, false, false, false, false, false, false, false, false, false, false, false, false, false, false] rfl rfl (any_of HT_.out (by kernel_rfl)) (fun _ _ _ h => h) (Or.inl ⟨by rfl, ?_⟩) ?_ ?_
                    rotate_left
                    · intro w'
                      go_simp
                      with_reducible rfl
                    rotate_left
                    · simp only [Act.put, List.setIfInBounds_toArray, List.set_cons_zero, List.set_cons_succ, i64_w, i32_w]
                      rfl
                    refine pure_ (i := 9) (N := some 24) (v := ?_) (a' := ?_) #[true, true, true, false, false, false, false, false, false, true, false, false, false, false, false, false, false, false] rfl rfl (any_of HT_.out (by kernel_rfl)) (fun _ _ _ h => h) (Or.inl ⟨by rfl, ?_⟩) ?_ ?_
                    rotate_left
                    · intro w'
                      go_simp
                      with_reducible rfl
                    rotate_left
                    · simp only [Act.put, List.setIfInBounds_toArray, List.set_cons_zero, List.set_cons_succ, i64_w, i32_w]
                      rfl
                    refine pure_ (i := 10) (N := some 25) (v := ?_) (a' := ?_) #[true, true, true, false, false, false, false, false, false, true, true, false, false, false, false, false, false, false] rfl rfl (any_of HT_.out (by kernel_rfl)) (fun _ _ _ h => h) (Or.inl ⟨by rfl, ?_⟩) ?_ ?_
                    rotate_left
                    · intro w'
                      go_simp
                      with_reducible rfl
                    rotate_left
                    · simp only [Act.put, List.setIfInBounds_toArray, List.set_cons_zero, List.set_cons_succ, i64_w, i32_w]
                      rfl
                    refine inv_at [3, 4, 5, 6, 7, 8, 11, 12, 13, 14, 15, 16, 17] (fun a0_ b a w' => ∃ (v595 : Value), a = putSel a0_ b [(3, 18, .pointer (some (ad591.add ((x4_1).toNat * 6)))), (4, 19, .pointer (some (ad591.add ((x4_1).toNat * 6)))), (5, 20, .int .i64 ((rd_T62 l0 x4_1).f0)), (6, 21, .string t592), (7, 22, .string ((x3_1 ++ (⟨#[32]⟩ : ByteArray)) ++ t592)), (8, 23, .string (((x3_1 ++ (⟨#[32]⟩ : ByteArray)) ++ t592) ++ (⟨#[47]⟩ : ByteArray))), (11, 26, .pointer (some (ad591.add ((x4_1).toNat * 6)))), (12, 27, .pointer (some ⟨(ad591.add ((x4_1).toNat * 6)).block, (ad591.add ((x4_1).toNat * 6)).off + 1, none⟩)), (13, 28, .agg #[.int .i64 ((rd_T62 l0 x4_1).f1.f0), .int .i64 ((rd_T62 l0 x4_1).f1.f1), .int .i64 ((rd_T62 l0 x4_1).f1.f2), .int .i64 ((rd_T62 l0 x4_1).f1.f3), .int .i64 ((rd_T62 l0 x4_1).f1.f4)]), (14, 29, v595), (15, 30, .string t597), (16, 31, .string ((((x3_1 ++ (⟨#[32]⟩ : ByteArray)) ++ t592) ++ (⟨#[47]⟩ : ByteArray)) ++ t597)), (17, 3, .string ((((x3_1 ++ (⟨#[32]⟩ : ByteArray)) ++ t592) ++ (⟨#[47]⟩ : ByteArray)) ++ t597))] ∧ (Below w.heap.size w w') ∧ (b 14 = true → Kd.R k60 60 w' w.heap.size (fun _ => True) v595 y594)) HT_.out HW_.out (by kernel_rfl) (by kernel_rfl) ?_ ?_ ?_
                    · exact ⟨.bool false, by simp only [putSel, Bool.false_eq_true, if_false], HB.out, fun h_ => absurd h_ (by decide)⟩
                    · skip
                      clear HB
                      refine steps_cons ?_ ?_
                      · rintro b a w' ⟨v595, ha, Q_HB, Q_HO596⟩ hb_ hon hoff
                        refine ⟨_, rfl, fun K hK => ?_⟩
                        have e16 : a.tmps[16]? = some (.slice (some ad591) l0.length c0) := by rw [ha]; exact (putSel_off rfl).trans rfl
                        have e17 : a.tmps[17]? = some (.int .i64 x4_1) := by rw [ha]; exact (putSel_off rfl).trans rfl
                        replace ha := Aside0.mk ha
                        have HB := Aside0.mk Q_HB
                        have hs0_ : w'.cell? (ad591.add ((x4_1).toNat * 6)) = some (.int .i64 ((rd_T62 l0 x4_1).f0)) := ((HB.out.cell (World.block_lt_of_cell? w _ hw591_0)).trans hw591_0)
                        have hs1_ : w'.cell? ⟨(ad591.add ((x4_1).toNat * 6)).block, (ad591.add ((x4_1).toNat * 6)).off + 1, none⟩ = some (.int .i64 ((rd_T62 l0 x4_1).f1.f0)) := ((HB.out.cell (World.block_lt_of_cell? w _ hw591_1)).trans hw591_1)
                        have hs2_ : w'.cell? ⟨(ad591.add ((x4_1).toNat * 6)).block, (ad591.add ((x4_1).toNat * 6)).off + 2, none⟩ = some (.int .i64 ((rd_T62 l0 x4_1).f1.f1)) := ((HB.out.cell (World.block_lt_of_cell? w _ hw591_2)).trans hw591_2)
                        have hs3_ : w'.cell? ⟨(ad591.add ((x4_1).toNat * 6)).block, (ad591.add ((x4_1).toNat * 6)).off + 3, none⟩ = some (.int .i64 ((rd_T62 l0 x4_1).f1.f2)) := ((HB.out.cell (World.block_lt_of_cell? w _ hw591_3)).trans hw591_3)
                        have hs4_ : w'.cell? ⟨(ad591.add ((x4_1).toNat * 6)).block, (ad591.add ((x4_1).toNat * 6)).off + 4, none⟩ = some (.int .i64 ((rd_T62 l0 x4_1).f1.f3)) := ((HB.out.cell (World.block_lt_of_cell? w _ hw591_4)).trans hw591_4)
                        have hs5_ : w'.cell? ⟨(ad591.add ((x4_1).toNat * 6)).block, (ad591.add ((x4_1).toNat * 6)).off + 5, none⟩ = some (.int .i64 ((rd_T62 l0 x4_1).f1.f4)) := ((HB.out.cell (World.block_lt_of_cell? w _ hw591_5)).trans hw591_5)
                        refine value_ (w1 := w') (v := .pointer (some (ad591.add ((x4_1).toNat * 6)))) (by rfl) rfl ?_ ?_
                        · go_simp
                          (try simp only [i64_w])
                          try rfl
                        refine hK.out _ _ ⟨v595, (by rw [ha.out]; exact putSel_upk 0 hb_ rfl rfl rfl), Q_HB, Q_HO596⟩
                      refine steps_cons ?_ ?_
                      · rintro b a w' ⟨v595, ha, Q_HB, Q_HO596⟩ hb_ hon hoff
                        refine ⟨_, rfl, fun K hK => ?_⟩
                        have e18 : a.tmps[18]? = some (.pointer (some (ad591.add ((x4_1).toNat * 6)))) := by rw [ha]; exact putSel_on (e := (3, 18, .pointer (some (ad591.add ((x4_1).toNat * 6))))) 0 rfl rfl (hon 3 (by kernel_rfl)) rfl
                        replace ha := Aside0.mk ha
                        have HB := Aside0.mk Q_HB
                        refine value_ (w1 := w') (v := .pointer (some (ad591.add ((x4_1).toNat * 6)))) (by rfl) rfl ?_ ?_
                        · go_simp
                          (try simp only [i64_w])
                          try rfl
                        refine hK.out _ _ ⟨v595, (by rw [ha.out]; exact putSel_upk 1 hb_ rfl rfl rfl), Q_HB, Q_HO596⟩
                      refine steps_cons ?_ ?_
                      · rintro b a w' ⟨v595, ha, Q_HB, Q_HO596⟩ hb_ hon hoff
                        refine ⟨_, rfl, fun K hK => ?_⟩
                        have e19 : a.tmps[19]? = some (.pointer (some (ad591.add ((x4_1).toNat * 6)))) := by rw [ha]; exact putSel_on (e := (4, 19, .pointer (some (ad591.add ((x4_1).toNat * 6))))) 1 rfl rfl (hon 4 (by kernel_rfl)) rfl
                        replace ha := Aside0.mk ha
                        have HB := Aside0.mk Q_HB
                        have hs0_ : w'.cell? (ad591.add ((x4_1).toNat * 6)) = some (.int .i64 ((rd_T62 l0 x4_1).f0)) := ((HB.out.cell (World.block_lt_of_cell? w _ hw591_0)).trans hw591_0)
                        have hs1_ : w'.cell? ⟨(ad591.add ((x4_1).toNat * 6)).block, (ad591.add ((x4_1).toNat * 6)).off + 1, none⟩ = some (.int .i64 ((rd_T62 l0 x4_1).f1.f0)) := ((HB.out.cell (World.block_lt_of_cell? w _ hw591_1)).trans hw591_1)
                        have hs2_ : w'.cell? ⟨(ad591.add ((x4_1).toNat * 6)).block, (ad591.add ((x4_1).toNat * 6)).off + 2, none⟩ = some (.int .i64 ((rd_T62 l0 x4_1).f1.f1)) := ((HB.out.cell (World.block_lt_of_cell? w _ hw591_2)).trans hw591_2)
                        have hs3_ : w'.cell? ⟨(ad591.add ((x4_1).toNat * 6)).block, (ad591.add ((x4_1).toNat * 6)).off + 3, none⟩ = some (.int .i64 ((rd_T62 l0 x4_1).f1.f2)) := ((HB.out.cell (World.block_lt_of_cell? w _ hw591_3)).trans hw591_3)
                        have hs4_ : w'.cell? ⟨(ad591.add ((x4_1).toNat * 6)).block, (ad591.add ((x4_1).toNat * 6)).off + 4, none⟩ = some (.int .i64 ((rd_T62 l0 x4_1).f1.f3)) := ((HB.out.cell (World.block_lt_of_cell? w _ hw591_4)).trans hw591_4)
                        have hs5_ : w'.cell? ⟨(ad591.add ((x4_1).toNat * 6)).block, (ad591.add ((x4_1).toNat * 6)).off + 5, none⟩ = some (.int .i64 ((rd_T62 l0 x4_1).f1.f4)) := ((HB.out.cell (World.block_lt_of_cell? w _ hw591_5)).trans hw591_5)
                        refine value_ (w1 := w') (v := .int .i64 ((rd_T62 l0 x4_1).f0)) (by rfl) rfl ?_ ?_
                        · go_simp
                          (try simp only [i64_w])
                          try rfl
                        refine hK.out _ _ ⟨v595, (by rw [ha.out]; exact putSel_upk 2 hb_ rfl rfl rfl), Q_HB, Q_HO596⟩
                      refine steps_cons ?_ ?_
                      · rintro b a w' ⟨v595, ha, Q_HB, Q_HO596⟩ hb_ hon hoff
                        refine ⟨_, rfl, fun K hK => ?_⟩
                        have e20 : a.tmps[20]? = some (.int .i64 ((rd_T62 l0 x4_1).f0)) := by rw [ha]; exact putSel_on (e := (5, 20, .int .i64 ((rd_T62 l0 x4_1).f0))) 2 rfl rfl (hon 5 (by kernel_rfl)) rfl
                        replace ha := Aside0.mk ha
                        have HB := Aside0.mk Q_HB
                        refine goes_ Try.func107 (by kernel_rfl) rfl #[.int .i64 ((rd_T62 l0 x4_1).f0)] (by rfl) rfl rfl (by first | (simp only [List.map_toArray, List.map_cons, List.map_nil, Act.eval, Array.getD_eq_getD_getElem?, Option.getD_some, e20]; done) | (simp only [List.map_toArray, List.map_cons, List.map_nil, Act.eval, Array.getD_eq_getD_getElem?, Option.getD_some, e20]; rfl)) ?_
                        with_reducible refine (spec_FormatInt.calls k1 ((rd_T62 l0 x4_1).f0) t592 _ A6.out).mono ?_
                        rintro e w12 ⟨rfl, hb⟩
                        refine ⟨_, rfl, ?_⟩
                        have n0_ := Aside0.mk (below_step (by repeat (first | (with_reducible first | exact HB.out | apply below_alloc | apply pw_below_drewN | apply below_drew1) | exact HB.out)) hb)
                        have z_HO596 := fun (h0_ : b 14 = true) => (show Kd.R k60 60 w12 w.heap.size (fun _ => True) v595 y594 from by first | exact (Kd.R_below (by (with_reducible repeat (first | apply Kd.R_alloc | apply Kd.R_drewN | apply Kd.R_drew)); exact (Q_HO596 h0_)) hb) | exact Kd.R_mono (Kd.R_below (by (with_reducible repeat (first | apply Kd.R_alloc | apply Kd.R_drewN | apply Kd.R_drew)); exact (Q_HO596 h0_)) hb) (fun _ h_ => by first | trivial | exact h_ | exact h_.1))
                        clear HB
                        have HB := n0_
                        clear n0_
                        (try clear hb)
                        (try clear hb2)
                        (try clear hk)
                        (try clear hi)
                        refine hK.out _ _ ⟨v595, (by rw [ha.out]; exact putSel_upk 3 hb_ rfl rfl rfl), (by repeat (first | (with_reducible first | exact HB.out | apply below_alloc | apply pw_below_drewN | apply below_drew1) | exact HB.out)), z_HO596⟩
                      refine steps_cons ?_ ?_
                      · rintro b a w' ⟨v595, ha, Q_HB, Q_HO596⟩ hb_ hon hoff
                        refine ⟨_, rfl, fun K hK => ?_⟩
                        have e15 : a.tmps[15]? = some (.string (x3_1 ++ (⟨#[32]⟩ : ByteArray))) := by rw [ha]; exact (putSel_off rfl).trans rfl
                        have e21 : a.tmps[21]? = some (.string t592) := by rw [ha]; exact putSel_on (e := (6, 21, .string t592)) 3 rfl rfl (hon 6 (by kernel_rfl)) rfl
                        replace ha := Aside0.mk ha
                        have HB := Aside0.mk Q_HB
                        refine value_ (w1 := w') (v := .string ((x3_1 ++ (⟨#[32]⟩ : ByteArray)) ++ t592)) (by rfl) rfl ?_ ?_
                        · go_simp
                          (try simp only [i64_w])
                          try rfl
                        refine hK.out _ _ ⟨v595, (by rw [ha.out]; exact putSel_upk 4 hb_ rfl rfl rfl), Q_HB, Q_HO596⟩
                      refine steps_cons ?_ ?_
                      · rintro b a w' ⟨v595, ha, Q_HB, Q_HO596⟩ hb_ hon hoff
                        refine ⟨_, rfl, fun K hK => ?_⟩
                        have e22 : a.tmps[22]? = some (.string ((x3_1 ++ (⟨#[32]⟩ : ByteArray)) ++ t592)) := by rw [ha]; exact putSel_on (e := (7, 22, .string ((x3_1 ++ (⟨#[32]⟩ : ByteArray)) ++ t592))) 4 rfl rfl (hon 7 (by kernel_rfl)) rfl
                        replace ha := Aside0.mk ha
                        have HB := Aside0.mk Q_HB
                        refine value_ (w1 := w') (v := .string (((x3_1 ++ (⟨#[32]⟩ : ByteArray)) ++ t592) ++ (⟨#[47]⟩ : ByteArray))) (by rfl) rfl ?_ ?_
                        · go_simp
                          (try simp only [i64_w])
                          try rfl
                        refine hK.out _ _ ⟨v595, (by rw [ha.out]; exact putSel_upk 5 hb_ rfl rfl rfl), Q_HB, Q_HO596⟩
                      refine steps_cons ?_ ?_
                      · rintro b a w' ⟨v595, ha, Q_HB, Q_HO596⟩ hb_ hon hoff
                        refine ⟨_, rfl, fun K hK => ?_⟩
                        have e24 : a.tmps[24]? = some (.slice (some ad591) l0.length c0) := by rw [ha]; exact (putSel_off rfl).trans rfl
                        have e25 : a.tmps[25]? = some (.int .i64 x4_1) := by rw [ha]; exact (putSel_off rfl).trans rfl
                        replace ha := Aside0.mk ha
                        have HB := Aside0.mk Q_HB
                        have hs6_ : w'.cell? (ad591.add ((x4_1).toNat * 6)) = some (.int .i64 ((rd_T62 l0 x4_1).f0)) := ((HB.out.cell (World.block_lt_of_cell? w _ hw593_0)).trans hw593_0)
                        have hs7_ : w'.cell? ⟨(ad591.add ((x4_1).toNat * 6)).block, (ad591.add ((x4_1).toNat * 6)).off + 1, none⟩ = some (.int .i64 ((rd_T62 l0 x4_1).f1.f0)) := ((HB.out.cell (World.block_lt_of_cell? w _ hw593_1)).trans hw593_1)
                        have hs8_ : w'.cell? ⟨(ad591.add ((x4_1).toNat * 6)).block, (ad591.add ((x4_1).toNat * 6)).off + 2, none⟩ = some (.int .i64 ((rd_T62 l0 x4_1).f1.f1)) := ((HB.out.cell (World.block_lt_of_cell? w _ hw593_2)).trans hw593_2)
                        have hs9_ : w'.cell? ⟨(ad591.add ((x4_1).toNat * 6)).block, (ad591.add ((x4_1).toNat * 6)).off + 3, none⟩ = some (.int .i64 ((rd_T62 l0 x4_1).f1.f2)) := ((HB.out.cell (World.block_lt_of_cell? w _ hw593_3)).trans hw593_3)
                        have hs10_ : w'.cell? ⟨(ad591.add ((x4_1).toNat * 6)).block, (ad591.add ((x4_1).toNat * 6)).off + 4, none⟩ = some (.int .i64 ((rd_T62 l0 x4_1).f1.f3)) := ((HB.out.cell (World.block_lt_of_cell? w _ hw593_4)).trans hw593_4)
                        have hs11_ : w'.cell? ⟨(ad591.add ((x4_1).toNat * 6)).block, (ad591.add ((x4_1).toNat * 6)).off + 5, none⟩ = some (.int .i64 ((rd_T62 l0 x4_1).f1.f4)) := ((HB.out.cell (World.block_lt_of_cell? w _ hw593_5)).trans hw593_5)
                        refine value_ (w1 := w') (v := .pointer (some (ad591.add ((x4_1).toNat * 6)))) (by rfl) rfl ?_ ?_
                        · go_simp
                          (try simp only [i64_w])
                          try rfl
                        refine hK.out _ _ ⟨v595, (by rw [ha.out]; exact putSel_upk 6 hb_ rfl rfl rfl), Q_HB, fun h0_ => absurd ((hoff 14 (by kernel_rfl)).symm.trans h0_) (by decide)⟩
                      refine steps_cons ?_ ?_
                      · rintro b a w' ⟨v595, ha, Q_HB, Q_HO596⟩ hb_ hon hoff
                        refine ⟨_, rfl, fun K hK => ?_⟩
                        have e26 : a.tmps[26]? = some (.pointer (some (ad591.add ((x4_1).toNat * 6)))) := by rw [ha]; exact putSel_on (e := (11, 26, .pointer (some (ad591.add ((x4_1).toNat * 6))))) 6 rfl rfl (hon 11 (by kernel_rfl)) rfl
                        replace ha := Aside0.mk ha
                        have HB := Aside0.mk Q_HB
                        refine value_ (w1 := w') (v := .pointer (some ⟨(ad591.add ((x4_1).toNat * 6)).block, (ad591.add ((x4_1).toNat * 6)).off + 1, none⟩)) (by rfl) rfl ?_ ?_
                        · go_simp
                          (try simp only [i64_w])
                          try rfl
                        refine hK.out _ _ ⟨v595, (by rw [ha.out]; exact putSel_upk 7 hb_ rfl rfl rfl), Q_HB, fun h0_ => absurd ((hoff 14 (by kernel_rfl)).symm.trans h0_) (by decide)⟩
                      refine steps_cons ?_ ?_
                      · rintro b a w' ⟨v595, ha, Q_HB, Q_HO596⟩ hb_ hon hoff
                        refine ⟨_, rfl, fun K hK => ?_⟩
                        have e27 : a.tmps[27]? = some (.pointer (some ⟨(ad591.add ((x4_1).toNat * 6)).block, (ad591.add ((x4_1).toNat * 6)).off + 1, none⟩)) := by rw [ha]; exact putSel_on (e := (12, 27, .pointer (some ⟨(ad591.add ((x4_1).toNat * 6)).block, (ad591.add ((x4_1).toNat * 6)).off + 1, none⟩))) 7 rfl rfl (hon 12 (by kernel_rfl)) rfl
                        replace ha := Aside0.mk ha
                        have HB := Aside0.mk Q_HB
                        have hs6_ : w'.cell? (ad591.add ((x4_1).toNat * 6)) = some (.int .i64 ((rd_T62 l0 x4_1).f0)) := ((HB.out.cell (World.block_lt_of_cell? w _ hw593_0)).trans hw593_0)
                        have hs7_ : w'.cell? ⟨(ad591.add ((x4_1).toNat * 6)).block, (ad591.add ((x4_1).toNat * 6)).off + 1, none⟩ = some (.int .i64 ((rd_T62 l0 x4_1).f1.f0)) := ((HB.out.cell (World.block_lt_of_cell? w _ hw593_1)).trans hw593_1)
                        have hs8_ : w'.cell? ⟨(ad591.add ((x4_1).toNat * 6)).block, (ad591.add ((x4_1).toNat * 6)).off + 2, none⟩ = some (.int .i64 ((rd_T62 l0 x4_1).f1.f1)) := ((HB.out.cell (World.block_lt_of_cell? w _ hw593_2)).trans hw593_2)
                        have hs9_ : w'.cell? ⟨(ad591.add ((x4_1).toNat * 6)).block, (ad591.add ((x4_1).toNat * 6)).off + 3, none⟩ = some (.int .i64 ((rd_T62 l0 x4_1).f1.f2)) := ((HB.out.cell (World.block_lt_of_cell? w _ hw593_3)).trans hw593_3)
                        have hs10_ : w'.cell? ⟨(ad591.add ((x4_1).toNat * 6)).block, (ad591.add ((x4_1).toNat * 6)).off + 4, none⟩ = some (.int .i64 ((rd_T62 l0 x4_1).f1.f3)) := ((HB.out.cell (World.block_lt_of_cell? w _ hw593_4)).trans hw593_4)
                        have hs11_ : w'.cell? ⟨(ad591.add ((x4_1).toNat * 6)).block, (ad591.add ((x4_1).toNat * 6)).off + 5, none⟩ = some (.int .i64 ((rd_T62 l0 x4_1).f1.f4)) := ((HB.out.cell (World.block_lt_of_cell? w _ hw593_5)).trans hw593_5)
                        refine value_ (w1 := w') (v := .agg #[.int .i64 ((rd_T62 l0 x4_1).f1.f0), .int .i64 ((rd_T62 l0 x4_1).f1.f1), .int .i64 ((rd_T62 l0 x4_1).f1.f2), .int .i64 ((rd_T62 l0 x4_1).f1.f3), .int .i64 ((rd_T62 l0 x4_1).f1.f4)]) (by rfl) rfl ?_ ?_
                        · go_simp
                          (try simp only [i64_w])
                          try rfl
                        refine hK.out _ _ ⟨v595, (by rw [ha.out]; exact putSel_upk 8 hb_ rfl rfl rfl), Q_HB, fun h0_ => absurd ((hoff 14 (by kernel_rfl)).symm.trans h0_) (by decide)⟩
                      refine steps_cons ?_ ?_
                      · rintro b a w' ⟨v595, ha, Q_HB, Q_HO596⟩ hb_ hon hoff
                        refine ⟨_, rfl, fun K hK => ?_⟩
                        have e28 : a.tmps[28]? = some (.agg #[.int .i64 ((rd_T62 l0 x4_1).f1.f0), .int .i64 ((rd_T62 l0 x4_1).f1.f1), .int .i64 ((rd_T62 l0 x4_1).f1.f2), .int .i64 ((rd_T62 l0 x4_1).f1.f3), .int .i64 ((rd_T62 l0 x4_1).f1.f4)]) := by rw [ha]; exact putSel_on (e := (13, 28, .agg #[.int .i64 ((rd_T62 l0 x4_1).f1.f0), .int .i64 ((rd_T62 l0 x4_1).f1.f1), .int .i64 ((rd_T62 l0 x4_1).f1.f2), .int .i64 ((rd_T62 l0 x4_1).f1.f3), .int .i64 ((rd_T62 l0 x4_1).f1.f4)])) 8 rfl rfl (hon 13 (by kernel_rfl)) rfl
                        replace ha := Aside0.mk ha
                        have HB := Aside0.mk Q_HB
                        refine Kd.R_lit_step k60 _ 60 ?hg (N := 29) ?hd (xs := ([(⟨(rd_T62 l0 x4_1).f1.f0, (rd_T62 l0 x4_1).f1.f1, (rd_T62 l0 x4_1).f1.f2, (rd_T62 l0 x4_1).f1.f3, (rd_T62 l0 x4_1).f1.f4⟩ : S60)] : List (S60))) (inner := [.int .i64 ((rd_T62 l0 x4_1).f1.f0), .int .i64 ((rd_T62 l0 x4_1).f1.f1), .int .i64 ((rd_T62 l0 x4_1).f1.f2), .int .i64 ((rd_T62 l0 x4_1).f1.f3), .int .i64 ((rd_T62 l0 x4_1).f1.f4)]) (ok := fun _ => True) (okp := fun _ => True) ?hr ?hp (fun _ hk => hk) trivial (Below.refl _ _) (Nat.le_refl _) (by simp) ?_; (case hd => rfl); (case hg => rfl); (case hr => first | (go_simp; done) | (go_simp; rfl)); (case hp => exact (Reps.c5 (show Kd.M k60 _ _ _ (⟨(rd_T62 l0 x4_1).f1.f0, (rd_T62 l0 x4_1).f1.f1, (rd_T62 l0 x4_1).f1.f2, (rd_T62 l0 x4_1).f1.f3, (rd_T62 l0 x4_1).f1.f4⟩ : S60) [.int .i64 ((rd_T62 l0 x4_1).f1.f0), .int .i64 ((rd_T62 l0 x4_1).f1.f1), .int .i64 ((rd_T62 l0 x4_1).f1.f2), .int .i64 ((rd_T62 l0 x4_1).f1.f3), .int .i64 ((rd_T62 l0 x4_1).f1.f4)] from (k60_mkM _ _ _ (⟨(rd_T62 l0 x4_1).f1.f0, (rd_T62 l0 x4_1).f1.f1, (rd_T62 l0 x4_1).f1.f2, (rd_T62 l0 x4_1).f1.f3, (rd_T62 l0 x4_1).f1.f4⟩ : S60) )) (Reps.none _ _)))
                        intro v595 w12 ho13 hb hg_ hnew_
                        clear hg_ hnew_
                        (first | rw [← Ny594.out] at ho13 | (simp only [Int.reduceToNat] at ho13; rw [← Ny594.out] at ho13))
                        have n0_ := Aside0.mk (Kd.R_lower ho13 (below_size (by repeat (first | (with_reducible first | exact HB.out | apply below_alloc | apply pw_below_drewN | apply below_drew1) | exact HB.out))))
                        have n1_ := Aside0.mk (below_step (by repeat (first | (with_reducible first | exact HB.out | apply below_alloc | apply pw_below_drewN | apply below_drew1) | exact HB.out)) hb)
                        clear HB
                        have HO596 := n0_
                        have HB := n1_
                        clear n0_ n1_
                        clear hb ho13
                        refine hK.out _ _ ⟨v595, (by rw [ha.out]; exact putSel_upk 9 hb_ rfl rfl rfl), (by repeat (first | (with_reducible first | exact HB.out | apply below_alloc | apply pw_below_drewN | apply below_drew1) | exact HB.out)), fun _ => (by (with_reducible repeat (first | apply Kd.R_alloc | apply Kd.R_drewN | apply Kd.R_drew)); exact HO596.out)⟩
                      refine steps_cons ?_ ?_
                      · rintro b a w' ⟨v595, ha, Q_HB, Q_HO596⟩ hb_ hon hoff
                        refine ⟨_, rfl, fun K hK => ?_⟩
                        have e29 : a.tmps[29]? = some (v595) := by rw [ha]; exact putSel_on (e := (14, 29, v595)) 9 rfl rfl (hon 14 (by kernel_rfl)) rfl
                        replace ha := Aside0.mk ha
                        have HB := Aside0.mk Q_HB
                        have HO596 := Aside0.mk (Q_HO596 (hon 14 (by kernel_rfl)))
                        obtain ⟨Ao16, co16, eo16⟩ := Kd.R_slice HO596.out
                        (first | subst eo16 | (injection eo16 with f1_ f2_ f3_; have f4_ := f1_.symm; have f5_ := f3_.symm; clear f1_ f2_ f3_; subst f4_; subst f5_))
                        refine goes_ Try.func108 (by kernel_rfl) rfl #[.slice Ao16 y594.length co16] (by rfl) rfl rfl (by first | (simp only [List.map_toArray, List.map_cons, List.map_nil, Act.eval, Array.getD_eq_getD_getElem?, Option.getD_some, e29]; done) | (simp only [List.map_toArray, List.map_cons, List.map_nil, Act.eval, Array.getD_eq_getD_getElem?, Option.getD_some, e29]; rfl)) ?_
                        with_reducible refine (spec_FormatGroups.calls k1 _ _ y594 t597 _ ?side1 ?side2 A9.out).mono ?_
                        (case side1 => repeat (first | exact (Kd.R_reads' HO596.out).2.2 | (with_reducible refine Kd.C_alloc ?_ _) | (with_reducible refine Kd.C_drewN ?_ _) | (with_reducible refine Kd.C_drew ?_)))
                        (case side2 => exact (Kd.R_reads' HO596.out).2.1)
                        rintro e w17 ⟨rfl, hb⟩
                        refine ⟨_, rfl, ?_⟩
                        have n0_ := Aside0.mk (Kd.R_below (by (with_reducible repeat (first | apply Kd.R_alloc | apply Kd.R_drewN | apply Kd.R_drew)); exact HO596.out) hb)
                        have n1_ := Aside0.mk (below_step (by repeat (first | (with_reducible first | exact HB.out | apply below_alloc | apply pw_below_drewN | apply below_drew1) | exact HB.out)) hb)
                        clear HO596
                        clear HB
                        have HO596 := n0_
                        have HB := n1_
                        clear n0_ n1_
                        (try clear hb)
                        (try clear hb2)
                        (try clear hk)
                        (try clear hi)
                        refine hK.out _ _ ⟨.slice Ao16 y594.length co16, (by rw [ha.out]; exact putSel_upk 10 hb_ rfl rfl rfl), (by repeat (first | (with_reducible first | exact HB.out | apply below_alloc | apply pw_below_drewN | apply below_drew1) | exact HB.out)), fun _ => (by (with_reducible repeat (first | apply Kd.R_alloc | apply Kd.R_drewN | apply Kd.R_drew)); exact HO596.out)⟩
                      refine steps_cons ?_ ?_
                      · rintro b a w' ⟨v595, ha, Q_HB, Q_HO596⟩ hb_ hon hoff
                        refine ⟨_, rfl, fun K hK => ?_⟩
                        have e23 : a.tmps[23]? = some (.string (((x3_1 ++ (⟨#[32]⟩ : ByteArray)) ++ t592) ++ (⟨#[47]⟩ : ByteArray))) := by rw [ha]; exact putSel_on (e := (8, 23, .string (((x3_1 ++ (⟨#[32]⟩ : ByteArray)) ++ t592) ++ (⟨#[47]⟩ : ByteArray)))) 5 rfl rfl (hon 8 (by kernel_rfl)) rfl
                        have e30 : a.tmps[30]? = some (.string t597) := by rw [ha]; exact putSel_on (e := (15, 30, .string t597)) 10 rfl rfl (hon 15 (by kernel_rfl)) rfl
                        replace ha := Aside0.mk ha
                        have HB := Aside0.mk Q_HB
                        have HO596 := Aside0.mk (Q_HO596 (hon 14 (by kernel_rfl)))
                        refine value_ (w1 := w') (v := .string ((((x3_1 ++ (⟨#[32]⟩ : ByteArray)) ++ t592) ++ (⟨#[47]⟩ : ByteArray)) ++ t597)) (by rfl) rfl ?_ ?_
                        · go_simp
                          (try simp only [i64_w])
                          try rfl
                        refine hK.out _ _ ⟨v595, (by rw [ha.out]; exact putSel_upk 11 hb_ rfl rfl rfl), Q_HB, Q_HO596⟩
                      refine steps_cons ?_ ?_
                      · rintro b a w' ⟨v595, ha, Q_HB, Q_HO596⟩ hb_ hon hoff
                        refine ⟨_, rfl, fun K hK => ?_⟩
                        have e31 : a.tmps[31]? = some (.string ((((x3_1 ++ (⟨#[32]⟩ : ByteArray)) ++ t592) ++ (⟨#[47]⟩ : ByteArray)) ++ t597)) := by rw [ha]; exact putSel_on (e := (16, 31, .string ((((x3_1 ++ (⟨#[32]⟩ : ByteArray)) ++ t592) ++ (⟨#[47]⟩ : ByteArray)) ++ t597))) 11 rfl rfl (hon 16 (by kernel_rfl)) rfl
                        replace ha := Aside0.mk ha
                        have HB := Aside0.mk Q_HB
                        have HO596 := Aside0.mk (Q_HO596 (hon 14 (by kernel_rfl)))
                        refine value_ (w1 := w') (v := .string ((((x3_1 ++ (⟨#[32]⟩ : ByteArray)) ++ t592) ++ (⟨#[47]⟩ : ByteArray)) ++ t597)) (by rfl) rfl ?_ ?_
                        · go_simp
                          (try simp only [i64_w])
                          try rfl
                        refine hK.out _ _ ⟨v595, (by rw [ha.out]; exact putSel_upk 12 hb_ rfl rfl rfl), Q_HB, Q_HO596⟩
                      exact steps_nil
                    rintro b a w17 hall ⟨v595, ha, Q_HB, Q_HO596⟩
                    clear HB
                    have hb3_ := hall 3 (by kernel_rfl)
                    have hb4_ := hall 4 (by kernel_rfl)
                    have hb5_ := hall 5 (by kernel_rfl)
                    have hb6_ := hall 6 (by kernel_rfl)
                    have hb7_ := hall 7 (by kernel_rfl)
                    have hb8_ := hall 8 (by kernel_rfl)
                    have hb11_ := hall 11 (by kernel_rfl)
                    have hb12_ := hall 12 (by kernel_rfl)
                    have hb13_ := hall 13 (by kernel_rfl)
                    have hb14_ := hall 14 (by kernel_rfl)
                    have hb15_ := hall 15 (by kernel_rfl)
                    have hb16_ := hall 16 (by kernel_rfl)
                    have hb17_ := hall 17 (by kernel_rfl)
                    subst ha
                    simp only [putSel, hb3_, hb4_, hb5_, hb6_, hb7_, hb8_, hb11_, hb12_, hb13_, hb14_, hb15_, hb16_, hb17_, if_true, Act.put, List.setIfInBounds_toArray, List.set_cons_zero, List.set_cons_succ]
                    have HB := Aside0.mk Q_HB
                    clear Q_HB
                    have HO596 := Aside0.mk (Q_HO596 hb14_)
                    clear Q_HO596
                    clear hall hb3_ hb4_ hb5_ hb6_ hb7_ hb8_ hb11_ hb12_ hb13_ hb14_ hb15_ hb16_ hb17_
                    try go_wp2
                    go_roundg k1
                    case measure => have := HK1.out; omega
                    case rel => exact ⟨((((x3_1 ++ (⟨#[32]⟩ : ByteArray)) ++ t592) ++ (⟨#[47]⟩ : ByteArray)) ++ t597), (wrap64 (x4_1 + 1)), (by first | rfl | (simp; done) | (simp [*]; done) | (simp; exact isE_ _)), (by first | rfl | (simp; done) | (simp [*]; done) | (simp; exact isE_ _)), H', ⟨by have := HK1.out; omega⟩, ⟨by repeat (first | (with_reducible first | exact HB.out | apply below_alloc | apply pw_below_drewN | apply below_drew1) | exact HB.out)⟩⟩
                  · rw [if_neg c10] at H
                    exact absurd H (by simp)
                · rw [if_neg c8] at H
                  exact absurd H (by simp)
              · rw [if_neg c7] at H
                exact absurd H (by simp)
            · rw [if_neg c5] at H
              exact absurd H (by simp)
          · rw [if_neg c4] at H
            exact absurd H (by simp)
        · rw [if_neg c3] at H
          have c3b0 : decide (0 < x4_1) = false := decide_eq_false c3
          clear c3
          by_cases c18 : 0 ≤ x4_1
          · rw [if_pos c18] at H
            have c18b0 : decide (0 ≤ x4_1) = true := decide_eq_true c18
            clear c18
            replace H := Option.bind_eq_some_iff.mp H
            obtain ⟨t599, A190, H⟩ := H
            replace H : (if x3_1.size + t599.size ≤ 9223372036854775807 then (if (x3_1 ++ t599).size + 1 ≤ 9223372036854775807 then ((spec_FormatGroups.f k1 (([(⟨(rd_T62 l0 x4_1).f1.f0, (rd_T62 l0 x4_1).f1.f1, (rd_T62 l0 x4_1).f1.f2, (rd_T62 l0 x4_1).f1.f3, (rd_T62 l0 x4_1).f1.f4⟩ : S60)] : List (S60)))).bind fun t604 => (if ((x3_1 ++ t599) ++ (⟨#[47]⟩ : ByteArray)).size + t604.size ≤ 9223372036854775807 then (spec_FormatRollup.l0 k1 l0 (((x3_1 ++ t599) ++ (⟨#[47]⟩ : ByteArray)) ++ t604) (wrap64 (x4_1 + 1))) else (none))) else (none)) else (none)) = some r := H
            have A19 := Aside0.mk A190
            clear A190
            by_cases c20 : x3_1.size + t599.size ≤ 9223372036854775807
            · rw [if_pos c20] at H
              have c20b0 := eq_true c20
              have c20b1 : decide (x3_1.size + t599.size ≤ 9223372036854775807) = true := decide_eq_true c20
              try have c20b2 : (9223372036854775807 < x3_1.size + t599.size) = False := eq_false (Nat.not_lt.2 c20)
              by_cases c21 : (x3_1 ++ t599).size + 1 ≤ 9223372036854775807
              · rw [if_pos c21] at H
                have c21b0 := eq_true c21
                have c21b1 : decide ((x3_1 ++ t599).size + 1 ≤ 9223372036854775807) = true := decide_eq_true c21
                try have c21b3 : (9223372036854775807 < x3_1.size + t599.size + 1) = False := eq_false (by have h_ := c21; simp only [ByteArray.size_append] at h_; (first | exact Nat.not_lt.2 h_ | omega))
                try have c21b2 : (9223372036854775807 < (x3_1 ++ t599).size + 1) = False := eq_false (Nat.not_lt.2 c21)
                obtain ⟨y601, hy601⟩ : ∃ y_ : List (S60), y_ = (([(⟨(rd_T62 l0 x4_1).f1.f0, (rd_T62 l0 x4_1).f1.f1, (rd_T62 l0 x4_1).f1.f2, (rd_T62 l0 x4_1).f1.f3, (rd_T62 l0 x4_1).f1.f4⟩ : S60)] : List (S60))) := ⟨_, rfl⟩
                replace H : ((spec_FormatGroups.f k1 y601).bind fun t604 => (if ((x3_1 ++ t599) ++ (⟨#[47]⟩ : ByteArray)).size + t604.size ≤ 9223372036854775807 then (spec_FormatRollup.l0 k1 l0 (((x3_1 ++ t599) ++ (⟨#[47]⟩ : ByteArray)) ++ t604) (wrap64 (x4_1 + 1))) else (none))) = some r := by first | (rw [hy601]; with_reducible exact H) | (have H2_ := (Option.bind_some _ _).symm.trans H; rw [hy601]; with_reducible exact H2_) | (have H2_ := (Option.bind_some _ _).symm.trans H; with_reducible exact H2_) | with_reducible exact H | (rw [hy601]; exact H) | exact H
                have Ny601 := Aside0.mk hy601
                clear hy601
                replace H := Option.bind_eq_some_iff.mp H
                obtain ⟨t604, A220, H⟩ := H
                replace H : (if ((x3_1 ++ t599) ++ (⟨#[47]⟩ : ByteArray)).size + t604.size ≤ 9223372036854775807 then (spec_FormatRollup.l0 k1 l0 (((x3_1 ++ t599) ++ (⟨#[47]⟩ : ByteArray)) ++ t604) (wrap64 (x4_1 + 1))) else (none)) = some r := H
                have A22 := Aside0.mk A220
                clear A220
                by_cases c23 : ((x3_1 ++ t599) ++ (⟨#[47]⟩ : ByteArray)).size + t604.size ≤ 9223372036854775807
                · rw [if_pos c23] at H
                  have c23b0 := eq_true c23
                  have c23b1 : decide (((x3_1 ++ t599) ++ (⟨#[47]⟩ : ByteArray)).size + t604.size ≤ 9223372036854775807) = true := decide_eq_true c23
                  try have c23b3 : (9223372036854775807 < x3_1.size + t599.size + 1 + t604.size) = False := eq_false (by have h_ := c23; simp only [ByteArray.size_append] at h_; (first | exact Nat.not_lt.2 h_ | omega))
                  try have c23b2 : (9223372036854775807 < ((x3_1 ++ t599) ++ (⟨#[47]⟩ : ByteArray)).size + t604.size) = False := eq_false (Nat.not_lt.2 c23)
                  have H' := Aside0.mk H
                  clear H
                  try go_wp2
                  have n0_ := Aside0.mk (below_drew1 HB.out)
                  clear HB
                  have HB := n0_
                  clear n0_
                  have p598 : 0 ≤ (x4_1 : Int) := of_decide_eq_true (by first | (with_reducible assumption) | assumption)
                  have q598 : x4_1 < (l0.length : Int) := of_decide_eq_true (by first | (with_reducible assumption) | assumption)
                  obtain ⟨ad598, e598, hx598_0, hx598_1, hx598_2, hx598_3, hx598_4, hx598_5⟩ := at_T62 HR0.out x4_1 p598 q598
                  have hw598_5 := hx598_5
                  have hw598_4 := hx598_4
                  have hw598_3 := hx598_3
                  have hw598_2 := hx598_2
                  have hw598_1 := hx598_1
                  have hw598_0 := hx598_0
                  cases e598
                  replace hx598_0 := (HB.out.cell (World.block_lt_of_cell? w _ hx598_0)).trans hx598_0
                  replace hx598_1 := (HB.out.cell (World.block_lt_of_cell? w _ hx598_1)).trans hx598_1
                  replace hx598_2 := (HB.out.cell (World.block_lt_of_cell? w _ hx598_2)).trans hx598_2
                  replace hx598_3 := (HB.out.cell (World.block_lt_of_cell? w _ hx598_3)).trans hx598_3
                  replace hx598_4 := (HB.out.cell (World.block_lt_of_cell? w _ hx598_4)).trans hx598_4
                  replace hx598_5 := (HB.out.cell (World.block_lt_of_cell? w _ hx598_5)).trans hx598_5
                  replace p598 := eq_true p598
                  replace q598 := eq_true q598
                  have p600 : 0 ≤ (x4_1 : Int) := of_decide_eq_true (by first | (with_reducible assumption) | assumption)
                  have q600 : x4_1 < (l0.length : Int) := of_decide_eq_true (by first | (with_reducible assumption) | assumption)
                  obtain ⟨ad600, e600, hx600_0, hx600_1, hx600_2, hx600_3, hx600_4, hx600_5⟩ := at_T62 HR0.out x4_1 p600 q600
                  have hw600_5 := hx600_5
                  have hw600_4 := hx600_4
                  have hw600_3 := hx600_3
                  have hw600_2 := hx600_2
                  have hw600_1 := hx600_1
                  have hw600_0 := hx600_0
                  obtain rfl : ad598 = ad600 := (by injection e600)
                  replace hx600_0 := (HB.out.cell (World.block_lt_of_cell? w _ hx600_0)).trans hx600_0
                  replace hx600_1 := (HB.out.cell (World.block_lt_of_cell? w _ hx600_1)).trans hx600_1
                  replace hx600_2 := (HB.out.cell (World.block_lt_of_cell? w _ hx600_2)).trans hx600_2
                  replace hx600_3 := (HB.out.cell (World.block_lt_of_cell? w _ hx600_3)).trans hx600_3
                  replace hx600_4 := (HB.out.cell (World.block_lt_of_cell? w _ hx600_4)).trans hx600_4
                  replace hx600_5 := (HB.out.cell (World.block_lt_of_cell? w _ hx600_5)).trans hx600_5
                  replace p600 := eq_true p600
                  replace q600 := eq_true q600
                  refine start_ (n := 18) (S := fun w' => True) (ds := []) #[false, false, false, false, false, false, false, false, false, false, false, false, false, false, false, false, false, false] (by kernel_rfl) rfl rfl trivial (fun hHeld => ?_); refine with_tabW spec_FormatRollup.tab7 spec_FormatRollup.bits7 (fun HT_ HW_ => ?_)
                  generalize wr.drew = w24 at HB hx598_0 hx598_1 hx598_2 hx598_3 hx598_4 hx598_5 hx600_0 hx600_1 hx600_2 hx600_3 hx600_4 hx600_5 hHeld ⊢
                  refine pure_ (i := 0) (N := some 15) (v := ?_) (a' := ?_) #[true, false, false, false, false, false, false, false, false, false, false, false, false, false, false, false, false, false] rfl rfl (any_of HT_.out (by kernel_rfl)) (fun _ _ _ h => h) (Or.inl ⟨by rfl, ?_⟩) ?_ ?_
                  rotate_left
                  · intro w'
                    go_simp
                    with_reducible rfl
                  rotate_left
                  · simp only [Act.put, List.setIfInBounds_toArray, List.set_cons_zero, List.set_cons_succ, i64_w, i32_w]
                    rfl
                  refine pure_ (i := 1) (N := some 16) (v := ?_) (a' := ?_) #[true, true, false, false, false, false, false, false, false, false, false, false, false, false, false, false, false, false] rfl rfl (any_of HT_.out (by kernel_rfl)) (fun _ _ _ h => h) (Or.inl ⟨by rfl, ?_⟩) ?_ ?_
                  rotate_left
                  · intro w'
                    go_simp
                    with_reducible rfl
                  rotate_left
                  · simp only [Act.put, List.setIfInBounds_toArray, List.set_cons_zero, List.set_cons_succ, i64_w, i32_w]
                    rfl
                  refine pure_ (i := 2) (N := some 17) (v := ?_) (a' := ?_) #[true, true, true, false, false, false, false, false, false, false, false, false, false, false, false, false, false, false] rfl rfl (any_of HT_.out (by kernel_rfl)) (fun _ _ _ h => h) (Or.inl ⟨by rfl, ?_⟩) ?_ ?_
                  rotate_left
                  · intro w'
                    go_simp
                    with_reducible rfl
                  rotate_left
                  · simp only [Act.put, List.setIfInBounds_toArray, List.set_cons_zero, List.set_cons_succ, i64_w, i32_w]
                    rfl
                  refine pure_ (i := 9) (N := some 24) (v := ?_) (a' := ?_) #[true, true, true, false, false, false, false, false, false, true, false, false, false, false, false, false, false, false] rfl rfl (any_of HT_.out (by kernel_rfl)) (fun _ _ _ h => h) (Or.inl ⟨by rfl, ?_⟩) ?_ ?_
                  rotate_left
                  · intro w'
                    go_simp
                    with_reducible rfl
                  rotate_left
                  · simp only [Act.put, List.setIfInBounds_toArray, List.set_cons_zero, List.set_cons_succ, i64_w, i32_w]
                    rfl
                  refine pure_ (i := 10) (N := some 25) (v := ?_) (a' := ?_) #[true, true, true, false, false, false, false, false, false, true, true, false, false, false, false, false, false, false] rfl rfl (any_of HT_.out (by kernel_rfl)) (fun _ _ _ h => h) (Or.inl ⟨by rfl, ?_⟩) ?_ ?_
                  rotate_left
                  · intro w'
                    go_simp
                    with_reducible rfl
                  rotate_left
                  · simp only [Act.put, List.setIfInBounds_toArray, List.set_cons_zero, List.set_cons_succ, i64_w, i32_w]
                    rfl
                  refine inv_at [3, 4, 5, 6, 7, 8, 11, 12, 13, 14, 15, 16, 17] (fun a0_ b a w' => ∃ (v602 : Value), a = putSel a0_ b [(3, 18, .pointer (some (ad598.add ((x4_1).toNat * 6)))), (4, 19, .pointer (some (ad598.add ((x4_1).toNat * 6)))), (5, 20, .int .i64 ((rd_T62 l0 x4_1).f0)), (6, 21, .string t599), (7, 22, .string (x3_1 ++ t599)), (8, 23, .string ((x3_1 ++ t599) ++ (⟨#[47]⟩ : ByteArray))), (11, 26, .pointer (some (ad598.add ((x4_1).toNat * 6)))), (12, 27, .pointer (some ⟨(ad598.add ((x4_1).toNat * 6)).block, (ad598.add ((x4_1).toNat * 6)).off + 1, none⟩)), (13, 28, .agg #[.int .i64 ((rd_T62 l0 x4_1).f1.f0), .int .i64 ((rd_T62 l0 x4_1).f1.f1), .int .i64 ((rd_T62 l0 x4_1).f1.f2), .int .i64 ((rd_T62 l0 x4_1).f1.f3), .int .i64 ((rd_T62 l0 x4_1).f1.f4)]), (14, 29, v602), (15, 30, .string t604), (16, 31, .string (((x3_1 ++ t599) ++ (⟨#[47]⟩ : ByteArray)) ++ t604)), (17, 3, .string (((x3_1 ++ t599) ++ (⟨#[47]⟩ : ByteArray)) ++ t604))] ∧ (Below w.heap.size w w') ∧ (b 14 = true → Kd.R k60 60 w' w.heap.size (fun _ => True) v602 y601)) HT_.out HW_.out (by kernel_rfl) (by kernel_rfl) ?_ ?_ ?_
                  · exact ⟨.bool false, by simp only [putSel, Bool.false_eq_true, if_false], HB.out, fun h_ => absurd h_ (by decide)⟩
                  · skip
                    clear HB
                    refine steps_cons ?_ ?_
                    · rintro b a w' ⟨v602, ha, Q_HB, Q_HO603⟩ hb_ hon hoff
                      refine ⟨_, rfl, fun K hK => ?_⟩
                      have e16 : a.tmps[16]? = some (.slice (some ad598) l0.length c0) := by rw [ha]; exact (putSel_off rfl).trans rfl
                      have e17 : a.tmps[17]? = some (.int .i64 x4_1) := by rw [ha]; exact (putSel_off rfl).trans rfl
                      replace ha := Aside0.mk ha
                      have HB := Aside0.mk Q_HB
                      have hs0_ : w'.cell? (ad598.add ((x4_1).toNat * 6)) = some (.int .i64 ((rd_T62 l0 x4_1).f0)) := ((HB.out.cell (World.block_lt_of_cell? w _ hw598_0)).trans hw598_0)
                      have hs1_ : w'.cell? ⟨(ad598.add ((x4_1).toNat * 6)).block, (ad598.add ((x4_1).toNat * 6)).off + 1, none⟩ = some (.int .i64 ((rd_T62 l0 x4_1).f1.f0)) := ((HB.out.cell (World.block_lt_of_cell? w _ hw598_1)).trans hw598_1)
                      have hs2_ : w'.cell? ⟨(ad598.add ((x4_1).toNat * 6)).block, (ad598.add ((x4_1).toNat * 6)).off + 2, none⟩ = some (.int .i64 ((rd_T62 l0 x4_1).f1.f1)) := ((HB.out.cell (World.block_lt_of_cell? w _ hw598_2)).trans hw598_2)
                      have hs3_ : w'.cell? ⟨(ad598.add ((x4_1).toNat * 6)).block, (ad598.add ((x4_1).toNat * 6)).off + 3, none⟩ = some (.int .i64 ((rd_T62 l0 x4_1).f1.f2)) := ((HB.out.cell (World.block_lt_of_cell? w _ hw598_3)).trans hw598_3)
                      have hs4_ : w'.cell? ⟨(ad598.add ((x4_1).toNat * 6)).block, (ad598.add ((x4_1).toNat * 6)).off + 4, none⟩ = some (.int .i64 ((rd_T62 l0 x4_1).f1.f3)) := ((HB.out.cell (World.block_lt_of_cell? w _ hw598_4)).trans hw598_4)
                      have hs5_ : w'.cell? ⟨(ad598.add ((x4_1).toNat * 6)).block, (ad598.add ((x4_1).toNat * 6)).off + 5, none⟩ = some (.int .i64 ((rd_T62 l0 x4_1).f1.f4)) := ((HB.out.cell (World.block_lt_of_cell? w _ hw598_5)).trans hw598_5)
                      refine value_ (w1 := w') (v := .pointer (some (ad598.add ((x4_1).toNat * 6)))) (by rfl) rfl ?_ ?_
                      · go_simp
                        (try simp only [i64_w])
                        try rfl
                      refine hK.out _ _ ⟨v602, (by rw [ha.out]; exact putSel_upk 0 hb_ rfl rfl rfl), Q_HB, Q_HO603⟩
                    refine steps_cons ?_ ?_
                    · rintro b a w' ⟨v602, ha, Q_HB, Q_HO603⟩ hb_ hon hoff
                      refine ⟨_, rfl, fun K hK => ?_⟩
                      have e18 : a.tmps[18]? = some (.pointer (some (ad598.add ((x4_1).toNat * 6)))) := by rw [ha]; exact putSel_on (e := (3, 18, .pointer (some (ad598.add ((x4_1).toNat * 6))))) 0 rfl rfl (hon 3 (by kernel_rfl)) rfl
                      replace ha := Aside0.mk ha
                      have HB := Aside0.mk Q_HB
                      refine value_ (w1 := w') (v := .pointer (some (ad598.add ((x4_1).toNat * 6)))) (by rfl) rfl ?_ ?_
                      · go_simp
                        (try simp only [i64_w])
                        try rfl
                      refine hK.out _ _ ⟨v602, (by rw [ha.out]; exact putSel_upk 1 hb_ rfl rfl rfl), Q_HB, Q_HO603⟩
                    refine steps_cons ?_ ?_
                    · rintro b a w' ⟨v602, ha, Q_HB, Q_HO603⟩ hb_ hon hoff
                      refine ⟨_, rfl, fun K hK => ?_⟩
                      have e19 : a.tmps[19]? = some (.pointer (some (ad598.add ((x4_1).toNat * 6)))) := by rw [ha]; exact putSel_on (e := (4, 19, .pointer (some (ad598.add ((x4_1).toNat * 6))))) 1 rfl rfl (hon 4 (by kernel_rfl)) rfl
                      replace ha := Aside0.mk ha
                      have HB := Aside0.mk Q_HB
                      have hs0_ : w'.cell? (ad598.add ((x4_1).toNat * 6)) = some (.int .i64 ((rd_T62 l0 x4_1).f0)) := ((HB.out.cell (World.block_lt_of_cell? w _ hw598_0)).trans hw598_0)
                      have hs1_ : w'.cell? ⟨(ad598.add ((x4_1).toNat * 6)).block, (ad598.add ((x4_1).toNat * 6)).off + 1, none⟩ = some (.int .i64 ((rd_T62 l0 x4_1).f1.f0)) := ((HB.out.cell (World.block_lt_of_cell? w _ hw598_1)).trans hw598_1)
                      have hs2_ : w'.cell? ⟨(ad598.add ((x4_1).toNat * 6)).block, (ad598.add ((x4_1).toNat * 6)).off + 2, none⟩ = some (.int .i64 ((rd_T62 l0 x4_1).f1.f1)) := ((HB.out.cell (World.block_lt_of_cell? w _ hw598_2)).trans hw598_2)
                      have hs3_ : w'.cell? ⟨(ad598.add ((x4_1).toNat * 6)).block, (ad598.add ((x4_1).toNat * 6)).off + 3, none⟩ = some (.int .i64 ((rd_T62 l0 x4_1).f1.f2)) := ((HB.out.cell (World.block_lt_of_cell? w _ hw598_3)).trans hw598_3)
                      have hs4_ : w'.cell? ⟨(ad598.add ((x4_1).toNat * 6)).block, (ad598.add ((x4_1).toNat * 6)).off + 4, none⟩ = some (.int .i64 ((rd_T62 l0 x4_1).f1.f3)) := ((HB.out.cell (World.block_lt_of_cell? w _ hw598_4)).trans hw598_4)
                      have hs5_ : w'.cell? ⟨(ad598.add ((x4_1).toNat * 6)).block, (ad598.add ((x4_1).toNat * 6)).off + 5, none⟩ = some (.int .i64 ((rd_T62 l0 x4_1).f1.f4)) := ((HB.out.cell (World.block_lt_of_cell? w _ hw598_5)).trans hw598_5)
                      refine value_ (w1 := w') (v := .int .i64 ((rd_T62 l0 x4_1).f0)) (by rfl) rfl ?_ ?_
                      · go_simp
                        (try simp only [i64_w])
                        try rfl
                      refine hK.out _ _ ⟨v602, (by rw [ha.out]; exact putSel_upk 2 hb_ rfl rfl rfl), Q_HB, Q_HO603⟩
                    refine steps_cons ?_ ?_
                    · rintro b a w' ⟨v602, ha, Q_HB, Q_HO603⟩ hb_ hon hoff
                      refine ⟨_, rfl, fun K hK => ?_⟩
                      have e20 : a.tmps[20]? = some (.int .i64 ((rd_T62 l0 x4_1).f0)) := by rw [ha]; exact putSel_on (e := (5, 20, .int .i64 ((rd_T62 l0 x4_1).f0))) 2 rfl rfl (hon 5 (by kernel_rfl)) rfl
                      replace ha := Aside0.mk ha
                      have HB := Aside0.mk Q_HB
                      refine goes_ Try.func107 (by kernel_rfl) rfl #[.int .i64 ((rd_T62 l0 x4_1).f0)] (by rfl) rfl rfl (by first | (simp only [List.map_toArray, List.map_cons, List.map_nil, Act.eval, Array.getD_eq_getD_getElem?, Option.getD_some, e20]; done) | (simp only [List.map_toArray, List.map_cons, List.map_nil, Act.eval, Array.getD_eq_getD_getElem?, Option.getD_some, e20]; rfl)) ?_
                      with_reducible refine (spec_FormatInt.calls k1 ((rd_T62 l0 x4_1).f0) t599 _ A19.out).mono ?_
                      rintro e w25 ⟨rfl, hb⟩
                      refine ⟨_, rfl, ?_⟩
                      have n0_ := Aside0.mk (below_step (by repeat (first | (with_reducible first | exact HB.out | apply below_alloc | apply pw_below_drewN | apply below_drew1) | exact HB.out)) hb)
                      have z_HO603 := fun (h0_ : b 14 = true) => (show Kd.R k60 60 w25 w.heap.size (fun _ => True) v602 y601 from by first | exact (Kd.R_below (by (with_reducible repeat (first | apply Kd.R_alloc | apply Kd.R_drewN | apply Kd.R_drew)); exact (Q_HO603 h0_)) hb) | exact Kd.R_mono (Kd.R_below (by (with_reducible repeat (first | apply Kd.R_alloc | apply Kd.R_drewN | apply Kd.R_drew)); exact (Q_HO603 h0_)) hb) (fun _ h_ => by first | trivial | exact h_ | exact h_.1))
                      clear HB
                      have HB := n0_
                      clear n0_
                      (try clear hb)
                      (try clear hb2)
                      (try clear hk)
                      (try clear hi)
                      refine hK.out _ _ ⟨v602, (by rw [ha.out]; exact putSel_upk 3 hb_ rfl rfl rfl), (by repeat (first | (with_reducible first | exact HB.out | apply below_alloc | apply pw_below_drewN | apply below_drew1) | exact HB.out)), z_HO603⟩
                    refine steps_cons ?_ ?_
                    · rintro b a w' ⟨v602, ha, Q_HB, Q_HO603⟩ hb_ hon hoff
                      refine ⟨_, rfl, fun K hK => ?_⟩
                      have e15 : a.tmps[15]? = some (.string x3_1) := by rw [ha]; exact (putSel_off rfl).trans rfl
                      have e21 : a.tmps[21]? = some (.string t599) := by rw [ha]; exact putSel_on (e := (6, 21, .string t599)) 3 rfl rfl (hon 6 (by kernel_rfl)) rfl
                      replace ha := Aside0.mk ha
                      have HB := Aside0.mk Q_HB
                      refine value_ (w1 := w') (v := .string (x3_1 ++ t599)) (by rfl) rfl ?_ ?_
                      · go_simp
                        (try simp only [i64_w])
                        try rfl
                      refine hK.out _ _ ⟨v602, (by rw [ha.out]; exact putSel_upk 4 hb_ rfl rfl rfl), Q_HB, Q_HO603⟩
                    refine steps_cons ?_ ?_
                    · rintro b a w' ⟨v602, ha, Q_HB, Q_HO603⟩ hb_ hon hoff
                      refine ⟨_, rfl, fun K hK => ?_⟩
                      have e22 : a.tmps[22]? = some (.string (x3_1 ++ t599)) := by rw [ha]; exact putSel_on (e := (7, 22, .string (x3_1 ++ t599))) 4 rfl rfl (hon 7 (by kernel_rfl)) rfl
                      replace ha := Aside0.mk ha
                      have HB := Aside0.mk Q_HB
                      refine value_ (w1 := w') (v := .string ((x3_1 ++ t599) ++ (⟨#[47]⟩ : ByteArray))) (by rfl) rfl ?_ ?_
                      · go_simp
                        (try simp only [i64_w])
                        try rfl
                      refine hK.out _ _ ⟨v602, (by rw [ha.out]; exact putSel_upk 5 hb_ rfl rfl rfl), Q_HB, Q_HO603⟩
                    refine steps_cons ?_ ?_
                    · rintro b a w' ⟨v602, ha, Q_HB, Q_HO603⟩ hb_ hon hoff
                      refine ⟨_, rfl, fun K hK => ?_⟩
                      have e24 : a.tmps[24]? = some (.slice (some ad598) l0.length c0) := by rw [ha]; exact (putSel_off rfl).trans rfl
                      have e25 : a.tmps[25]? = some (.int .i64 x4_1) := by rw [ha]; exact (putSel_off rfl).trans rfl
                      replace ha := Aside0.mk ha
                      have HB := Aside0.mk Q_HB
                      have hs6_ : w'.cell? (ad598.add ((x4_1).toNat * 6)) = some (.int .i64 ((rd_T62 l0 x4_1).f0)) := ((HB.out.cell (World.block_lt_of_cell? w _ hw600_0)).trans hw600_0)
                      have hs7_ : w'.cell? ⟨(ad598.add ((x4_1).toNat * 6)).block, (ad598.add ((x4_1).toNat * 6)).off + 1, none⟩ = some (.int .i64 ((rd_T62 l0 x4_1).f1.f0)) := ((HB.out.cell (World.block_lt_of_cell? w _ hw600_1)).trans hw600_1)
                      have hs8_ : w'.cell? ⟨(ad598.add ((x4_1).toNat * 6)).block, (ad598.add ((x4_1).toNat * 6)).off + 2, none⟩ = some (.int .i64 ((rd_T62 l0 x4_1).f1.f1)) := ((HB.out.cell (World.block_lt_of_cell? w _ hw600_2)).trans hw600_2)
                      have hs9_ : w'.cell? ⟨(ad598.add ((x4_1).toNat * 6)).block, (ad598.add ((x4_1).toNat * 6)).off + 3, none⟩ = some (.int .i64 ((rd_T62 l0 x4_1).f1.f2)) := ((HB.out.cell (World.block_lt_of_cell? w _ hw600_3)).trans hw600_3)
                      have hs10_ : w'.cell? ⟨(ad598.add ((x4_1).toNat * 6)).block, (ad598.add ((x4_1).toNat * 6)).off + 4, none⟩ = some (.int .i64 ((rd_T62 l0 x4_1).f1.f3)) := ((HB.out.cell (World.block_lt_of_cell? w _ hw600_4)).trans hw600_4)
                      have hs11_ : w'.cell? ⟨(ad598.add ((x4_1).toNat * 6)).block, (ad598.add ((x4_1).toNat * 6)).off + 5, none⟩ = some (.int .i64 ((rd_T62 l0 x4_1).f1.f4)) := ((HB.out.cell (World.block_lt_of_cell? w _ hw600_5)).trans hw600_5)
                      refine value_ (w1 := w') (v := .pointer (some (ad598.add ((x4_1).toNat * 6)))) (by rfl) rfl ?_ ?_
                      · go_simp
                        (try simp only [i64_w])
                        try rfl
                      refine hK.out _ _ ⟨v602, (by rw [ha.out]; exact putSel_upk 6 hb_ rfl rfl rfl), Q_HB, fun h0_ => absurd ((hoff 14 (by kernel_rfl)).symm.trans h0_) (by decide)⟩
                    refine steps_cons ?_ ?_
                    · rintro b a w' ⟨v602, ha, Q_HB, Q_HO603⟩ hb_ hon hoff
                      refine ⟨_, rfl, fun K hK => ?_⟩
                      have e26 : a.tmps[26]? = some (.pointer (some (ad598.add ((x4_1).toNat * 6)))) := by rw [ha]; exact putSel_on (e := (11, 26, .pointer (some (ad598.add ((x4_1).toNat * 6))))) 6 rfl rfl (hon 11 (by kernel_rfl)) rfl
                      replace ha := Aside0.mk ha
                      have HB := Aside0.mk Q_HB
                      refine value_ (w1 := w') (v := .pointer (some ⟨(ad598.add ((x4_1).toNat * 6)).block, (ad598.add ((x4_1).toNat * 6)).off + 1, none⟩)) (by rfl) rfl ?_ ?_
                      · go_simp
                        (try simp only [i64_w])
                        try rfl
                      refine hK.out _ _ ⟨v602, (by rw [ha.out]; exact putSel_upk 7 hb_ rfl rfl rfl), Q_HB, fun h0_ => absurd ((hoff 14 (by kernel_rfl)).symm.trans h0_) (by decide)⟩
                    refine steps_cons ?_ ?_
                    · rintro b a w' ⟨v602, ha, Q_HB, Q_HO603⟩ hb_ hon hoff
                      refine ⟨_, rfl, fun K hK => ?_⟩
                      have e27 : a.tmps[27]? = some (.pointer (some ⟨(ad598.add ((x4_1).toNat * 6)).block, (ad598.add ((x4_1).toNat * 6)).off + 1, none⟩)) := by rw [ha]; exact putSel_on (e := (12, 27, .pointer (some ⟨(ad598.add ((x4_1).toNat * 6)).block, (ad598.add ((x4_1).toNat * 6)).off + 1, none⟩))) 7 rfl rfl (hon 12 (by kernel_rfl)) rfl
                      replace ha := Aside0.mk ha
                      have HB := Aside0.mk Q_HB
                      have hs6_ : w'.cell? (ad598.add ((x4_1).toNat * 6)) = some (.int .i64 ((rd_T62 l0 x4_1).f0)) := ((HB.out.cell (World.block_lt_of_cell? w _ hw600_0)).trans hw600_0)
                      have hs7_ : w'.cell? ⟨(ad598.add ((x4_1).toNat * 6)).block, (ad598.add ((x4_1).toNat * 6)).off + 1, none⟩ = some (.int .i64 ((rd_T62 l0 x4_1).f1.f0)) := ((HB.out.cell (World.block_lt_of_cell? w _ hw600_1)).trans hw600_1)
                      have hs8_ : w'.cell? ⟨(ad598.add ((x4_1).toNat * 6)).block, (ad598.add ((x4_1).toNat * 6)).off + 2, none⟩ = some (.int .i64 ((rd_T62 l0 x4_1).f1.f1)) := ((HB.out.cell (World.block_lt_of_cell? w _ hw600_2)).trans hw600_2)
                      have hs9_ : w'.cell? ⟨(ad598.add ((x4_1).toNat * 6)).block, (ad598.add ((x4_1).toNat * 6)).off + 3, none⟩ = some (.int .i64 ((rd_T62 l0 x4_1).f1.f2)) := ((HB.out.cell (World.block_lt_of_cell? w _ hw600_3)).trans hw600_3)
                      have hs10_ : w'.cell? ⟨(ad598.add ((x4_1).toNat * 6)).block, (ad598.add ((x4_1).toNat * 6)).off + 4, none⟩ = some (.int .i64 ((rd_T62 l0 x4_1).f1.f3)) := ((HB.out.cell (World.block_lt_of_cell? w _ hw600_4)).trans hw600_4)
                      have hs11_ : w'.cell? ⟨(ad598.add ((x4_1).toNat * 6)).block, (ad598.add ((x4_1).toNat * 6)).off + 5, none⟩ = some (.int .i64 ((rd_T62 l0 x4_1).f1.f4)) := ((HB.out.cell (World.block_lt_of_cell? w _ hw600_5)).trans hw600_5)
                      refine value_ (w1 := w') (v := .agg #[.int .i64 ((rd_T62 l0 x4_1).f1.f0), .int .i64 ((rd_T62 l0 x4_1).f1.f1), .int .i64 ((rd_T62 l0 x4_1).f1.f2), .int .i64 ((rd_T62 l0 x4_1).f1.f3), .int .i64 ((rd_T62 l0 x4_1).f1.f4)]) (by rfl) rfl ?_ ?_
                      · go_simp
                        (try simp only [i64_w])
                        try rfl
                      refine hK.out _ _ ⟨v602, (by rw [ha.out]; exact putSel_upk 8 hb_ rfl rfl rfl), Q_HB, fun h0_ => absurd ((hoff 14 (by kernel_rfl)).symm.trans h0_) (by decide)⟩
                    refine steps_cons ?_ ?_
                    · rintro b a w' ⟨v602, ha, Q_HB, Q_HO603⟩ hb_ hon hoff
                      refine ⟨_, rfl, fun K hK => ?_⟩
                      have e28 : a.tmps[28]? = some (.agg #[.int .i64 ((rd_T62 l0 x4_1).f1.f0), .int .i64 ((rd_T62 l0 x4_1).f1.f1), .int .i64 ((rd_T62 l0 x4_1).f1.f2), .int .i64 ((rd_T62 l0 x4_1).f1.f3), .int .i64 ((rd_T62 l0 x4_1).f1.f4)]) := by rw [ha]; exact putSel_on (e := (13, 28, .agg #[.int .i64 ((rd_T62 l0 x4_1).f1.f0), .int .i64 ((rd_T62 l0 x4_1).f1.f1), .int .i64 ((rd_T62 l0 x4_1).f1.f2), .int .i64 ((rd_T62 l0 x4_1).f1.f3), .int .i64 ((rd_T62 l0 x4_1).f1.f4)])) 8 rfl rfl (hon 13 (by kernel_rfl)) rfl
                      replace ha := Aside0.mk ha
                      have HB := Aside0.mk Q_HB
                      refine Kd.R_lit_step k60 _ 60 ?hg (N := 29) ?hd (xs := ([(⟨(rd_T62 l0 x4_1).f1.f0, (rd_T62 l0 x4_1).f1.f1, (rd_T62 l0 x4_1).f1.f2, (rd_T62 l0 x4_1).f1.f3, (rd_T62 l0 x4_1).f1.f4⟩ : S60)] : List (S60))) (inner := [.int .i64 ((rd_T62 l0 x4_1).f1.f0), .int .i64 ((rd_T62 l0 x4_1).f1.f1), .int .i64 ((rd_T62 l0 x4_1).f1.f2), .int .i64 ((rd_T62 l0 x4_1).f1.f3), .int .i64 ((rd_T62 l0 x4_1).f1.f4)]) (ok := fun _ => True) (okp := fun _ => True) ?hr ?hp (fun _ hk => hk) trivial (Below.refl _ _) (Nat.le_refl _) (by simp) ?_; (case hd => rfl); (case hg => rfl); (case hr => first | (go_simp; done) | (go_simp; rfl)); (case hp => exact (Reps.c5 (show Kd.M k60 _ _ _ (⟨(rd_T62 l0 x4_1).f1.f0, (rd_T62 l0 x4_1).f1.f1, (rd_T62 l0 x4_1).f1.f2, (rd_T62 l0 x4_1).f1.f3, (rd_T62 l0 x4_1).f1.f4⟩ : S60) [.int .i64 ((rd_T62 l0 x4_1).f1.f0), .int .i64 ((rd_T62 l0 x4_1).f1.f1), .int .i64 ((rd_T62 l0 x4_1).f1.f2), .int .i64 ((rd_T62 l0 x4_1).f1.f3), .int .i64 ((rd_T62 l0 x4_1).f1.f4)] from (k60_mkM _ _ _ (⟨(rd_T62 l0 x4_1).f1.f0, (rd_T62 l0 x4_1).f1.f1, (rd_T62 l0 x4_1).f1.f2, (rd_T62 l0 x4_1).f1.f3, (rd_T62 l0 x4_1).f1.f4⟩ : S60) )) (Reps.none _ _)))
                      intro v602 w25 ho26 hb hg_ hnew_
                      clear hg_ hnew_
                      (first | rw [← Ny601.out] at ho26 | (simp only [Int.reduceToNat] at ho26; rw [← Ny601.out] at ho26))
                      have n0_ := Aside0.mk (Kd.R_lower ho26 (below_size (by repeat (first | (with_reducible first | exact HB.out | apply below_alloc | apply pw_below_drewN | apply below_drew1) | exact HB.out))))
                      have n1_ := Aside0.mk (below_step (by repeat (first | (with_reducible first | exact HB.out | apply below_alloc | apply pw_below_drewN | apply below_drew1) | exact HB.out)) hb)
                      clear HB
                      have HO603 := n0_
                      have HB := n1_
                      clear n0_ n1_
                      clear hb ho26
                      refine hK.out _ _ ⟨v602, (by rw [ha.out]; exact putSel_upk 9 hb_ rfl rfl rfl), (by repeat (first | (with_reducible first | exact HB.out | apply below_alloc | apply pw_below_drewN | apply below_drew1) | exact HB.out)), fun _ => (by (with_reducible repeat (first | apply Kd.R_alloc | apply Kd.R_drewN | apply Kd.R_drew)); exact HO603.out)⟩
                    refine steps_cons ?_ ?_
                    · rintro b a w' ⟨v602, ha, Q_HB, Q_HO603⟩ hb_ hon hoff
                      refine ⟨_, rfl, fun K hK => ?_⟩
                      have e29 : a.tmps[29]? = some (v602) := by rw [ha]; exact putSel_on (e := (14, 29, v602)) 9 rfl rfl (hon 14 (by kernel_rfl)) rfl
                      replace ha := Aside0.mk ha
                      have HB := Aside0.mk Q_HB
                      have HO603 := Aside0.mk (Q_HO603 (hon 14 (by kernel_rfl)))
                      obtain ⟨Ao29, co29, eo29⟩ := Kd.R_slice HO603.out
                      (first | subst eo29 | (injection eo29 with f1_ f2_ f3_; have f4_ := f1_.symm; have f5_ := f3_.symm; clear f1_ f2_ f3_; subst f4_; subst f5_))
                      refine goes_ Try.func108 (by kernel_rfl) rfl #[.slice Ao29 y601.length co29] (by rfl) rfl rfl (by first | (simp only [List.map_toArray, List.map_cons, List.map_nil, Act.eval, Array.getD_eq_getD_getElem?, Option.getD_some, e29]; done) | (simp only [List.map_toArray, List.map_cons, List.map_nil, Act.eval, Array.getD_eq_getD_getElem?, Option.getD_some, e29]; rfl)) ?_
                      with_reducible refine (spec_FormatGroups.calls k1 _ _ y601 t604 _ ?side1 ?side2 A22.out).mono ?_
                      (case side1 => repeat (first | exact (Kd.R_reads' HO603.out).2.2 | (with_reducible refine Kd.C_alloc ?_ _) | (with_reducible refine Kd.C_drewN ?_ _) | (with_reducible refine Kd.C_drew ?_)))
                      (case side2 => exact (Kd.R_reads' HO603.out).2.1)
                      rintro e w30 ⟨rfl, hb⟩
                      refine ⟨_, rfl, ?_⟩
                      have n0_ := Aside0.mk (Kd.R_below (by (with_reducible repeat (first | apply Kd.R_alloc | apply Kd.R_drewN | apply Kd.R_drew)); exact HO603.out) hb)
                      have n1_ := Aside0.mk (below_step (by repeat (first | (with_reducible first | exact HB.out | apply below_alloc | apply pw_below_drewN | apply below_drew1) | exact HB.out)) hb)
                      clear HO603
                      clear HB
                      have HO603 := n0_
                      have HB := n1_
                      clear n0_ n1_
                      (try clear hb)
                      (try clear hb2)
                      (try clear hk)
                      (try clear hi)
                      refine hK.out _ _ ⟨.slice Ao29 y601.length co29, (by rw [ha.out]; exact putSel_upk 10 hb_ rfl rfl rfl), (by repeat (first | (with_reducible first | exact HB.out | apply below_alloc | apply pw_below_drewN | apply below_drew1) | exact HB.out)), fun _ => (by (with_reducible repeat (first | apply Kd.R_alloc | apply Kd.R_drewN | apply Kd.R_drew)); exact HO603.out)⟩
                    refine steps_cons ?_ ?_
                    · rintro b a w' ⟨v602, ha, Q_HB, Q_HO603⟩ hb_ hon hoff
                      refine ⟨_, rfl, fun K hK => ?_⟩
                      have e23 : a.tmps[23]? = some (.string ((x3_1 ++ t599) ++ (⟨#[47]⟩ : ByteArray))) := by rw [ha]; exact putSel_on (e := (8, 23, .string ((x3_1 ++ t599) ++ (⟨#[47]⟩ : ByteArray)))) 5 rfl rfl (hon 8 (by kernel_rfl)) rfl
                      have e30 : a.tmps[30]? = some (.string t604) := by rw [ha]; exact putSel_on (e := (15, 30, .string t604)) 10 rfl rfl (hon 15 (by kernel_rfl)) rfl
                      replace ha := Aside0.mk ha
                      have HB := Aside0.mk Q_HB
                      have HO603 := Aside0.mk (Q_HO603 (hon 14 (by kernel_rfl)))
                      refine value_ (w1 := w') (v := .string (((x3_1 ++ t599) ++ (⟨#[47]⟩ : ByteArray)) ++ t604)) (by rfl) rfl ?_ ?_
                      · go_simp
                        (try simp only [i64_w])
                        try rfl
                      refine hK.out _ _ ⟨v602, (by rw [ha.out]; exact putSel_upk 11 hb_ rfl rfl rfl), Q_HB, Q_HO603⟩
                    refine steps_cons ?_ ?_
                    · rintro b a w' ⟨v602, ha, Q_HB, Q_HO603⟩ hb_ hon hoff
                      refine ⟨_, rfl, fun K hK => ?_⟩
                      have e31 : a.tmps[31]? = some (.string (((x3_1 ++ t599) ++ (⟨#[47]⟩ : ByteArray)) ++ t604)) := by rw [ha]; exact putSel_on (e := (16, 31, .string (((x3_1 ++ t599) ++ (⟨#[47]⟩ : ByteArray)) ++ t604))) 11 rfl rfl (hon 16 (by kernel_rfl)) rfl
                      replace ha := Aside0.mk ha
                      have HB := Aside0.mk Q_HB
                      have HO603 := Aside0.mk (Q_HO603 (hon 14 (by kernel_rfl)))
                      refine value_ (w1 := w') (v := .string (((x3_1 ++ t599) ++ (⟨#[47]⟩ : ByteArray)) ++ t604)) (by rfl) rfl ?_ ?_
                      · go_simp
                        (try simp only [i64_w])
                        try rfl
                      refine hK.out _ _ ⟨v602, (by rw [ha.out]; exact putSel_upk 12 hb_ rfl rfl rfl), Q_HB, Q_HO603⟩
                    exact steps_nil
                  rintro b a w30 hall ⟨v602, ha, Q_HB, Q_HO603⟩
                  clear HB
                  have hb3_ := hall 3 (by kernel_rfl)
                  have hb4_ := hall 4 (by kernel_rfl)
                  have hb5_ := hall 5 (by kernel_rfl)
                  have hb6_ := hall 6 (by kernel_rfl)
                  have hb7_ := hall 7 (by kernel_rfl)
                  have hb8_ := hall 8 (by kernel_rfl)
                  have hb11_ := hall 11 (by kernel_rfl)
                  have hb12_ := hall 12 (by kernel_rfl)
                  have hb13_ := hall 13 (by kernel_rfl)
                  have hb14_ := hall 14 (by kernel_rfl)
                  have hb15_ := hall 15 (by kernel_rfl)
                  have hb16_ := hall 16 (by kernel_rfl)
                  have hb17_ := hall 17 (by kernel_rfl)
                  subst ha
                  simp only [putSel, hb3_, hb4_, hb5_, hb6_, hb7_, hb8_, hb11_, hb12_, hb13_, hb14_, hb15_, hb16_, hb17_, if_true, Act.put, List.setIfInBounds_toArray, List.set_cons_zero, List.set_cons_succ]
                  have HB := Aside0.mk Q_HB
                  clear Q_HB
                  have HO603 := Aside0.mk (Q_HO603 hb14_)
                  clear Q_HO603
                  clear hall hb3_ hb4_ hb5_ hb6_ hb7_ hb8_ hb11_ hb12_ hb13_ hb14_ hb15_ hb16_ hb17_
                  try go_wp2
                  go_roundg k1
                  case measure => have := HK1.out; omega
                  case rel => exact ⟨(((x3_1 ++ t599) ++ (⟨#[47]⟩ : ByteArray)) ++ t604), (wrap64 (x4_1 + 1)), (by first | rfl | (simp; done) | (simp [*]; done) | (simp; exact isE_ _)), (by first | rfl | (simp; done) | (simp [*]; done) | (simp; exact isE_ _)), H', ⟨by have := HK1.out; omega⟩, ⟨by repeat (first | (with_reducible first | exact HB.out | apply below_alloc | apply pw_below_drewN | apply below_drew1) | exact HB.out)⟩⟩
                · rw [if_neg c23] at H
                  exact absurd H (by simp)
              · rw [if_neg c21] at H
                exact absurd H (by simp)
            · rw [if_neg c20] at H
              exact absurd H (by simp)
          · rw [if_neg c18] at H
            exact absurd H (by simp)
      · rw [if_neg c2] at H
        have c2b0 : decide (x4_1 < (l0.length : Int)) = false := decide_eq_false c2
        clear c2
        obtain rfl := Option.some.inj H
        go_wp2
        go_ret
        exact ⟨by first | rfl | (simp [errW_none, errW_some] <;> rfl) | (simp [*, errW_none, errW_some] <;> rfl), by repeat (first | (with_reducible first | exact HB.out | apply below_alloc | apply pw_below_drewN | apply below_drew1) | exact HB.out)⟩

end Go.Proofs.Ytphkghnppcfdpaa.P
namespace Go.Proofs.Ytphkghnppcfdpaa.P
open Go.RowKit Go.Proofs.YtphkghnppcfdpaaW.PrintWords Go.Proofs.YtphkghnppcfdpaaW.PrintLast Go.Proofs.YtphkghnppcfdpaaW.PrintMore
attribute [local go_sem] max2_int min2_int max_two min_two max_three min_three max_four min_four   -- for this text's walks alone
set_option linter.unusedVariables false
set_option linter.unusedSimpArgs false

attribute [local go_sem high] eqA62
set_option maxHeartbeats 8000000
set_option maxRecDepth 100000
mutual
def laws_FnRollup.j0 : Nat → List (S114) → List (S62) → List (S62) → List (S62) → Bool → Option (Bool)
 | 0, _, _, _, _, _ => none
 | k + 1, x3, x4, x5, x6, x66 => if x66 = true then (none) else (laws_FnRollup.l0 k x3 x4 x5 x6 ([0, 0, 0] : List Int) 0)
def laws_FnRollup.l0 : Nat → List (S114) → List (S62) → List (S62) → List (S62) → List Int → Int → Option (Bool)
 | 0, _, _, _, _, _, _ => none
 | k + 1, x3, x4, x5, x6, x10, x11 => if x11 < (x4.length : Int) then (if 0 ≤ x11 then (if x11 < (x5.length : Int) then (if (!(((rd_T62 x4 x11).f0) == ((rd_T62 x5 x11).f0)) || ((!(((rd_T62 x4 x11).f1.f0) == ((rd_T62 x5 x11).f1.f0)) || (!(((rd_T62 x4 x11).f1.f1) == ((rd_T62 x5 x11).f1.f1)) || (!(((rd_T62 x4 x11).f1.f2) == ((rd_T62 x5 x11).f1.f2)) || (!(((rd_T62 x4 x11).f1.f3) == ((rd_T62 x5 x11).f1.f3)) || (!(((rd_T62 x4 x11).f1.f4) == ((rd_T62 x5 x11).f1.f4))))))))) = true then (none) else (if x11 < (x6.length : Int) then (if (!(((rd_T62 x6 x11).f0) == ((rd_T62 x4 x11).f0)) || ((!(((rd_T62 x6 x11).f1.f0) == ((rd_T62 x4 x11).f1.f0)) || (!(((rd_T62 x6 x11).f1.f1) == ((rd_T62 x4 x11).f1.f1)) || (!(((rd_T62 x6 x11).f1.f2) == ((rd_T62 x4 x11).f1.f2)) || (!(((rd_T62 x6 x11).f1.f3) == ((rd_T62 x4 x11).f1.f3)) || (!(((rd_T62 x6 x11).f1.f4) == ((rd_T62 x4 x11).f1.f4))))))))) = true then (none) else (if ((rd_T62 x4 x11).f0) < 0 then (none) else (if ((rd_T62 x4 x11).f0) > 2 then (none) else (if 0 ≤ ((rd_T62 x4 x11).f0) then (if ((rd_T62 x4 x11).f0) < (x10.length : Int) then (laws_FnRollup.l0 k x3 x4 x5 x6 (x10.set (((rd_T62 x4 x11).f0) : Int).toNat (wrap64 ((rd x10 ((rd_T62 x4 x11).f0)) + ((rd_T62 x4 x11).f1.f1)))) (wrap64 (x11 + 1))) else (none)) else (none))))) else (none))) else (none)) else (none)) else (if 0 < (x10.length : Int) then (if (rd x10 0) = (x3.length : Int) then (if 1 < (x10.length : Int) then (if (rd x10 1) = (x3.length : Int) then (if 2 < (x10.length : Int) then (some ((rd x10 2) == (x3.length : Int))) else (none)) else (none)) else (none)) else (none)) else (none))
end
def laws_FnRollup.f (k : Nat) (l0 : List Int) : Option (Bool) := (laws_big.f l0).bind fun t605 => (if t605 = true then (some true) else ((spec_DrawRollupRows.f k l0).bind fun t606 => ((impl_RollupRows.f k t606).bind fun t609 => ((spec_RollupRows.f k t606).bind fun t612 => ((impl_ReferenceGroups.f k t606).bind fun t615 => ((impl_RollupGroups.f k t615).bind fun t618 => ((spec_DrawRollupKey.f k l0).bind fun bt621 => ((spec_DrawRollupGroups.f k l0).bind fun t623 => (if (t609.length : Int) = (t612.length : Int) then (if (t618.length : Int) = (t609.length : Int) then ((impl_RollupKey.f bt621.1 bt621.2).bind fun t626 => ((spec_RollupKey.f bt621.1 bt621.2).bind fun t627 => (if t626 = t627 then ((impl_FormatRollup.f k t609).bind fun t628 => ((spec_FormatRollup.f k t612).bind fun t629 => (if t628.toList = t629.toList then ((impl_RollupGroups.f k t623).bind fun t630 => ((impl_FormatRollup.f k t630).bind fun t633 => ((spec_RollupGroups.f k t623).bind fun t634 => ((spec_FormatRollup.f k t634).bind fun t637 => (laws_FnRollup.j0 k t606 t609 t612 t618 (t633.toList != t637.toList)))))) else (none)))) else (none)))) else (none)) else (none))))))))))
def laws_FnRollup.T15 : Bool × List (List Nat × List Nat) := (true, [([], []), ([], []), ([0, 1], [0, 1]), ([2], [2]), ([], []), ([], []), ([4, 5], [4, 5]), ([6], [6]), ([3, 7], [3, 7]), ([8], [8]), ([9], [9]), ([9], [9]), ([10, 11, 9], [9, 10, 11]), ([12, 9], [9, 12]), ([9], [9]), ([9], [9]), ([14, 15, 9], [9, 14, 15]), ([16, 9], [9, 16]), ([13, 17, 9], [9, 13, 17]), ([9, 18], [9, 18]), ([19, 9], [19]), ([20], [20]), ([20], [20]), ([21, 22, 20], [20, 21, 22]), ([23, 20], [20, 23]), ([24, 20], [20, 24]), ([25, 20], [20, 25]), ([20, 26], [20, 26]), ([27, 20], [27]), ([28], [28]), ([28], [28]), ([29, 30, 28], [28, 29, 30]), ([31, 28], [28, 31]), ([32, 28], [28, 32]), ([33, 28], [28, 33]), ([28, 34], [28, 34])])
def laws_FnRollup.B15 : List Nat := [0, 0, 3, 7, 0, 0, 48, 112, 255, 511, 1023, 1023, 4095, 8191, 1023, 1023, 50175, 115711, 262143, 524287, 1048575, 2097151, 2097151, 8388607, 16777215, 33554431, 67108863, 134217727, 268435455, 536870911, 536870911, 2147483647, 4294967295, 8589934591, 17179869183, 34359738367]
theorem laws_FnRollup.tab15 : rtab .any (opsOf Try.f6 15) = laws_FnRollup.T15 := by kernel_rfl
theorem laws_FnRollup.bits15 : waitsOk laws_FnRollup.T15.2 laws_FnRollup.B15 = true := by kernel_rfl
def laws_FnRollup.T17 : Bool × List (List Nat × List Nat) := (true, [([], []), ([], []), ([], []), ([1, 2], [1, 2]), ([3], [3]), ([4], [4]), ([], []), ([], []), ([], []), ([7, 8], [7, 8]), ([9], [9]), ([10], [10]), ([6, 11], [6, 11]), ([12], [12]), ([], []), ([], []), ([14, 15], [14, 15]), ([16], [16]), ([17], [17]), ([18], [18]), ([13, 19], [13, 19]), ([0, 5, 0, 1, 2, 3, 4, 5, 6, 7, 8, 9, 10, 11, 12, 13, 14, 15, 16, 17, 18, 19, 20], [0, 5]), ([21, 20, 0, 1, 2, 3, 4, 5, 6, 7, 8, 9, 10, 11, 12, 13, 14, 15, 16, 17, 18, 19, 20], [20, 21])])
def laws_FnRollup.B17 : List Nat := [0, 0, 0, 6, 14, 30, 0, 0, 0, 384, 896, 1920, 4032, 8128, 0, 0, 49152, 114688, 245760, 507904, 1048512, 2097151, 4194303]
theorem laws_FnRollup.tab17 : rtab .any (opsOf Try.f6 17) = laws_FnRollup.T17 := by kernel_rfl
theorem laws_FnRollup.bits17 : waitsOk laws_FnRollup.T17.2 laws_FnRollup.B17 = true := by kernel_rfl
theorem laws_FnRollup.calls (k : Nat) (A0 : Option Addr) (c0 : Nat) (l0 : List Int) (r : Bool) (w : World) (hr0 : Kd.C (Kd.int .u8) w A0 l0.length l0) (hc0 : l0.length ≤ c0) (h : laws_FnRollup.f k l0 = some r) :
  Calls Try.prog 6 #[.slice A0 l0.length c0] w fun e w' => e = .returned (.bool r) ∧ Below w.heap.size w w' := by
 have hu62 := Try.underlying62
 have HR0 := Aside0.mk hr0
 have HC0 := Aside0.mk hc0
 clear hr0 hc0
 have HB := Aside0.mk (Below.refl w.heap.size w)
 have H : ((laws_big.f l0).bind fun t605 => (if t605 = true then (some true) else ((spec_DrawRollupRows.f k l0).bind fun t606 => ((impl_RollupRows.f k t606).bind fun t609 => ((spec_RollupRows.f k t606).bind fun t612 => ((impl_ReferenceGroups.f k t606).bind fun t615 => ((impl_RollupGroups.f k t615).bind fun t618 => ((spec_DrawRollupKey.f k l0).bind fun bt621 => ((spec_DrawRollupGroups.f k l0).bind fun t623 => (if (t609.length : Int) = (t612.length : Int) then (if (t618.length : Int) = (t609.length : Int) then ((impl_RollupKey.f bt621.1 bt621.2).bind fun t626 => ((spec_RollupKey.f bt621.1 bt621.2).bind fun t627 => (if t626 = t627 then ((impl_FormatRollup.f k t609).bind fun t628 => ((spec_FormatRollup.f k t612).bind fun t629 => (if t628.toList = t629.toList then ((impl_RollupGroups.f k t623).bind fun t630 => ((impl_FormatRollup.f k t630).bind fun t633 => ((spec_RollupGroups.f k t623).bind fun t634 => ((spec_FormatRollup.f k t634).bind fun t637 => (laws_FnRollup.j0 k t606 t609 t612 t618 (t633.toList != t637.toList)))))) else (none)))) else (none)))) else (none)) else (none))))))))))) = some r := h
 clear h
 replace H := Option.bind_eq_some_iff.mp H
 obtain ⟨t605, A20, H⟩ := H
 have A2 := Aside0.mk A20
 clear A20
 by_cases c3 : t605 = true
 ·subst c3
  rw [if_pos rfl] at H
  obtain rfl := Option.some.inj H
  go_enter Try.func6, Try.ntmps6
  go_wp2_with (((with_reducible refine gate_callee (f := 32) rfl ?_); refine goesL_ (some 13) rfl rfl Try.func32 (by kernel_rfl) rfl #[.slice A0 l0.length c0] rfl (by (try simp only [List.map_toArray, List.map_cons, List.map_nil]); rfl) ?_; (with_reducible refine (laws_big.calls _ _ l0 true _ ?side1 ?side2 A2.out).mono ?_); (case side1 => repeat (exact HR0.out)); (case side2 => exact HC0.out); rintro e w' ⟨rfl, ⟨nd, rfl⟩⟩; refine ⟨_, rfl, ?_⟩))
  go_ret
  exact ⟨rfl, by repeat ((with_reducible first | exact HB.out | apply pw_below_drewN))⟩
 ·replace c3 := Bool.eq_false_iff.mpr c3
  subst c3
  rw [if_neg (show ¬ (false = true) by decide)] at H
  replace H := Option.bind_eq_some_iff.mp H
  obtain ⟨t606, A40, H⟩ := H
  have A4 := Aside0.mk A40
  clear A40
  replace H := Option.bind_eq_some_iff.mp H
  obtain ⟨t609, A50, H⟩ := H
  have A5 := Aside0.mk A50
  clear A50
  replace H := Option.bind_eq_some_iff.mp H
  obtain ⟨t612, A60, H⟩ := H
  have A6 := Aside0.mk A60
  clear A60
  replace H := Option.bind_eq_some_iff.mp H
  obtain ⟨t615, A70, H⟩ := H
  have A7 := Aside0.mk A70
  clear A70
  replace H := Option.bind_eq_some_iff.mp H
  obtain ⟨t618, A80, H⟩ := H
  have A8 := Aside0.mk A80
  clear A80
  replace H := Option.bind_eq_some_iff.mp H
  obtain ⟨⟨t621, t622⟩, A90, H⟩ := H
  have A9 := Aside0.mk A90
  clear A90
  replace H := Option.bind_eq_some_iff.mp H
  obtain ⟨t623, A100, H⟩ := H
  have A10 := Aside0.mk A100
  clear A100
  have HC11 := Aside0.mk H
  clear H
  go_enter Try.func6, Try.ntmps6
  go_upto_region 9 with (first | ((with_reducible refine gate_callee (f := 32) rfl ?_); refine goesL_ (some 13) rfl rfl Try.func32 (by kernel_rfl) rfl #[.slice A0 l0.length c0] rfl (by (try simp only [List.map_toArray, List.map_cons, List.map_nil]); rfl) ?_; (with_reducible refine (laws_big.calls _ _ l0 false _ ?side1 ?side2 A2.out).mono ?_); (case side1 => repeat (exact HR0.out)); (case side2 => exact HC0.out); rintro e w' ⟨rfl, ⟨nd, rfl⟩⟩; refine ⟨_, rfl, ?_⟩) | ((with_reducible refine gate_callee (f := 33) rfl ?_); refine goesL_ (some 15) rfl rfl Try.func33 (by kernel_rfl) rfl #[.slice A0 l0.length c0] rfl (by (try simp only [List.map_toArray, List.map_cons, List.map_nil]); rfl) ?_; (with_reducible refine (spec_DrawRollupRows.calls k _ _ l0 t606 _ ?side1 ?side2 A4.out).mono ?_); (case side1 => repeat (exact HR0.out)); (case side2 => exact HC0.out); rintro e w12 ⟨v607, rfl, ho0, hb⟩; refine ⟨_, rfl, ?_⟩; have n0_ := Aside0.mk (Kd.R_lower ho0 (below_size (by repeat (with_reducible first | exact HB.out | apply pw_below_drewN)))); have n1_ := Aside0.mk (below_step (by repeat (with_reducible first | exact HB.out | apply pw_below_drewN)) hb); clear HB; have HO608 := n0_; have HB := n1_; clear n0_ n1_; (try clear hb); (try clear ho0); obtain ⟨Ao13, co13, eo13⟩ := Kd.R_slice HO608.out; subst eo13) | ((with_reducible refine gate_callee (f := 29) rfl ?_); refine goesL_ (some 17) rfl rfl Try.func29 (by kernel_rfl) rfl #[.slice Ao13 t606.length co13] rfl (by (try simp only [List.map_toArray, List.map_cons, List.map_nil]); rfl) ?_; (with_reducible refine (impl_RollupRows.calls k _ _ t606 t609 _ ?side1 ?side2 A5.out).mono ?_); (case side1 => repeat (exact (Kd.R_reads' HO608.out).2.2)); (case side2 => exact (Kd.R_reads' HO608.out).2.1); rintro e w14 ⟨v610, rfl, ho0, hb⟩; refine ⟨_, rfl, ?_⟩; have n0_ := Aside0.mk (Kd.R_below HO608.out hb); have n1_ := Aside0.mk (Kd.R_lower ho0 (below_size HB.out)); have n2_ := Aside0.mk (below_step HB.out hb); clear HO608; clear HB; have HO608 := n0_; have HO611 := n1_; have HB := n2_; clear n0_ n1_ n2_; (try clear hb); (try clear ho0)) | ((with_reducible refine gate_callee (f := 27) rfl ?_); refine goesL_ (some 19) rfl rfl Try.func27 (by kernel_rfl) rfl #[.slice Ao13 t606.length co13] rfl (by (try simp only [List.map_toArray, List.map_cons, List.map_nil]); rfl) ?_; (with_reducible refine (spec_RollupRows.calls k _ _ t606 t612 _ ?side1 ?side2 A6.out).mono ?_); (case side1 => repeat (exact (Kd.R_reads' HO608.out).2.2)); (case side2 => exact (Kd.R_reads' HO608.out).2.1); rintro e w15 ⟨v613, rfl, ho0, hb⟩; refine ⟨_, rfl, ?_⟩; have n0_ := Aside0.mk (Kd.R_below HO608.out hb); have n1_ := Aside0.mk (Kd.R_elder' HO611.out (Kd.R_base ho0) hb); have n2_ := Aside0.mk (Kd.R_lower (Kd.R_new' ho0 (Kd.R_lt HO611.out)) (below_size HB.out)); have n3_ := Aside0.mk (below_step HB.out hb); clear HO608; clear HO611; clear HB; have HO608 := n0_; have HO611 := n1_; have HO614 := n2_; have HB := n3_; clear n0_ n1_ n2_ n3_; (try clear hb); (try clear ho0)) | ((with_reducible refine gate_callee (f := 34) rfl ?_); refine goesL_ (some 21) rfl rfl Try.func34 (by kernel_rfl) rfl #[.slice Ao13 t606.length co13] rfl (by (try simp only [List.map_toArray, List.map_cons, List.map_nil]); rfl) ?_; (with_reducible refine (impl_ReferenceGroups.calls k _ _ t606 t615 _ ?side1 ?side2 A7.out).mono ?_); (case side1 => repeat (exact (Kd.R_reads' HO608.out).2.2)); (case side2 => exact (Kd.R_reads' HO608.out).2.1); rintro e w16 ⟨v616, rfl, ho0, hb⟩; refine ⟨_, rfl, ?_⟩; have n0_ := Aside0.mk (Kd.R_below HO608.out hb); have n1_ := Aside0.mk (Kd.R_below HO611.out hb); have n2_ := Aside0.mk (Kd.R_below HO614.out hb); have n3_ := Aside0.mk (Kd.R_lower ho0 (below_size HB.out)); have n4_ := Aside0.mk (below_step HB.out hb); clear HO608; clear HO611; clear HO614; clear HB; have HO608 := n0_; have HO611 := n1_; have HO614 := n2_; have HO617 := n3_; have HB := n4_; clear n0_ n1_ n2_ n3_ n4_; (try clear hb); (try clear ho0); obtain ⟨Ao17, co17, eo17⟩ := Kd.R_slice HO617.out; subst eo17) | ((with_reducible refine gate_callee (f := 20) rfl ?_); refine goesL_ (some 22) rfl rfl Try.func20 (by kernel_rfl) rfl #[.slice Ao17 t615.length co17] rfl (by (try simp only [List.map_toArray, List.map_cons, List.map_nil]); rfl) ?_; (with_reducible refine (impl_RollupGroups.calls k _ _ t615 t618 _ ?side1 ?side2 A8.out).mono ?_); (case side1 => repeat (exact (Kd.R_reads' HO617.out).2.2)); (case side2 => exact (Kd.R_reads' HO617.out).2.1); rintro e w18 ⟨v619, rfl, ho0, hb⟩; refine ⟨_, rfl, ?_⟩; have n0_ := Aside0.mk (Kd.R_below HO608.out hb); have n1_ := Aside0.mk (Kd.R_elder' HO611.out (Kd.R_base ho0) hb); have n2_ := Aside0.mk (Kd.R_elder' HO614.out (Kd.R_base ho0) hb); have n3_ := Aside0.mk (Kd.R_below HO617.out hb); have n4_ := Aside0.mk (Kd.R_lower (Kd.R_new' (Kd.R_new' ho0 (Kd.R_lt HO611.out)) (Kd.R_lt HO614.out)) (below_size HB.out)); have n5_ := Aside0.mk (below_step HB.out hb); clear HO608; clear HO611; clear HO614; clear HO617; clear HB; have HO608 := n0_; have HO611 := n1_; have HO614 := n2_; have HO617 := n3_; have HO620 := n4_; have HB := n5_; clear n0_ n1_ n2_ n3_ n4_ n5_; (try clear hb); (try clear ho0)) | ((with_reducible refine gate_callee (f := 35) rfl ?_); refine goesL_ (some 25) rfl rfl Try.func35 (by kernel_rfl) rfl #[.slice A0 l0.length c0] rfl (by (try simp only [List.map_toArray, List.map_cons, List.map_nil]); rfl) ?_; (with_reducible refine (spec_DrawRollupKey.calls k _ _ l0 t621 t622 _ ?side1 ?side2 A9.out).mono ?_); (case side1 => repeat (exact (Kd.C_below HR0.out HB.out))); (case side2 => exact HC0.out); rintro e w19 ⟨rfl, hb⟩; refine ⟨_, rfl, ?_⟩; have n0_ := Aside0.mk (Kd.R_below HO608.out hb); have n1_ := Aside0.mk (Kd.R_below HO611.out hb); have n2_ := Aside0.mk (Kd.R_below HO614.out hb); have n3_ := Aside0.mk (Kd.R_below HO617.out hb); have n4_ := Aside0.mk (Kd.R_below HO620.out hb); have n5_ := Aside0.mk (below_step HB.out hb); clear HO608; clear HO611; clear HO614; clear HO617; clear HO620; clear HB; have HO608 := n0_; have HO611 := n1_; have HO614 := n2_; have HO617 := n3_; have HO620 := n4_; have HB := n5_; clear n0_ n1_ n2_ n3_ n4_ n5_; (try clear hb)) | ((with_reducible refine gate_callee (f := 36) rfl ?_); refine goesL_ (some 29) rfl rfl Try.func36 (by kernel_rfl) rfl #[.slice A0 l0.length c0] rfl (by (try simp only [List.map_toArray, List.map_cons, List.map_nil]); rfl) ?_; (with_reducible refine (spec_DrawRollupGroups.calls k _ _ l0 t623 _ ?side1 ?side2 A10.out).mono ?_); (case side1 => repeat (exact (Kd.C_below HR0.out HB.out))); (case side2 => exact HC0.out); rintro e w20 ⟨v624, rfl, ho0, hb⟩; refine ⟨_, rfl, ?_⟩; have n0_ := Aside0.mk (Kd.R_below HO608.out hb); have n1_ := Aside0.mk (Kd.R_below HO611.out hb); have n2_ := Aside0.mk (Kd.R_below HO614.out hb); have n3_ := Aside0.mk (Kd.R_elder' HO617.out (Kd.R_base ho0) hb); have n4_ := Aside0.mk (Kd.R_below HO620.out hb); have n5_ := Aside0.mk (Kd.R_lower (Kd.R_new' ho0 (Kd.R_lt HO617.out)) (below_size HB.out)); have n6_ := Aside0.mk (below_step HB.out hb); clear HO608; clear HO611; clear HO614; clear HO617; clear HO620; clear HB; have HO608 := n0_; have HO611 := n1_; have HO614 := n2_; have HO617 := n3_; have HO620 := n4_; have HO625 := n5_; have HB := n6_; clear n0_ n1_ n2_ n3_ n4_ n5_ n6_; (try clear hb); (try clear ho0)))
  (try simp only [Act.put, List.setIfInBounds_toArray, List.set_cons_zero, List.set_cons_succ])
  go_cut [66] (fun v66 wc => ∃ (kq : Nat) (x66_10 : Bool), v66 = .bool x66_10 ∧ Aside0 (laws_FnRollup.j0 kq t606 t609 t612 t618 x66_10 = some r) ∧ Aside0 (kq ≤ k) ∧ Aside0 (Kd.R k114 114 wc w.heap.size (fun _ => True) (.slice Ao13 t606.length co13) t606) ∧ Aside0 (Kd.R k62 62 wc w.heap.size (fun k_ => some k_ ≠ (v613 : Value).ownBlock ∧ some k_ ≠ (v619 : Value).ownBlock) v610 t609) ∧ Aside0 (Kd.R k62 62 wc w.heap.size (fun k_ => some k_ ≠ (v610 : Value).ownBlock ∧ some k_ ≠ (v619 : Value).ownBlock) v613 t612) ∧ Aside0 (Kd.R k62 62 wc w.heap.size (fun k_ => some k_ ≠ (v610 : Value).ownBlock ∧ some k_ ≠ (v613 : Value).ownBlock) v619 t618) ∧ Aside0 (Below w.heap.size w wc))
  case first =>
   have H := HC11.out
   clear HC11
   by_cases c21 : (t609.length : Int) = (t612.length : Int)
   ·rw [if_pos c21] at H
    have c21b0 : ((t609.length : Int) == (t612.length : Int)) = true := beq_iff_eq.mpr c21
    have c21b1 : ((t609.length : Int) != (t612.length : Int)) = false := bne_eq_false_iff_eq.mpr c21
    have c21b2 : (t609.length == t612.length) = true := by (simp at c21 ⊢; omega)
    clear c21
    (skip)
    by_cases c22 : (t618.length : Int) = (t609.length : Int)
    ·rw [if_pos c22] at H
     have c22b0 : ((t618.length : Int) == (t609.length : Int)) = true := beq_iff_eq.mpr c22
     have c22b1 : ((t618.length : Int) != (t609.length : Int)) = false := bne_eq_false_iff_eq.mpr c22
     have c22b2 : (t618.length == t609.length) = true := by (simp at c22 ⊢; omega)
     clear c22
     replace H := Option.bind_eq_some_iff.mp H
     obtain ⟨t626, A230, H⟩ := H
     have A23 := Aside0.mk A230
     clear A230
     replace H := Option.bind_eq_some_iff.mp H
     obtain ⟨t627, A240, H⟩ := H
     have A24 := Aside0.mk A240
     clear A240
     by_cases c25 : t626 = t627
     ·rw [if_pos c25] at H
      have c25b0 : (t626 == t627) = true := beq_iff_eq.mpr c25
      have c25b1 : (t626 != t627) = false := bne_eq_false_iff_eq.mpr c25
      clear c25
      replace H := Option.bind_eq_some_iff.mp H
      obtain ⟨t628, A260, H⟩ := H
      have A26 := Aside0.mk A260
      clear A260
      replace H := Option.bind_eq_some_iff.mp H
      obtain ⟨t629, A270, H⟩ := H
      have A27 := Aside0.mk A270
      clear A270
      by_cases c28 : t628.toList = t629.toList
      ·rw [if_pos c28] at H
       have c28b0 : (t628.toList == t629.toList) = true := beq_iff_eq.mpr c28
       have c28b1 : (t628.toList != t629.toList) = false := bne_eq_false_iff_eq.mpr c28
       clear c28
       replace H := Option.bind_eq_some_iff.mp H
       obtain ⟨t630, A290, H⟩ := H
       have A29 := Aside0.mk A290
       clear A290
       replace H := Option.bind_eq_some_iff.mp H
       obtain ⟨t633, A300, H⟩ := H
       have A30 := Aside0.mk A300
       clear A300
       replace H := Option.bind_eq_some_iff.mp H
       obtain ⟨t634, A310, H⟩ := H
       have A31 := Aside0.mk A310
       clear A310
       replace H := Option.bind_eq_some_iff.mp H
       obtain ⟨t637, A320, H⟩ := H
       have A32 := Aside0.mk A320
       clear A320
       have H' := Aside0.mk H
       clear H
       obtain ⟨Ao33, co33, eo33⟩ := Kd.R_slice HO611.out
       subst eo33
       obtain ⟨Ao34, co34, eo34⟩ := Kd.R_slice HO614.out
       subst eo34
       obtain ⟨Ao35, co35, eo35⟩ := Kd.R_slice HO620.out
       subst eo35
       go_wp2_with (first | (go_at_call 37; (with_reducible refine (impl_RollupKey.calls t621 t622 t626 _ A23.out).mono ?_); rintro e w' ⟨rfl, ⟨nd, rfl⟩⟩) | (go_at_call 38; (with_reducible refine (spec_RollupKey.calls t621 t622 t627 _ A24.out).mono ?_); rintro e w' ⟨rfl, ⟨nd, rfl⟩⟩) | (go_at_call 39; (with_reducible refine (impl_FormatRollup.calls k _ _ t609 t628 _ ?side1 ?side2 A26.out).mono ?_); (case side1 => repeat (exact (Kd.R_reads' HO611.out).2.2)); (case side2 => exact (Kd.R_reads' HO611.out).2.1); rintro e w36 ⟨rfl, hb⟩; have n0_ := Aside0.mk (Kd.R_below (by (with_reducible repeat (apply Kd.R_drewN)); exact HO608.out) hb); have n1_ := Aside0.mk (Kd.R_below (by (with_reducible repeat (apply Kd.R_drewN)); exact HO611.out) hb); have n2_ := Aside0.mk (Kd.R_below (by (with_reducible repeat (apply Kd.R_drewN)); exact HO614.out) hb); have n3_ := Aside0.mk (Kd.R_below (by (with_reducible repeat (apply Kd.R_drewN)); exact HO617.out) hb); have n4_ := Aside0.mk (Kd.R_below (by (with_reducible repeat (apply Kd.R_drewN)); exact HO620.out) hb); have n5_ := Aside0.mk (Kd.R_below (by (with_reducible repeat (apply Kd.R_drewN)); exact HO625.out) hb); have n6_ := Aside0.mk (below_step (by repeat (with_reducible first | exact HB.out | apply pw_below_drewN)) hb); clear HO608; clear HO611; clear HO614; clear HO617; clear HO620; clear HO625; clear HB; have HO608 := n0_; have HO611 := n1_; have HO614 := n2_; have HO617 := n3_; have HO620 := n4_; have HO625 := n5_; have HB := n6_; clear n0_ n1_ n2_ n3_ n4_ n5_ n6_; (try clear hb)) | (go_at_call 40; (with_reducible refine (spec_FormatRollup.calls k _ _ t612 t629 _ ?side1 ?side2 A27.out).mono ?_); (case side1 => repeat (exact (Kd.R_reads' HO614.out).2.2)); (case side2 => exact (Kd.R_reads' HO614.out).2.1); rintro e w37 ⟨rfl, hb⟩; have n0_ := Aside0.mk (Kd.R_below HO608.out hb); have n1_ := Aside0.mk (Kd.R_below HO611.out hb); have n2_ := Aside0.mk (Kd.R_below HO614.out hb); have n3_ := Aside0.mk (Kd.R_below HO617.out hb); have n4_ := Aside0.mk (Kd.R_below HO620.out hb); have n5_ := Aside0.mk (Kd.R_below HO625.out hb); have n6_ := Aside0.mk (below_step HB.out hb); clear HO608; clear HO611; clear HO614; clear HO617; clear HO620; clear HO625; clear HB; have HO608 := n0_; have HO611 := n1_; have HO614 := n2_; have HO617 := n3_; have HO620 := n4_; have HO625 := n5_; have HB := n6_; clear n0_ n1_ n2_ n3_ n4_ n5_ n6_; (try clear hb); obtain ⟨Ao38, co38, eo38⟩ := Kd.R_slice HO625.out; subst eo38) | (go_at_call 20; (with_reducible refine (impl_RollupGroups.calls k _ _ t623 t630 _ ?side1 ?side2 A29.out).mono ?_); (case side1 => repeat (exact (Kd.R_reads' HO625.out).2.2)); (case side2 => exact (Kd.R_reads' HO625.out).2.1); rintro e w39 ⟨v631, rfl, ho0, hb⟩; have n0_ := Aside0.mk (Kd.R_below HO608.out hb); have n1_ := Aside0.mk (Kd.R_elder' HO611.out (Kd.R_base ho0) hb); have n2_ := Aside0.mk (Kd.R_elder' HO614.out (Kd.R_base ho0) hb); have n3_ := Aside0.mk (Kd.R_below HO617.out hb); have n4_ := Aside0.mk (Kd.R_elder' HO620.out (Kd.R_base ho0) hb); have n5_ := Aside0.mk (Kd.R_below HO625.out hb); have n6_ := Aside0.mk (Kd.R_lower (Kd.R_new' (Kd.R_new' (Kd.R_new' ho0 (Kd.R_lt HO611.out)) (Kd.R_lt HO614.out)) (Kd.R_lt HO620.out)) (below_size HB.out)); have n7_ := Aside0.mk (below_step HB.out hb); clear HO608; clear HO611; clear HO614; clear HO617; clear HO620; clear HO625; clear HB; have HO608 := n0_; have HO611 := n1_; have HO614 := n2_; have HO617 := n3_; have HO620 := n4_; have HO625 := n5_; have HO632 := n6_; have HB := n7_; clear n0_ n1_ n2_ n3_ n4_ n5_ n6_ n7_; (try clear hb); (try clear ho0); obtain ⟨Ao40, co40, eo40⟩ := Kd.R_slice HO632.out; subst eo40) | (go_at_call 39; (with_reducible refine (impl_FormatRollup.calls k _ _ t630 t633 _ ?side1 ?side2 A30.out).mono ?_); (case side1 => repeat (exact (Kd.R_reads' HO632.out).2.2)); (case side2 => exact (Kd.R_reads' HO632.out).2.1); rintro e w41 ⟨rfl, hb⟩; have n0_ := Aside0.mk (Kd.R_below HO608.out hb); have n1_ := Aside0.mk (Kd.R_below HO611.out hb); have n2_ := Aside0.mk (Kd.R_below HO614.out hb); have n3_ := Aside0.mk (Kd.R_below HO617.out hb); have n4_ := Aside0.mk (Kd.R_below HO620.out hb); have n5_ := Aside0.mk (Kd.R_below HO625.out hb); have n6_ := Aside0.mk (Kd.R_below HO632.out hb); have n7_ := Aside0.mk (below_step HB.out hb); clear HO608; clear HO611; clear HO614; clear HO617; clear HO620; clear HO625; clear HO632; clear HB; have HO608 := n0_; have HO611 := n1_; have HO614 := n2_; have HO617 := n3_; have HO620 := n4_; have HO625 := n5_; have HO632 := n6_; have HB := n7_; clear n0_ n1_ n2_ n3_ n4_ n5_ n6_ n7_; (try clear hb)) | (go_at_call 18; (with_reducible refine (spec_RollupGroups.calls k _ _ t623 t634 _ ?side1 ?side2 A31.out).mono ?_); (case side1 => repeat (exact (Kd.R_reads' HO625.out).2.2)); (case side2 => exact (Kd.R_reads' HO625.out).2.1); rintro e w42 ⟨v635, rfl, ho0, hb⟩; have n0_ := Aside0.mk (Kd.R_below HO608.out hb); have n1_ := Aside0.mk (Kd.R_elder' HO611.out (Kd.R_base ho0) hb); have n2_ := Aside0.mk (Kd.R_elder' HO614.out (Kd.R_base ho0) hb); have n3_ := Aside0.mk (Kd.R_below HO617.out hb); have n4_ := Aside0.mk (Kd.R_elder' HO620.out (Kd.R_base ho0) hb); have n5_ := Aside0.mk (Kd.R_below HO625.out hb); have n6_ := Aside0.mk (Kd.R_elder' HO632.out (Kd.R_base ho0) hb); have n7_ := Aside0.mk (Kd.R_lower (Kd.R_new' (Kd.R_new' (Kd.R_new' (Kd.R_new' ho0 (Kd.R_lt HO611.out)) (Kd.R_lt HO614.out)) (Kd.R_lt HO620.out)) (Kd.R_lt HO632.out)) (below_size HB.out)); have n8_ := Aside0.mk (below_step HB.out hb); clear HO608; clear HO611; clear HO614; clear HO617; clear HO620; clear HO625; clear HO632; clear HB; have HO608 := n0_; have HO611 := n1_; have HO614 := n2_; have HO617 := n3_; have HO620 := n4_; have HO625 := n5_; have HO632 := n6_; have HO636 := n7_; have HB := n8_; clear n0_ n1_ n2_ n3_ n4_ n5_ n6_ n7_ n8_; (try clear hb); (try clear ho0); obtain ⟨Ao43, co43, eo43⟩ := Kd.R_slice HO636.out; subst eo43) | (go_at_call 40; (with_reducible refine (spec_FormatRollup.calls k _ _ t634 t637 _ ?side1 ?side2 A32.out).mono ?_); (case side1 => repeat (exact (Kd.R_reads' HO636.out).2.2)); (case side2 => exact (Kd.R_reads' HO636.out).2.1); rintro e w44 ⟨rfl, hb⟩; have n0_ := Aside0.mk (Kd.R_below HO608.out hb); have n1_ := Aside0.mk (Kd.R_below HO611.out hb); have n2_ := Aside0.mk (Kd.R_below HO614.out hb); have n3_ := Aside0.mk (Kd.R_below HO617.out hb); have n4_ := Aside0.mk (Kd.R_below HO620.out hb); have n5_ := Aside0.mk (Kd.R_below HO625.out hb); have n6_ := Aside0.mk (Kd.R_below HO632.out hb); have n7_ := Aside0.mk (Kd.R_below HO636.out hb); have n8_ := Aside0.mk (below_step HB.out hb); clear HO608; clear HO611; clear HO614; clear HO617; clear HO620; clear HO625; clear HO632; clear HO636; clear HB; have HO608 := n0_; have HO611 := n1_; have HO614 := n2_; have HO617 := n3_; have HO620 := n4_; have HO625 := n5_; have HO632 := n6_; have HO636 := n7_; have HB := n8_; clear n0_ n1_ n2_ n3_ n4_ n5_ n6_ n7_ n8_; (try clear hb)))
       go_meet
       case rel => exact ⟨_, ((t633.toList != t637.toList)), rfl, H', ⟨by omega⟩, ⟨HO608.out⟩, ⟨by exact Kd.R_mono HO611.out (fun _ hk => ⟨hk.1.1.1.2, hk.1.1.2⟩)⟩, ⟨by exact Kd.R_mono HO614.out (fun _ hk => ⟨hk.1.1.1.2, hk.1.1.2⟩)⟩, ⟨by exact Kd.R_mono HO620.out (fun _ hk => ⟨hk.1.1.1.2, hk.1.1.2⟩)⟩, ⟨HB.out⟩⟩
      ·rw [if_neg c28] at H
       exact absurd H (by simp)
     ·rw [if_neg c25] at H
      exact absurd H (by simp)
    ·rw [if_neg c22] at H
     exact absurd H (by simp)
   ·rw [if_neg c21] at H
    exact absurd H (by simp)
  case rest =>
   clear HC11
   obtain ⟨kq, x66_10, rfl, HA, HJ10, HO_3, HO_4, HO_5, HO_6, HB⟩ := hcut
   cases kq with
   | zero => exact absurd HA.out (by simp [laws_FnRollup.j0])
   | succ kj10 =>
    have H := HA.out
    clear HA
    simp only [laws_FnRollup.j0] at H
    by_cases c58 : x66_10 = true
    ·subst c58
     have H1 : (none) = some r := by rw [if_pos rfl] at H; exact H
     exact absurd H (by simp)
    ·replace c58 := Bool.eq_false_iff.mpr c58
     subst c58
     rw [if_neg (show ¬ (false = true) by decide)] at H
     obtain ⟨y638, hy638⟩ : ∃ y_ : List Int, y_ = ([0, 0, 0] : List Int) := ⟨_, rfl⟩
     replace H : (laws_FnRollup.l0 kj10 t606 t609 t612 t618 y638 0) = some r := by (rw [hy638]; with_reducible exact H)
     have Ny638 := Aside0.mk hy638
     clear hy638
     have H' := Aside0.mk H
     clear H
     go_wp2_with (((with_reducible refine gate_dst (N := 67) rfl ?_); (try (refine gate_guard rfl ?_; dsimp only)); refine Kd.R_lit (Kd.int .i64) _ 3 ?hg (N := 67) ?hd (xs := ([0, 0, 0] : List Int)) (inner := [.int .i64 0, .int .i64 0, .int .i64 0]) (ok := fun _ => True) (okp := fun _ => True) ?hr ?hp (fun _ hk => hk) trivial (Below.refl _ _) (Nat.le_refl _) (by simp) ?_; (case hd => rfl); (case hg => rfl); (case hr => (go_simp; done)); (case hp => exact (Reps.one (show Kd.M (Kd.int .i64) _ _ _ 0 [.int .i64 0] from rfl) (Reps.one (show Kd.M (Kd.int .i64) _ _ _ 0 [.int .i64 0] from rfl) (Reps.one (show Kd.M (Kd.int .i64) _ _ _ 0 [.int .i64 0] from rfl) (Reps.none _ _))))); intro v639 w59 ho60 hb hg_ hnew_; clear hg_ hnew_; (rw [← Ny638.out] at ho60); have n0_ := Aside0.mk (Kd.R_below HO_3.out hb); have n1_ := Aside0.mk (Kd.R_below HO_4.out hb); have n2_ := Aside0.mk (Kd.R_below HO_5.out hb); have n3_ := Aside0.mk (Kd.R_below HO_6.out hb); have n4_ := Aside0.mk (Kd.R_lower ho60 (below_size HB.out)); have n5_ := Aside0.mk (below_step HB.out hb); clear HO_3; clear HO_4; clear HO_5; clear HO_6; clear HB; have HO_3 := n0_; have HO_4 := n1_; have HO_5 := n2_; have HO_6 := n3_; have HO640 := n4_; have HB := n5_; clear n0_ n1_ n2_ n3_ n4_ n5_; clear hb ho60))
     go_loopg [11] kj10 (fun kq v11 w' => ∃ (x10_2 : List Int) (x11_2 : Int), v11 = .int .i64 x11_2 ∧ Aside0 (laws_FnRollup.l0 kq t606 t609 t612 t618 x10_2 x11_2 = some r) ∧ Aside0 (kq ≤ kj10) ∧ Aside0 (Kd.R k114 114 w' w.heap.size (fun _ => True) (.slice Ao13 t606.length co13) t606) ∧ Aside0 (Kd.R k62 62 w' w.heap.size (fun k_ => some k_ ≠ (v613 : Value).ownBlock ∧ some k_ ≠ (v619 : Value).ownBlock) v610 t609) ∧ Aside0 (Kd.R k62 62 w' w.heap.size (fun k_ => some k_ ≠ (v610 : Value).ownBlock ∧ some k_ ≠ (v619 : Value).ownBlock) v613 t612) ∧ Aside0 (Kd.R k62 62 w' w.heap.size (fun k_ => some k_ ≠ (v610 : Value).ownBlock ∧ some k_ ≠ (v613 : Value).ownBlock) v619 t618) ∧ Aside0 (Kd.R (Kd.int .i64) 3 w' w.heap.size (fun _ => True) v639 x10_2) ∧ Aside0 (Below w.heap.size w w'))
     case atStart => exact ⟨(y638), (0), rfl, H', ⟨Nat.le_refl _⟩, ⟨HO_3.out⟩, ⟨HO_4.out⟩, ⟨HO_5.out⟩, ⟨HO_6.out⟩, ⟨HO640.out⟩, ⟨HB.out⟩⟩
     case round =>
      clear H'
      obtain ⟨x10_2, x11_2, rfl, HA, HK2, HO_3, HO_4, HO_5, HO_6, HO_10, HB⟩ := hrel
      cases gk with
      | zero => exact absurd HA.out (by simp [laws_FnRollup.l0])
      | succ k2 =>
       have H := HA.out
       clear HA
       simp only [laws_FnRollup.l0] at H
       by_cases c61 : x11_2 < (t609.length : Int)
       ·rw [if_pos c61] at H
        have c61b0 : decide (x11_2 < (t609.length : Int)) = true := decide_eq_true c61
        clear c61
        by_cases c62 : 0 ≤ x11_2
        ·rw [if_pos c62] at H
         have c62b0 : decide (0 ≤ x11_2) = true := decide_eq_true c62
         clear c62
         by_cases c63 : x11_2 < (t612.length : Int)
         ·rw [if_pos c63] at H
          have c63b0 : decide (x11_2 < (t612.length : Int)) = true := decide_eq_true c63
          clear c63
          by_cases c64 : (!(((rd_T62 t609 x11_2).f0) == ((rd_T62 t612 x11_2).f0)) || ((!(((rd_T62 t609 x11_2).f1.f0) == ((rd_T62 t612 x11_2).f1.f0)) || (!(((rd_T62 t609 x11_2).f1.f1) == ((rd_T62 t612 x11_2).f1.f1)) || (!(((rd_T62 t609 x11_2).f1.f2) == ((rd_T62 t612 x11_2).f1.f2)) || (!(((rd_T62 t609 x11_2).f1.f3) == ((rd_T62 t612 x11_2).f1.f3)) || (!(((rd_T62 t609 x11_2).f1.f4) == ((rd_T62 t612 x11_2).f1.f4))))))))) = true
          ·rw [if_pos c64] at H
           exact absurd H (by simp)
          ·rw [if_neg c64] at H
           have c64b0 : (!(((rd_T62 t609 x11_2).f0) == ((rd_T62 t612 x11_2).f0)) || ((!(((rd_T62 t609 x11_2).f1.f0) == ((rd_T62 t612 x11_2).f1.f0)) || (!(((rd_T62 t609 x11_2).f1.f1) == ((rd_T62 t612 x11_2).f1.f1)) || (!(((rd_T62 t609 x11_2).f1.f2) == ((rd_T62 t612 x11_2).f1.f2)) || (!(((rd_T62 t609 x11_2).f1.f3) == ((rd_T62 t612 x11_2).f1.f3)) || (!(((rd_T62 t609 x11_2).f1.f4) == ((rd_T62 t612 x11_2).f1.f4))))))))) = false := by simpa using c64
           clear c64
           by_cases c68 : x11_2 < (t618.length : Int)
           ·rw [if_pos c68] at H
            have c68b0 : decide (x11_2 < (t618.length : Int)) = true := decide_eq_true c68
            clear c68
            by_cases c69 : (!(((rd_T62 t618 x11_2).f0) == ((rd_T62 t609 x11_2).f0)) || ((!(((rd_T62 t618 x11_2).f1.f0) == ((rd_T62 t609 x11_2).f1.f0)) || (!(((rd_T62 t618 x11_2).f1.f1) == ((rd_T62 t609 x11_2).f1.f1)) || (!(((rd_T62 t618 x11_2).f1.f2) == ((rd_T62 t609 x11_2).f1.f2)) || (!(((rd_T62 t618 x11_2).f1.f3) == ((rd_T62 t609 x11_2).f1.f3)) || (!(((rd_T62 t618 x11_2).f1.f4) == ((rd_T62 t609 x11_2).f1.f4))))))))) = true
            ·rw [if_pos c69] at H
             exact absurd H (by simp)
            ·rw [if_neg c69] at H
             have c69b0 : (!(((rd_T62 t618 x11_2).f0) == ((rd_T62 t609 x11_2).f0)) || ((!(((rd_T62 t618 x11_2).f1.f0) == ((rd_T62 t609 x11_2).f1.f0)) || (!(((rd_T62 t618 x11_2).f1.f1) == ((rd_T62 t609 x11_2).f1.f1)) || (!(((rd_T62 t618 x11_2).f1.f2) == ((rd_T62 t609 x11_2).f1.f2)) || (!(((rd_T62 t618 x11_2).f1.f3) == ((rd_T62 t609 x11_2).f1.f3)) || (!(((rd_T62 t618 x11_2).f1.f4) == ((rd_T62 t609 x11_2).f1.f4))))))))) = false := by simpa using c69
             clear c69
             by_cases c74 : ((rd_T62 t609 x11_2).f0) < 0
             ·rw [if_pos c74] at H
              exact absurd H (by simp)
             ·rw [if_neg c74] at H
              have c74b0 : decide (((rd_T62 t609 x11_2).f0) < 0) = false := decide_eq_false c74
              clear c74
              by_cases c79 : ((rd_T62 t609 x11_2).f0) > 2
              ·rw [if_pos c79] at H
               exact absurd H (by simp)
              ·rw [if_neg c79] at H
               have c79b0 : decide (2 < ((rd_T62 t609 x11_2).f0)) = false := decide_eq_false c79
               clear c79
               by_cases c84 : 0 ≤ ((rd_T62 t609 x11_2).f0)
               ·rw [if_pos c84] at H
                have c84b0 : decide (0 ≤ ((rd_T62 t609 x11_2).f0)) = true := decide_eq_true c84
                clear c84
                by_cases c85 : ((rd_T62 t609 x11_2).f0) < (x10_2.length : Int)
                ·rw [if_pos c85] at H
                 have c85b0 : decide (((rd_T62 t609 x11_2).f0) < (x10_2.length : Int)) = true := decide_eq_true c85
                 clear c85
                 obtain ⟨y651, hy651⟩ : ∃ y_ : List Int, y_ = (x10_2.set (((rd_T62 t609 x11_2).f0) : Int).toNat (wrap64 ((rd x10_2 ((rd_T62 t609 x11_2).f0)) + ((rd_T62 t609 x11_2).f1.f1)))) := ⟨_, rfl⟩
                 replace H : (laws_FnRollup.l0 k2 t606 t609 t612 t618 y651 (wrap64 (x11_2 + 1))) = some r := by (rw [hy651]; with_reducible exact H)
                 have Ny651 := Aside0.mk hy651
                 clear hy651
                 have H' := Aside0.mk H
                 clear H
                 obtain ⟨Ao87, co87, eo87⟩ := Kd.R_slice HO_4.out
                 subst eo87
                 try go_wp2
                 have n0_ := Aside0.mk (Kd.R_drew HO_3.out)
                 have n1_ := Aside0.mk (Kd.R_drew HO_4.out)
                 have n2_ := Aside0.mk (Kd.R_drew HO_5.out)
                 have n3_ := Aside0.mk (Kd.R_drew HO_6.out)
                 have n4_ := Aside0.mk (Kd.R_drew HO_10.out)
                 have n5_ := Aside0.mk (below_drew1 HB.out)
                 clear HO_3
                 clear HO_4
                 clear HO_5
                 clear HO_6
                 clear HO_10
                 clear HB
                 have HO_3 := n0_
                 have HO_4 := n1_
                 have HO_5 := n2_
                 have HO_6 := n3_
                 have HO_10 := n4_
                 have HB := n5_
                 clear n0_ n1_ n2_ n3_ n4_ n5_
                 have p641 : 0 ≤ (x11_2 : Int) := of_decide_eq_true (by (with_reducible assumption))
                 have q641 : x11_2 < (t609.length : Int) := of_decide_eq_true (by (with_reducible assumption))
                 obtain ⟨ad641, e641, hx641_0, hx641_1, hx641_2, hx641_3, hx641_4, hx641_5⟩ := at_T62 (Kd.R_reads' HO_4.out).2.2 x11_2 p641 q641
                 cases e641
                 replace p641 := eq_true p641
                 replace q641 := eq_true q641
                 obtain ⟨Ao89, co89, eo89⟩ := Kd.R_slice HO_5.out
                 (subst eo89)
                 have p642 : 0 ≤ (x11_2 : Int) := of_decide_eq_true (by (with_reducible assumption))
                 have q642 : x11_2 < (t612.length : Int) := of_decide_eq_true (by (with_reducible assumption))
                 obtain ⟨ad642, e642, hx642_0, hx642_1, hx642_2, hx642_3, hx642_4, hx642_5⟩ := at_T62 (Kd.R_reads' HO_5.out).2.2 x11_2 p642 q642
                 cases e642
                 replace p642 := eq_true p642
                 replace q642 := eq_true q642
                 obtain ⟨Ao90, co90, eo90⟩ := Kd.R_slice HO_6.out
                 (subst eo90)
                 have p643 : 0 ≤ (x11_2 : Int) := of_decide_eq_true (by (with_reducible assumption))
                 have q643 : x11_2 < (t618.length : Int) := of_decide_eq_true (by (with_reducible assumption))
                 obtain ⟨ad643, e643, hx643_0, hx643_1, hx643_2, hx643_3, hx643_4, hx643_5⟩ := at_T62 (Kd.R_reads' HO_6.out).2.2 x11_2 p643 q643
                 cases e643
                 replace p643 := eq_true p643
                 replace q643 := eq_true q643
                 have p644 : 0 ≤ (x11_2 : Int) := of_decide_eq_true (by (with_reducible assumption))
                 have q644 : x11_2 < (t609.length : Int) := of_decide_eq_true (by (with_reducible assumption))
                 obtain ⟨ad644, e644, hx644_0, hx644_1, hx644_2, hx644_3, hx644_4, hx644_5⟩ := at_T62 (Kd.R_reads' HO_4.out).2.2 x11_2 p644 q644
                 obtain rfl : ad641 = ad644 := (by injection e644)
                 replace p644 := eq_true p644
                 replace q644 := eq_true q644
                 have p645 : 0 ≤ (x11_2 : Int) := of_decide_eq_true (by (with_reducible assumption))
                 have q645 : x11_2 < (t609.length : Int) := of_decide_eq_true (by (with_reducible assumption))
                 obtain ⟨ad645, e645, hx645_0, hx645_1, hx645_2, hx645_3, hx645_4, hx645_5⟩ := at_T62 (Kd.R_reads' HO_4.out).2.2 x11_2 p645 q645
                 obtain rfl : ad641 = ad645 := (by injection e645)
                 replace p645 := eq_true p645
                 replace q645 := eq_true q645
                 have p646 : 0 ≤ (x11_2 : Int) := of_decide_eq_true (by (with_reducible assumption))
                 have q646 : x11_2 < (t609.length : Int) := of_decide_eq_true (by (with_reducible assumption))
                 obtain ⟨ad646, e646, hx646_0, hx646_1, hx646_2, hx646_3, hx646_4, hx646_5⟩ := at_T62 (Kd.R_reads' HO_4.out).2.2 x11_2 p646 q646
                 obtain rfl : ad641 = ad646 := (by injection e646)
                 replace p646 := eq_true p646
                 replace q646 := eq_true q646
                 refine start_ (n := 36) (S := fun w' => w'.cell? (ad641.add ((x11_2).toNat * 6)) = some (.int .i64 ((rd_T62 t609 x11_2).f0)) ∧ w'.cell? ⟨(ad641.add ((x11_2).toNat * 6)).block, (ad641.add ((x11_2).toNat * 6)).off + 1, none⟩ = some (.int .i64 ((rd_T62 t609 x11_2).f1.f0)) ∧ w'.cell? ⟨(ad641.add ((x11_2).toNat * 6)).block, (ad641.add ((x11_2).toNat * 6)).off + 2, none⟩ = some (.int .i64 ((rd_T62 t609 x11_2).f1.f1)) ∧ w'.cell? ⟨(ad641.add ((x11_2).toNat * 6)).block, (ad641.add ((x11_2).toNat * 6)).off + 3, none⟩ = some (.int .i64 ((rd_T62 t609 x11_2).f1.f2)) ∧ w'.cell? ⟨(ad641.add ((x11_2).toNat * 6)).block, (ad641.add ((x11_2).toNat * 6)).off + 4, none⟩ = some (.int .i64 ((rd_T62 t609 x11_2).f1.f3)) ∧ w'.cell? ⟨(ad641.add ((x11_2).toNat * 6)).block, (ad641.add ((x11_2).toNat * 6)).off + 5, none⟩ = some (.int .i64 ((rd_T62 t609 x11_2).f1.f4)) ∧ w'.cell? (ad642.add ((x11_2).toNat * 6)) = some (.int .i64 ((rd_T62 t612 x11_2).f0)) ∧ w'.cell? ⟨(ad642.add ((x11_2).toNat * 6)).block, (ad642.add ((x11_2).toNat * 6)).off + 1, none⟩ = some (.int .i64 ((rd_T62 t612 x11_2).f1.f0)) ∧ w'.cell? ⟨(ad642.add ((x11_2).toNat * 6)).block, (ad642.add ((x11_2).toNat * 6)).off + 2, none⟩ = some (.int .i64 ((rd_T62 t612 x11_2).f1.f1)) ∧ w'.cell? ⟨(ad642.add ((x11_2).toNat * 6)).block, (ad642.add ((x11_2).toNat * 6)).off + 3, none⟩ = some (.int .i64 ((rd_T62 t612 x11_2).f1.f2)) ∧ w'.cell? ⟨(ad642.add ((x11_2).toNat * 6)).block, (ad642.add ((x11_2).toNat * 6)).off + 4, none⟩ = some (.int .i64 ((rd_T62 t612 x11_2).f1.f3)) ∧ w'.cell? ⟨(ad642.add ((x11_2).toNat * 6)).block, (ad642.add ((x11_2).toNat * 6)).off + 5, none⟩ = some (.int .i64 ((rd_T62 t612 x11_2).f1.f4)) ∧ w'.cell? (ad643.add ((x11_2).toNat * 6)) = some (.int .i64 ((rd_T62 t618 x11_2).f0)) ∧ w'.cell? ⟨(ad643.add ((x11_2).toNat * 6)).block, (ad643.add ((x11_2).toNat * 6)).off + 1, none⟩ = some (.int .i64 ((rd_T62 t618 x11_2).f1.f0)) ∧ w'.cell? ⟨(ad643.add ((x11_2).toNat * 6)).block, (ad643.add ((x11_2).toNat * 6)).off + 2, none⟩ = some (.int .i64 ((rd_T62 t618 x11_2).f1.f1)) ∧ w'.cell? ⟨(ad643.add ((x11_2).toNat * 6)).block, (ad643.add ((x11_2).toNat * 6)).off + 3, none⟩ = some (.int .i64 ((rd_T62 t618 x11_2).f1.f2)) ∧ w'.cell? ⟨(ad643.add ((x11_2).toNat * 6)).block, (ad643.add ((x11_2).toNat * 6)).off + 4, none⟩ = some (.int .i64 ((rd_T62 t618 x11_2).f1.f3)) ∧ w'.cell? ⟨(ad643.add ((x11_2).toNat * 6)).block, (ad643.add ((x11_2).toNat * 6)).off + 5, none⟩ = some (.int .i64 ((rd_T62 t618 x11_2).f1.f4)) ∧ w'.cell? (ad641.add ((x11_2).toNat * 6)) = some (.int .i64 ((rd_T62 t609 x11_2).f0)) ∧ w'.cell? ⟨(ad641.add ((x11_2).toNat * 6)).block, (ad641.add ((x11_2).toNat * 6)).off + 1, none⟩ = some (.int .i64 ((rd_T62 t609 x11_2).f1.f0)) ∧ w'.cell? ⟨(ad641.add ((x11_2).toNat * 6)).block, (ad641.add ((x11_2).toNat * 6)).off + 2, none⟩ = some (.int .i64 ((rd_T62 t609 x11_2).f1.f1)) ∧ w'.cell? ⟨(ad641.add ((x11_2).toNat * 6)).block, (ad641.add ((x11_2).toNat * 6)).off + 3, none⟩ = some (.int .i64 ((rd_T62 t609 x11_2).f1.f2)) ∧ w'.cell? ⟨(ad641.add ((x11_2).toNat * 6)).block, (ad641.add ((x11_2).toNat * 6)).off + 4, none⟩ = some (.int .i64 ((rd_T62 t609 x11_2).f1.f3)) ∧ w'.cell? ⟨(ad641.add ((x11_2).toNat * 6)).block, (ad641.add ((x11_2).toNat * 6)).off + 5, none⟩ = some (.int .i64 ((rd_T62 t609 x11_2).f1.f4)) ∧ w'.cell? (ad641.add ((x11_2).toNat * 6)) = some (.int .i64 ((rd_T62 t609 x11_2).f0)) ∧ w'.cell? ⟨(ad641.add ((x11_2).toNat * 6)).block, (ad641.add ((x11_2).toNat * 6)).off + 1, none⟩ = some (.int .i64 ((rd_T62 t609 x11_2).f1.f0)) ∧ w'.cell? ⟨(ad641.add ((x11_2).toNat * 6)).block, (ad641.add ((x11_2).toNat * 6)).off + 2, none⟩ = some (.int .i64 ((rd_T62 t609 x11_2).f1.f1)) ∧ w'.cell? ⟨(ad641.add ((x11_2).toNat * 6)).block, (ad641.add ((x11_2).toNat * 6)).off + 3, none⟩ = some (.int .i64 ((rd_T62 t609 x11_2).f1.f2)) ∧ w'.cell? ⟨(ad641.add ((x11_2).toNat * 6)).block, (ad641.add ((x11_2).toNat * 6)).off + 4, none⟩ = some (.int .i64 ((rd_T62 t609 x11_2).f1.f3)) ∧ w'.cell? ⟨(ad641.add ((x11_2).toNat * 6)).block, (ad641.add ((x11_2).toNat * 6)).off + 5, none⟩ = some (.int .i64 ((rd_T62 t609 x11_2).f1.f4)) ∧ w'.cell? (ad641.add ((x11_2).toNat * 6)) = some (.int .i64 ((rd_T62 t609 x11_2).f0)) ∧ w'.cell? ⟨(ad641.add ((x11_2).toNat * 6)).block, (ad641.add ((x11_2).toNat * 6)).off + 1, none⟩ = some (.int .i64 ((rd_T62 t609 x11_2).f1.f0)) ∧ w'.cell? ⟨(ad641.add ((x11_2).toNat * 6)).block, (ad641.add ((x11_2).toNat * 6)).off + 2, none⟩ = some (.int .i64 ((rd_T62 t609 x11_2).f1.f1)) ∧ w'.cell? ⟨(ad641.add ((x11_2).toNat * 6)).block, (ad641.add ((x11_2).toNat * 6)).off + 3, none⟩ = some (.int .i64 ((rd_T62 t609 x11_2).f1.f2)) ∧ w'.cell? ⟨(ad641.add ((x11_2).toNat * 6)).block, (ad641.add ((x11_2).toNat * 6)).off + 4, none⟩ = some (.int .i64 ((rd_T62 t609 x11_2).f1.f3)) ∧ w'.cell? ⟨(ad641.add ((x11_2).toNat * 6)).block, (ad641.add ((x11_2).toNat * 6)).off + 5, none⟩ = some (.int .i64 ((rd_T62 t609 x11_2).f1.f4))) (ds := []) #[false, false, false, false, false, false, false, false, false, false, false, false, false, false, false, false, false, false, false, false, false, false, false, false, false, false, false, false, false, false, false, false, false, false, false, false] (by kernel_rfl) rfl rfl ⟨hx641_0, hx641_1, hx641_2, hx641_3, hx641_4, hx641_5, hx642_0, hx642_1, hx642_2, hx642_3, hx642_4, hx642_5, hx643_0, hx643_1, hx643_2, hx643_3, hx643_4, hx643_5, hx644_0, hx644_1, hx644_2, hx644_3, hx644_4, hx644_5, hx645_0, hx645_1, hx645_2, hx645_3, hx645_4, hx645_5, hx646_0, hx646_1, hx646_2, hx646_3, hx646_4, hx646_5⟩ (fun hHeld => ?_); refine with_tabW laws_FnRollup.tab15 laws_FnRollup.bits15 (fun HT_ HW_ => ?_)
                 generalize wr.drew = w88 at HO_3 HO_4 HO_5 HO_6 HO_10 HB hx641_0 hx641_1 hx641_2 hx641_3 hx641_4 hx641_5 hx642_0 hx642_1 hx642_2 hx642_3 hx642_4 hx642_5 hx643_0 hx643_1 hx643_2 hx643_3 hx643_4 hx643_5 hx644_0 hx644_1 hx644_2 hx644_3 hx644_4 hx644_5 hx645_0 hx645_1 hx645_2 hx645_3 hx645_4 hx645_5 hx646_0 hx646_1 hx646_2 hx646_3 hx646_4 hx646_5 hHeld ⊢
                 refine pure_ (i := 0) (N := some 74) (v := ?_) (a' := ?_) #[true, false, false, false, false, false, false, false, false, false, false, false, false, false, false, false, false, false, false, false, false, false, false, false, false, false, false, false, false, false, false, false, false, false, false, false] rfl rfl (any_of HT_.out (by kernel_rfl)) (fun _ _ _ h => h) (Or.inl ⟨rfl, ?_⟩) ?_ ?_
                 rotate_left
                 ·intro w'
                  go_simp
                  with_reducible rfl
                 rotate_left
                 ·simp only [Act.put, List.setIfInBounds_toArray, List.set_cons_zero, List.set_cons_succ, i64_w, i32_w]
                  rfl
                 refine pure_ (i := 1) (N := some 75) (v := ?_) (a' := ?_) #[true, true, false, false, false, false, false, false, false, false, false, false, false, false, false, false, false, false, false, false, false, false, false, false, false, false, false, false, false, false, false, false, false, false, false, false] rfl rfl (any_of HT_.out (by kernel_rfl)) (fun _ _ _ h => h) (Or.inl ⟨rfl, ?_⟩) ?_ ?_
                 rotate_left
                 ·intro w'
                  go_simp
                  with_reducible rfl
                 rotate_left
                 ·simp only [Act.put, List.setIfInBounds_toArray, List.set_cons_zero, List.set_cons_succ, i64_w, i32_w]
                  rfl
                 refine pure_ (i := 2) (N := some 76) (v := ?_) (a' := ?_) #[true, true, true, false, false, false, false, false, false, false, false, false, false, false, false, false, false, false, false, false, false, false, false, false, false, false, false, false, false, false, false, false, false, false, false, false] rfl rfl (any_of HT_.out (by kernel_rfl)) (fun _ _ _ h => h) (Or.inl ⟨rfl, ?_⟩) ?_ ?_
                 rotate_left
                 ·intro w'
                  go_simp
                  with_reducible rfl
                 rotate_left
                 ·simp only [Act.put, List.setIfInBounds_toArray, List.set_cons_zero, List.set_cons_succ, i64_w, i32_w]
                  rfl
                 refine pure_ (i := 4) (N := some 78) (v := ?_) (a' := ?_) #[true, true, true, false, true, false, false, false, false, false, false, false, false, false, false, false, false, false, false, false, false, false, false, false, false, false, false, false, false, false, false, false, false, false, false, false] rfl rfl (any_of HT_.out (by kernel_rfl)) (fun _ _ _ h => h) (Or.inl ⟨rfl, ?_⟩) ?_ ?_
                 rotate_left
                 ·intro w'
                  go_simp
                  with_reducible rfl
                 rotate_left
                 ·simp only [Act.put, List.setIfInBounds_toArray, List.set_cons_zero, List.set_cons_succ, i64_w, i32_w]
                  rfl
                 refine pure_ (i := 5) (N := some 79) (v := ?_) (a' := ?_) #[true, true, true, false, true, true, false, false, false, false, false, false, false, false, false, false, false, false, false, false, false, false, false, false, false, false, false, false, false, false, false, false, false, false, false, false] rfl rfl (any_of HT_.out (by kernel_rfl)) (fun _ _ _ h => h) (Or.inl ⟨rfl, ?_⟩) ?_ ?_
                 rotate_left
                 ·intro w'
                  go_simp
                  with_reducible rfl
                 rotate_left
                 ·simp only [Act.put, List.setIfInBounds_toArray, List.set_cons_zero, List.set_cons_succ, i64_w, i32_w]
                  rfl
                 refine pure_ (i := 6) (N := some 80) (v := ?_) (a' := ?_) #[true, true, true, false, true, true, true, false, false, false, false, false, false, false, false, false, false, false, false, false, false, false, false, false, false, false, false, false, false, false, false, false, false, false, false, false] rfl rfl (any_of HT_.out (by kernel_rfl)) (fun _ _ _ h => h) (Or.inl ⟨rfl, ?_⟩) ?_ ?_
                 rotate_left
                 ·intro w'
                  go_simp
                  with_reducible rfl
                 rotate_left
                 ·simp only [Act.put, List.setIfInBounds_toArray, List.set_cons_zero, List.set_cons_succ, i64_w, i32_w]
                  rfl
                 refine take_ (i := 3) (N := some 77) (v := ?_) (a' := ?_) #[true, true, true, true, true, true, true, false, false, false, false, false, false, false, false, false, false, false, false, false, false, false, false, false, false, false, false, false, false, false, false, false, false, false, false, false] rfl rfl (take_ofW HT_.out HW_.out (by kernel_rfl)) (fun _ _ _ h => h) (Or.inl ⟨rfl, ?_⟩) hHeld ?_ ?_
                 rotate_left
                 ·rintro w' ⟨s0, s1, s2, s3, s4, s5, s6, s7, s8, s9, s10, s11, s12, s13, s14, s15, s16, s17, s18, s19, s20, s21, s22, s23, s24, s25, s26, s27, s28, s29, s30, s31, s32, s33, s34, s35⟩
                  go_simp
                  with_reducible rfl
                 rotate_left
                 ·simp only [Act.put, List.setIfInBounds_toArray, List.set_cons_zero, List.set_cons_succ, i64_w, i32_w]
                  rfl
                 refine take_ (i := 7) (N := some 81) (v := ?_) (a' := ?_) #[true, true, true, true, true, true, true, true, false, false, false, false, false, false, false, false, false, false, false, false, false, false, false, false, false, false, false, false, false, false, false, false, false, false, false, false] rfl rfl (take_ofW HT_.out HW_.out (by kernel_rfl)) (fun _ _ _ h => h) (Or.inl ⟨rfl, ?_⟩) hHeld ?_ ?_
                 rotate_left
                 ·rintro w' ⟨s0, s1, s2, s3, s4, s5, s6, s7, s8, s9, s10, s11, s12, s13, s14, s15, s16, s17, s18, s19, s20, s21, s22, s23, s24, s25, s26, s27, s28, s29, s30, s31, s32, s33, s34, s35⟩
                  go_simp
                  with_reducible rfl
                 rotate_left
                 ·simp only [Act.put, List.setIfInBounds_toArray, List.set_cons_zero, List.set_cons_succ, i64_w, i32_w]
                  rfl
                 refine pure_ (i := 8) (N := some 82) (v := ?_) (a' := ?_) #[true, true, true, true, true, true, true, true, true, false, false, false, false, false, false, false, false, false, false, false, false, false, false, false, false, false, false, false, false, false, false, false, false, false, false, false] rfl rfl (any_of HT_.out (by kernel_rfl)) (fun _ _ _ h => h) (Or.inl ⟨rfl, ?_⟩) ?_ ?_
                 rotate_left
                 ·intro w'
                  go_simp
                  with_reducible rfl
                 rotate_left
                 ·simp only [Act.put, List.setIfInBounds_toArray, List.set_cons_zero, List.set_cons_succ, i64_w, i32_w]
                  rfl
                 refine pure_ (i := 9) (N := some 83) (v := ?_) (a' := ?_) #[true, true, true, true, true, true, true, true, true, true, false, false, false, false, false, false, false, false, false, false, false, false, false, false, false, false, false, false, false, false, false, false, false, false, false, false] rfl rfl (any_of HT_.out (by kernel_rfl)) (fun _ _ _ h => h) (Or.inl ⟨rfl, ?_⟩) ?_ ?_
                 rotate_left
                 ·intro w'
                  go_simp
                  with_reducible rfl
                 rotate_left
                 ·simp only [Act.put, List.setIfInBounds_toArray, List.set_cons_zero, List.set_cons_succ, i64_w, i32_w]
                  rfl
                 refine pure_ (i := 10) (N := some 84) (v := ?_) (a' := ?_) #[true, true, true, true, true, true, true, true, true, true, true, false, false, false, false, false, false, false, false, false, false, false, false, false, false, false, false, false, false, false, false, false, false, false, false, false] rfl rfl (any_of HT_.out (by kernel_rfl)) (fun _ _ _ h => h) (Or.inl ⟨rfl, ?_⟩) ?_ ?_
                 rotate_left
                 ·intro w'
                  go_simp
                  with_reducible rfl
                 rotate_left
                 ·simp only [Act.put, List.setIfInBounds_toArray, List.set_cons_zero, List.set_cons_succ, i64_w, i32_w]
                  rfl
                 refine pure_ (i := 11) (N := some 85) (v := ?_) (a' := ?_) #[true, true, true, true, true, true, true, true, true, true, true, true, false, false, false, false, false, false, false, false, false, false, false, false, false, false, false, false, false, false, false, false, false, false, false, false] rfl rfl (any_of HT_.out (by kernel_rfl)) (fun _ _ _ h => h) (Or.inl ⟨rfl, ?_⟩) ?_ ?_
                 rotate_left
                 ·intro w'
                  go_simp
                  with_reducible rfl
                 rotate_left
                 ·simp only [Act.put, List.setIfInBounds_toArray, List.set_cons_zero, List.set_cons_succ, i64_w, i32_w]
                  rfl
                 refine pure_ (i := 12) (N := some 86) (v := ?_) (a' := ?_) #[true, true, true, true, true, true, true, true, true, true, true, true, true, false, false, false, false, false, false, false, false, false, false, false, false, false, false, false, false, false, false, false, false, false, false, false] rfl rfl (any_of HT_.out (by kernel_rfl)) (fun _ _ _ h => h) (Or.inl ⟨rfl, ?_⟩) ?_ ?_
                 rotate_left
                 ·intro w'
                  go_simp
                  with_reducible rfl
                 rotate_left
                 ·simp only [Act.put, List.setIfInBounds_toArray, List.set_cons_zero, List.set_cons_succ, i64_w, i32_w]
                  rfl
                 refine pure_ (i := 14) (N := some 88) (v := ?_) (a' := ?_) #[true, true, true, true, true, true, true, true, true, true, true, true, true, false, true, false, false, false, false, false, false, false, false, false, false, false, false, false, false, false, false, false, false, false, false, false] rfl rfl (any_of HT_.out (by kernel_rfl)) (fun _ _ _ h => h) (Or.inl ⟨rfl, ?_⟩) ?_ ?_
                 rotate_left
                 ·intro w'
                  go_simp
                  with_reducible rfl
                 rotate_left
                 ·simp only [Act.put, List.setIfInBounds_toArray, List.set_cons_zero, List.set_cons_succ, i64_w, i32_w]
                  rfl
                 refine pure_ (i := 15) (N := some 89) (v := ?_) (a' := ?_) #[true, true, true, true, true, true, true, true, true, true, true, true, true, false, true, true, false, false, false, false, false, false, false, false, false, false, false, false, false, false, false, false, false, false, false, false] rfl rfl (any_of HT_.out (by kernel_rfl)) (fun _ _ _ h => h) (Or.inl ⟨rfl, ?_⟩) ?_ ?_
                 rotate_left
                 ·intro w'
                  go_simp
                  with_reducible rfl
                 rotate_left
                 ·simp only [Act.put, List.setIfInBounds_toArray, List.set_cons_zero, List.set_cons_succ, i64_w, i32_w]
                  rfl
                 refine pure_ (i := 16) (N := some 90) (v := ?_) (a' := ?_) #[true, true, true, true, true, true, true, true, true, true, true, true, true, false, true, true, true, false, false, false, false, false, false, false, false, false, false, false, false, false, false, false, false, false, false, false] rfl rfl (any_of HT_.out (by kernel_rfl)) (fun _ _ _ h => h) (Or.inl ⟨rfl, ?_⟩) ?_ ?_
                 rotate_left
                 ·intro w'
                  go_simp
                  with_reducible rfl
                 rotate_left
                 ·simp only [Act.put, List.setIfInBounds_toArray, List.set_cons_zero, List.set_cons_succ, i64_w, i32_w]
                  rfl
                 refine take_ (i := 13) (N := some 87) (v := ?_) (a' := ?_) #[true, true, true, true, true, true, true, true, true, true, true, true, true, true, true, true, true, false, false, false, false, false, false, false, false, false, false, false, false, false, false, false, false, false, false, false] rfl rfl (take_ofW HT_.out HW_.out (by kernel_rfl)) (fun _ _ _ h => h) (Or.inl ⟨rfl, ?_⟩) hHeld ?_ ?_
                 rotate_left
                 ·rintro w' ⟨s0, s1, s2, s3, s4, s5, s6, s7, s8, s9, s10, s11, s12, s13, s14, s15, s16, s17, s18, s19, s20, s21, s22, s23, s24, s25, s26, s27, s28, s29, s30, s31, s32, s33, s34, s35⟩
                  go_simp
                  with_reducible rfl
                 rotate_left
                 ·simp only [Act.put, List.setIfInBounds_toArray, List.set_cons_zero, List.set_cons_succ, i64_w, i32_w]
                  rfl
                 refine take_ (i := 17) (N := some 91) (v := ?_) (a' := ?_) #[true, true, true, true, true, true, true, true, true, true, true, true, true, true, true, true, true, true, false, false, false, false, false, false, false, false, false, false, false, false, false, false, false, false, false, false] rfl rfl (take_ofW HT_.out HW_.out (by kernel_rfl)) (fun _ _ _ h => h) (Or.inl ⟨rfl, ?_⟩) hHeld ?_ ?_
                 rotate_left
                 ·rintro w' ⟨s0, s1, s2, s3, s4, s5, s6, s7, s8, s9, s10, s11, s12, s13, s14, s15, s16, s17, s18, s19, s20, s21, s22, s23, s24, s25, s26, s27, s28, s29, s30, s31, s32, s33, s34, s35⟩
                  go_simp
                  with_reducible rfl
                 rotate_left
                 ·simp only [Act.put, List.setIfInBounds_toArray, List.set_cons_zero, List.set_cons_succ, i64_w, i32_w]
                  rfl
                 refine pure_ (i := 18) (N := some 92) (v := ?_) (a' := ?_) #[true, true, true, true, true, true, true, true, true, true, true, true, true, true, true, true, true, true, true, false, false, false, false, false, false, false, false, false, false, false, false, false, false, false, false, false] rfl rfl (any_of HT_.out (by kernel_rfl)) (fun _ _ _ h => h) (Or.inl ⟨rfl, ?_⟩) ?_ ?_
                 rotate_left
                 ·intro w'
                  go_simp
                  with_reducible rfl
                 rotate_left
                 ·simp only [Act.put, List.setIfInBounds_toArray, List.set_cons_zero, List.set_cons_succ, i64_w, i32_w]
                  rfl
                 refine pure_ (i := 19) (N := some 93) (v := ?_) (a' := ?_) #[true, true, true, true, true, true, true, true, true, true, true, true, true, true, true, true, true, true, true, true, false, false, false, false, false, false, false, false, false, false, false, false, false, false, false, false] rfl rfl (any_of HT_.out (by kernel_rfl)) (fun _ _ _ h => h) (Or.inl ⟨rfl, ?_⟩) ?_ ?_
                 rotate_left
                 ·intro w'
                  go_simp
                  with_reducible rfl
                 rotate_left
                 ·simp only [Act.put, List.setIfInBounds_toArray, List.set_cons_zero, List.set_cons_succ, i64_w, i32_w]
                  rfl
                 refine pure_ (i := 20) (N := some 94) (v := ?_) (a' := ?_) #[true, true, true, true, true, true, true, true, true, true, true, true, true, true, true, true, true, true, true, true, true, false, false, false, false, false, false, false, false, false, false, false, false, false, false, false] rfl rfl (any_of HT_.out (by kernel_rfl)) (fun _ _ _ h => h) (Or.inl ⟨rfl, ?_⟩) ?_ ?_
                 rotate_left
                 ·intro w'
                  go_simp
                  with_reducible rfl
                 rotate_left
                 ·simp only [Act.put, List.setIfInBounds_toArray, List.set_cons_zero, List.set_cons_succ, i64_w, i32_w]
                  rfl
                 refine pure_ (i := 21) (N := some 95) (v := ?_) (a' := ?_) #[true, true, true, true, true, true, true, true, true, true, true, true, true, true, true, true, true, true, true, true, true, true, false, false, false, false, false, false, false, false, false, false, false, false, false, false] rfl rfl (any_of HT_.out (by kernel_rfl)) (fun _ _ _ h => h) (Or.inl ⟨rfl, ?_⟩) ?_ ?_
                 rotate_left
                 ·intro w'
                  go_simp
                  with_reducible rfl
                 rotate_left
                 ·simp only [Act.put, List.setIfInBounds_toArray, List.set_cons_zero, List.set_cons_succ, i64_w, i32_w]
                  rfl
                 refine pure_ (i := 22) (N := some 96) (v := ?_) (a' := ?_) #[true, true, true, true, true, true, true, true, true, true, true, true, true, true, true, true, true, true, true, true, true, true, true, false, false, false, false, false, false, false, false, false, false, false, false, false] rfl rfl (any_of HT_.out (by kernel_rfl)) (fun _ _ _ h => h) (Or.inl ⟨rfl, ?_⟩) ?_ ?_
                 rotate_left
                 ·intro w'
                  go_simp
                  with_reducible rfl
                 rotate_left
                 ·simp only [Act.put, List.setIfInBounds_toArray, List.set_cons_zero, List.set_cons_succ, i64_w, i32_w]
                  rfl
                 refine pure_ (i := 23) (N := some 97) (v := ?_) (a' := ?_) #[true, true, true, true, true, true, true, true, true, true, true, true, true, true, true, true, true, true, true, true, true, true, true, true, false, false, false, false, false, false, false, false, false, false, false, false] rfl rfl (any_of HT_.out (by kernel_rfl)) (fun _ _ _ h => h) (Or.inl ⟨rfl, ?_⟩) ?_ ?_
                 rotate_left
                 ·intro w'
                  go_simp
                  with_reducible rfl
                 rotate_left
                 ·simp only [Act.put, List.setIfInBounds_toArray, List.set_cons_zero, List.set_cons_succ, i64_w, i32_w]
                  rfl
                 refine pure_ (i := 24) (N := some 98) (v := ?_) (a' := ?_) #[true, true, true, true, true, true, true, true, true, true, true, true, true, true, true, true, true, true, true, true, true, true, true, true, true, false, false, false, false, false, false, false, false, false, false, false] rfl rfl (any_of HT_.out (by kernel_rfl)) (fun _ _ _ h => h) (Or.inl ⟨rfl, ?_⟩) ?_ ?_
                 rotate_left
                 ·intro w'
                  go_simp
                  with_reducible rfl
                 rotate_left
                 ·simp only [Act.put, List.setIfInBounds_toArray, List.set_cons_zero, List.set_cons_succ, i64_w, i32_w]
                  rfl
                 refine take_ (i := 25) (N := some 99) (v := ?_) (a' := ?_) #[true, true, true, true, true, true, true, true, true, true, true, true, true, true, true, true, true, true, true, true, true, true, true, true, true, true, false, false, false, false, false, false, false, false, false, false] rfl rfl (take_ofW HT_.out HW_.out (by kernel_rfl)) (fun _ _ _ h => h) (Or.inl ⟨rfl, ?_⟩) hHeld ?_ ?_
                 rotate_left
                 ·rintro w' ⟨s0, s1, s2, s3, s4, s5, s6, s7, s8, s9, s10, s11, s12, s13, s14, s15, s16, s17, s18, s19, s20, s21, s22, s23, s24, s25, s26, s27, s28, s29, s30, s31, s32, s33, s34, s35⟩
                  go_simp
                  with_reducible rfl
                 rotate_left
                 ·simp only [Act.put, List.setIfInBounds_toArray, List.set_cons_zero, List.set_cons_succ, i64_w, i32_w]
                  rfl
                 refine pure_ (i := 26) (N := some 100) (v := ?_) (a' := ?_) #[true, true, true, true, true, true, true, true, true, true, true, true, true, true, true, true, true, true, true, true, true, true, true, true, true, true, true, false, false, false, false, false, false, false, false, false] rfl rfl (any_of HT_.out (by kernel_rfl)) (fun _ _ _ h => h) (Or.inl ⟨rfl, ?_⟩) ?_ ?_
                 rotate_left
                 ·intro w'
                  go_simp
                  with_reducible rfl
                 rotate_left
                 ·simp only [Act.put, List.setIfInBounds_toArray, List.set_cons_zero, List.set_cons_succ, i64_w, i32_w]
                  rfl
                 refine pure_ (i := 27) (N := some 101) (v := ?_) (a' := ?_) #[true, true, true, true, true, true, true, true, true, true, true, true, true, true, true, true, true, true, true, true, true, true, true, true, true, true, true, true, false, false, false, false, false, false, false, false] rfl rfl (any_of HT_.out (by kernel_rfl)) (fun _ _ _ h => h) (Or.inl ⟨rfl, ?_⟩) ?_ ?_
                 rotate_left
                 ·intro w'
                  go_simp
                  with_reducible rfl
                 rotate_left
                 ·simp only [Act.put, List.setIfInBounds_toArray, List.set_cons_zero, List.set_cons_succ, i64_w, i32_w]
                  rfl
                 refine pure_ (i := 28) (N := some 102) (v := ?_) (a' := ?_) #[true, true, true, true, true, true, true, true, true, true, true, true, true, true, true, true, true, true, true, true, true, true, true, true, true, true, true, true, true, false, false, false, false, false, false, false] rfl rfl (any_of HT_.out (by kernel_rfl)) (fun _ _ _ h => h) (Or.inl ⟨rfl, ?_⟩) ?_ ?_
                 rotate_left
                 ·intro w'
                  go_simp
                  with_reducible rfl
                 rotate_left
                 ·simp only [Act.put, List.setIfInBounds_toArray, List.set_cons_zero, List.set_cons_succ, i64_w, i32_w]
                  rfl
                 refine pure_ (i := 29) (N := some 103) (v := ?_) (a' := ?_) #[true, true, true, true, true, true, true, true, true, true, true, true, true, true, true, true, true, true, true, true, true, true, true, true, true, true, true, true, true, true, false, false, false, false, false, false] rfl rfl (any_of HT_.out (by kernel_rfl)) (fun _ _ _ h => h) (Or.inl ⟨rfl, ?_⟩) ?_ ?_
                 rotate_left
                 ·intro w'
                  go_simp
                  with_reducible rfl
                 rotate_left
                 ·simp only [Act.put, List.setIfInBounds_toArray, List.set_cons_zero, List.set_cons_succ, i64_w, i32_w]
                  rfl
                 refine pure_ (i := 30) (N := some 104) (v := ?_) (a' := ?_) #[true, true, true, true, true, true, true, true, true, true, true, true, true, true, true, true, true, true, true, true, true, true, true, true, true, true, true, true, true, true, true, false, false, false, false, false] rfl rfl (any_of HT_.out (by kernel_rfl)) (fun _ _ _ h => h) (Or.inl ⟨rfl, ?_⟩) ?_ ?_
                 rotate_left
                 ·intro w'
                  go_simp
                  with_reducible rfl
                 rotate_left
                 ·simp only [Act.put, List.setIfInBounds_toArray, List.set_cons_zero, List.set_cons_succ, i64_w, i32_w]
                  rfl
                 refine pure_ (i := 31) (N := some 105) (v := ?_) (a' := ?_) #[true, true, true, true, true, true, true, true, true, true, true, true, true, true, true, true, true, true, true, true, true, true, true, true, true, true, true, true, true, true, true, true, false, false, false, false] rfl rfl (any_of HT_.out (by kernel_rfl)) (fun _ _ _ h => h) (Or.inl ⟨rfl, ?_⟩) ?_ ?_
                 rotate_left
                 ·intro w'
                  go_simp
                  with_reducible rfl
                 rotate_left
                 ·simp only [Act.put, List.setIfInBounds_toArray, List.set_cons_zero, List.set_cons_succ, i64_w, i32_w]
                  rfl
                 refine pure_ (i := 32) (N := some 106) (v := ?_) (a' := ?_) #[true, true, true, true, true, true, true, true, true, true, true, true, true, true, true, true, true, true, true, true, true, true, true, true, true, true, true, true, true, true, true, true, true, false, false, false] rfl rfl (any_of HT_.out (by kernel_rfl)) (fun _ _ _ h => h) (Or.inl ⟨rfl, ?_⟩) ?_ ?_
                 rotate_left
                 ·intro w'
                  go_simp
                  with_reducible rfl
                 rotate_left
                 ·simp only [Act.put, List.setIfInBounds_toArray, List.set_cons_zero, List.set_cons_succ, i64_w, i32_w]
                  rfl
                 refine take_ (i := 33) (N := some 107) (v := ?_) (a' := ?_) #[true, true, true, true, true, true, true, true, true, true, true, true, true, true, true, true, true, true, true, true, true, true, true, true, true, true, true, true, true, true, true, true, true, true, false, false] rfl rfl (take_ofW HT_.out HW_.out (by kernel_rfl)) (fun _ _ _ h => h) (Or.inl ⟨rfl, ?_⟩) hHeld ?_ ?_
                 rotate_left
                 ·rintro w' ⟨s0, s1, s2, s3, s4, s5, s6, s7, s8, s9, s10, s11, s12, s13, s14, s15, s16, s17, s18, s19, s20, s21, s22, s23, s24, s25, s26, s27, s28, s29, s30, s31, s32, s33, s34, s35⟩
                  go_simp
                  with_reducible rfl
                 rotate_left
                 ·simp only [Act.put, List.setIfInBounds_toArray, List.set_cons_zero, List.set_cons_succ, i64_w, i32_w]
                  rfl
                 refine pure_ (i := 34) (N := some 108) (v := ?_) (a' := ?_) #[true, true, true, true, true, true, true, true, true, true, true, true, true, true, true, true, true, true, true, true, true, true, true, true, true, true, true, true, true, true, true, true, true, true, true, false] rfl rfl (any_of HT_.out (by kernel_rfl)) (fun _ _ _ h => h) (Or.inl ⟨rfl, ?_⟩) ?_ ?_
                 rotate_left
                 ·intro w'
                  go_simp
                  with_reducible rfl
                 rotate_left
                 ·simp only [Act.put, List.setIfInBounds_toArray, List.set_cons_zero, List.set_cons_succ, i64_w, i32_w]
                  rfl
                 refine pure_ (i := 35) (N := some 109) (v := ?_) (a' := ?_) #[true, true, true, true, true, true, true, true, true, true, true, true, true, true, true, true, true, true, true, true, true, true, true, true, true, true, true, true, true, true, true, true, true, true, true, true] rfl rfl (any_of HT_.out (by kernel_rfl)) (fun _ _ _ h => h) (Or.inl ⟨rfl, ?_⟩) ?_ ?_
                 rotate_left
                 ·intro w'
                  go_simp
                  with_reducible rfl
                 rotate_left
                 ·simp only [Act.put, List.setIfInBounds_toArray, List.set_cons_zero, List.set_cons_succ, i64_w, i32_w]
                  rfl
                 refine done_ (done_of HT_.out (by kernel_rfl)) ?_
                 try go_wp2
                 have n0_ := Aside0.mk (Kd.R_drew HO_3.out)
                 have n1_ := Aside0.mk (Kd.R_drew HO_4.out)
                 have n2_ := Aside0.mk (Kd.R_drew HO_5.out)
                 have n3_ := Aside0.mk (Kd.R_drew HO_6.out)
                 have n4_ := Aside0.mk (Kd.R_drew HO_10.out)
                 have n5_ := Aside0.mk (below_drew1 HB.out)
                 clear HO_3
                 clear HO_4
                 clear HO_5
                 clear HO_6
                 clear HO_10
                 clear HB
                 have HO_3 := n0_
                 have HO_4 := n1_
                 have HO_5 := n2_
                 have HO_6 := n3_
                 have HO_10 := n4_
                 have HB := n5_
                 clear n0_ n1_ n2_ n3_ n4_ n5_
                 have p647 : 0 ≤ (x11_2 : Int) := of_decide_eq_true (by (with_reducible assumption))
                 have q647 : x11_2 < (t609.length : Int) := of_decide_eq_true (by (with_reducible assumption))
                 obtain ⟨ad647, e647, hx647_0, hx647_1, hx647_2, hx647_3, hx647_4, hx647_5⟩ := at_T62 (Kd.R_reads' HO_4.out).2.2 x11_2 p647 q647
                 obtain rfl : ad641 = ad647 := (by injection e647)
                 replace p647 := eq_true p647
                 replace q647 := eq_true q647
                 have p648 : 0 ≤ (x11_2 : Int) := of_decide_eq_true (by (with_reducible assumption))
                 have q648 : x11_2 < (t609.length : Int) := of_decide_eq_true (by (with_reducible assumption))
                 obtain ⟨ad648, e648, hx648_0, hx648_1, hx648_2, hx648_3, hx648_4, hx648_5⟩ := at_T62 (Kd.R_reads' HO_4.out).2.2 x11_2 p648 q648
                 obtain rfl : ad641 = ad648 := (by injection e648)
                 replace p648 := eq_true p648
                 replace q648 := eq_true q648
                 obtain ⟨Ao92, co92, eo92⟩ := Kd.R_slice HO_10.out
                 (subst eo92)
                 have p649 : 0 ≤ (((rd_T62 t609 x11_2).f0) : Int) := of_decide_eq_true (by (with_reducible assumption))
                 have q649 : ((rd_T62 t609 x11_2).f0) < (x10_2.length : Int) := of_decide_eq_true (by (with_reducible assumption))
                 obtain ⟨ad649, e649, hx649_0⟩ := Kd.at_int (Kd.R_reads' HO_10.out).2.2 ((rd_T62 t609 x11_2).f0) p649 q649
                 cases e649
                 replace p649 := eq_true p649
                 replace q649 := eq_true q649
                 have p650 : 0 ≤ (x11_2 : Int) := of_decide_eq_true (by (with_reducible assumption))
                 have q650 : x11_2 < (t609.length : Int) := of_decide_eq_true (by (with_reducible assumption))
                 obtain ⟨ad650, e650, hx650_0, hx650_1, hx650_2, hx650_3, hx650_4, hx650_5⟩ := at_T62 (Kd.R_reads' HO_4.out).2.2 x11_2 p650 q650
                 obtain rfl : ad641 = ad650 := (by injection e650)
                 replace p650 := eq_true p650
                 replace q650 := eq_true q650
                 have p86 : 0 ≤ (((rd_T62 t609 x11_2).f0) : Int) := of_decide_eq_true (by (with_reducible assumption))
                 have q86 : (((rd_T62 t609 x11_2).f0) : Int) < ((x10_2.length : Int) : Int) := of_decide_eq_true (by (with_reducible assumption))
                 obtain ⟨go86, co86, eo86, gb86, gl86, cl86, HG86⟩ := Kd.R_form HO_10.out (by omega)
                 (cases eo86)
                 have GB86 := Aside0.mk gb86
                 have GG86 := Aside0.mk HG86
                 clear gb86 gl86 HG86
                 (simp only [add_plain] at hx649_0)
                 obtain ⟨hx86_0, hf86_0⟩ := Kd.R_celln 0 HO_10.out (((rd_T62 t609 x11_2).f0) : Int) p86 q86
                 replace p86 := eq_true p86
                 replace q86 := eq_true q86
                 have HP93 := Kd.R_putn HO_10.out (((rd_T62 t609 x11_2).f0) : Int) (wrap64 ((rd x10_2 ((rd_T62 t609 x11_2).f0)) + ((rd_T62 t609 x11_2).f1.f1)))
                 rw [← Ny651.out] at HP93
                 have HQ93 := Aside0.mk HP93
                 clear HP93
                 refine start_ (n := 23) (S := fun w' => w'.cell? (ad641.add ((x11_2).toNat * 6)) = some (.int .i64 ((rd_T62 t609 x11_2).f0)) ∧ w'.cell? ⟨(ad641.add ((x11_2).toNat * 6)).block, (ad641.add ((x11_2).toNat * 6)).off + 1, none⟩ = some (.int .i64 ((rd_T62 t609 x11_2).f1.f0)) ∧ w'.cell? ⟨(ad641.add ((x11_2).toNat * 6)).block, (ad641.add ((x11_2).toNat * 6)).off + 2, none⟩ = some (.int .i64 ((rd_T62 t609 x11_2).f1.f1)) ∧ w'.cell? ⟨(ad641.add ((x11_2).toNat * 6)).block, (ad641.add ((x11_2).toNat * 6)).off + 3, none⟩ = some (.int .i64 ((rd_T62 t609 x11_2).f1.f2)) ∧ w'.cell? ⟨(ad641.add ((x11_2).toNat * 6)).block, (ad641.add ((x11_2).toNat * 6)).off + 4, none⟩ = some (.int .i64 ((rd_T62 t609 x11_2).f1.f3)) ∧ w'.cell? ⟨(ad641.add ((x11_2).toNat * 6)).block, (ad641.add ((x11_2).toNat * 6)).off + 5, none⟩ = some (.int .i64 ((rd_T62 t609 x11_2).f1.f4)) ∧ w'.cell? (ad641.add ((x11_2).toNat * 6)) = some (.int .i64 ((rd_T62 t609 x11_2).f0)) ∧ w'.cell? ⟨(ad641.add ((x11_2).toNat * 6)).block, (ad641.add ((x11_2).toNat * 6)).off + 1, none⟩ = some (.int .i64 ((rd_T62 t609 x11_2).f1.f0)) ∧ w'.cell? ⟨(ad641.add ((x11_2).toNat * 6)).block, (ad641.add ((x11_2).toNat * 6)).off + 2, none⟩ = some (.int .i64 ((rd_T62 t609 x11_2).f1.f1)) ∧ w'.cell? ⟨(ad641.add ((x11_2).toNat * 6)).block, (ad641.add ((x11_2).toNat * 6)).off + 3, none⟩ = some (.int .i64 ((rd_T62 t609 x11_2).f1.f2)) ∧ w'.cell? ⟨(ad641.add ((x11_2).toNat * 6)).block, (ad641.add ((x11_2).toNat * 6)).off + 4, none⟩ = some (.int .i64 ((rd_T62 t609 x11_2).f1.f3)) ∧ w'.cell? ⟨(ad641.add ((x11_2).toNat * 6)).block, (ad641.add ((x11_2).toNat * 6)).off + 5, none⟩ = some (.int .i64 ((rd_T62 t609 x11_2).f1.f4)) ∧ w'.cell? ⟨go86, (((rd_T62 t609 x11_2).f0)).toNat, none⟩ = some (.int .i64 (rd x10_2 ((rd_T62 t609 x11_2).f0))) ∧ w'.cell? (ad641.add ((x11_2).toNat * 6)) = some (.int .i64 ((rd_T62 t609 x11_2).f0)) ∧ w'.cell? ⟨(ad641.add ((x11_2).toNat * 6)).block, (ad641.add ((x11_2).toNat * 6)).off + 1, none⟩ = some (.int .i64 ((rd_T62 t609 x11_2).f1.f0)) ∧ w'.cell? ⟨(ad641.add ((x11_2).toNat * 6)).block, (ad641.add ((x11_2).toNat * 6)).off + 2, none⟩ = some (.int .i64 ((rd_T62 t609 x11_2).f1.f1)) ∧ w'.cell? ⟨(ad641.add ((x11_2).toNat * 6)).block, (ad641.add ((x11_2).toNat * 6)).off + 3, none⟩ = some (.int .i64 ((rd_T62 t609 x11_2).f1.f2)) ∧ w'.cell? ⟨(ad641.add ((x11_2).toNat * 6)).block, (ad641.add ((x11_2).toNat * 6)).off + 4, none⟩ = some (.int .i64 ((rd_T62 t609 x11_2).f1.f3)) ∧ w'.cell? ⟨(ad641.add ((x11_2).toNat * 6)).block, (ad641.add ((x11_2).toNat * 6)).off + 5, none⟩ = some (.int .i64 ((rd_T62 t609 x11_2).f1.f4))) (ds := [22]) #[false, false, false, false, false, false, false, false, false, false, false, false, false, false, false, false, false, false, false, false, false, false, false] (by kernel_rfl) rfl rfl ⟨hx647_0, hx647_1, hx647_2, hx647_3, hx647_4, hx647_5, hx648_0, hx648_1, hx648_2, hx648_3, hx648_4, hx648_5, hx649_0, hx650_0, hx650_1, hx650_2, hx650_3, hx650_4, hx650_5⟩ (fun hHeld => ?_); refine with_tabW laws_FnRollup.tab17 laws_FnRollup.bits17 (fun HT_ HW_ => ?_)
                 generalize w88.drew = w91 at HO_3 HO_4 HO_5 HO_6 HO_10 HB GG86 HQ93 hf86_0 hx647_0 hx647_1 hx647_2 hx647_3 hx647_4 hx647_5 hx648_0 hx648_1 hx648_2 hx648_3 hx648_4 hx648_5 hx649_0 hx650_0 hx650_1 hx650_2 hx650_3 hx650_4 hx650_5 hx86_0 hHeld ⊢
                 refine pure_ (i := 0) (N := some 110) (v := ?_) (a' := ?_) #[true, false, false, false, false, false, false, false, false, false, false, false, false, false, false, false, false, false, false, false, false, false, false] rfl rfl (any_of HT_.out (by kernel_rfl)) (fun _ _ _ h => h) (Or.inl ⟨rfl, ?_⟩) ?_ ?_
                 rotate_left
                 ·intro w'
                  go_simp
                  with_reducible rfl
                 rotate_left
                 ·simp only [Act.put, List.setIfInBounds_toArray, List.set_cons_zero, List.set_cons_succ, i64_w, i32_w]
                  rfl
                 refine pure_ (i := 1) (N := some 111) (v := ?_) (a' := ?_) #[true, true, false, false, false, false, false, false, false, false, false, false, false, false, false, false, false, false, false, false, false, false, false] rfl rfl (any_of HT_.out (by kernel_rfl)) (fun _ _ _ h => h) (Or.inl ⟨rfl, ?_⟩) ?_ ?_
                 rotate_left
                 ·intro w'
                  go_simp
                  with_reducible rfl
                 rotate_left
                 ·simp only [Act.put, List.setIfInBounds_toArray, List.set_cons_zero, List.set_cons_succ, i64_w, i32_w]
                  rfl
                 refine pure_ (i := 2) (N := some 112) (v := ?_) (a' := ?_) #[true, true, true, false, false, false, false, false, false, false, false, false, false, false, false, false, false, false, false, false, false, false, false] rfl rfl (any_of HT_.out (by kernel_rfl)) (fun _ _ _ h => h) (Or.inl ⟨rfl, ?_⟩) ?_ ?_
                 rotate_left
                 ·intro w'
                  go_simp
                  with_reducible rfl
                 rotate_left
                 ·simp only [Act.put, List.setIfInBounds_toArray, List.set_cons_zero, List.set_cons_succ, i64_w, i32_w]
                  rfl
                 refine pure_ (i := 3) (N := some 113) (v := ?_) (a' := ?_) #[true, true, true, true, false, false, false, false, false, false, false, false, false, false, false, false, false, false, false, false, false, false, false] rfl rfl (any_of HT_.out (by kernel_rfl)) (fun _ _ _ h => h) (Or.inl ⟨rfl, ?_⟩) ?_ ?_
                 rotate_left
                 ·intro w'
                  go_simp
                  with_reducible rfl
                 rotate_left
                 ·simp only [Act.put, List.setIfInBounds_toArray, List.set_cons_zero, List.set_cons_succ, i64_w, i32_w]
                  rfl
                 refine pure_ (i := 4) (N := some 114) (v := ?_) (a' := ?_) #[true, true, true, true, true, false, false, false, false, false, false, false, false, false, false, false, false, false, false, false, false, false, false] rfl rfl (any_of HT_.out (by kernel_rfl)) (fun _ _ _ h => h) (Or.inl ⟨rfl, ?_⟩) ?_ ?_
                 rotate_left
                 ·intro w'
                  go_simp
                  with_reducible rfl
                 rotate_left
                 ·simp only [Act.put, List.setIfInBounds_toArray, List.set_cons_zero, List.set_cons_succ, i64_w, i32_w]
                  rfl
                 refine pure_ (i := 6) (N := some 116) (v := ?_) (a' := ?_) #[true, true, true, true, true, false, true, false, false, false, false, false, false, false, false, false, false, false, false, false, false, false, false] rfl rfl (any_of HT_.out (by kernel_rfl)) (fun _ _ _ h => h) (Or.inl ⟨rfl, ?_⟩) ?_ ?_
                 rotate_left
                 ·intro w'
                  go_simp
                  with_reducible rfl
                 rotate_left
                 ·simp only [Act.put, List.setIfInBounds_toArray, List.set_cons_zero, List.set_cons_succ, i64_w, i32_w]
                  rfl
                 refine pure_ (i := 7) (N := some 117) (v := ?_) (a' := ?_) #[true, true, true, true, true, false, true, true, false, false, false, false, false, false, false, false, false, false, false, false, false, false, false] rfl rfl (any_of HT_.out (by kernel_rfl)) (fun _ _ _ h => h) (Or.inl ⟨rfl, ?_⟩) ?_ ?_
                 rotate_left
                 ·intro w'
                  go_simp
                  with_reducible rfl
                 rotate_left
                 ·simp only [Act.put, List.setIfInBounds_toArray, List.set_cons_zero, List.set_cons_succ, i64_w, i32_w]
                  rfl
                 refine pure_ (i := 8) (N := some 118) (v := ?_) (a' := ?_) #[true, true, true, true, true, false, true, true, true, false, false, false, false, false, false, false, false, false, false, false, false, false, false] rfl rfl (any_of HT_.out (by kernel_rfl)) (fun _ _ _ h => h) (Or.inl ⟨rfl, ?_⟩) ?_ ?_
                 rotate_left
                 ·intro w'
                  go_simp
                  with_reducible rfl
                 rotate_left
                 ·simp only [Act.put, List.setIfInBounds_toArray, List.set_cons_zero, List.set_cons_succ, i64_w, i32_w]
                  rfl
                 refine pure_ (i := 9) (N := some 119) (v := ?_) (a' := ?_) #[true, true, true, true, true, false, true, true, true, true, false, false, false, false, false, false, false, false, false, false, false, false, false] rfl rfl (any_of HT_.out (by kernel_rfl)) (fun _ _ _ h => h) (Or.inl ⟨rfl, ?_⟩) ?_ ?_
                 rotate_left
                 ·intro w'
                  go_simp
                  with_reducible rfl
                 rotate_left
                 ·simp only [Act.put, List.setIfInBounds_toArray, List.set_cons_zero, List.set_cons_succ, i64_w, i32_w]
                  rfl
                 refine pure_ (i := 10) (N := some 120) (v := ?_) (a' := ?_) #[true, true, true, true, true, false, true, true, true, true, true, false, false, false, false, false, false, false, false, false, false, false, false] rfl rfl (any_of HT_.out (by kernel_rfl)) (fun _ _ _ h => h) (Or.inl ⟨rfl, ?_⟩) ?_ ?_
                 rotate_left
                 ·intro w'
                  go_simp
                  with_reducible rfl
                 rotate_left
                 ·simp only [Act.put, List.setIfInBounds_toArray, List.set_cons_zero, List.set_cons_succ, i64_w, i32_w]
                  rfl
                 refine pure_ (i := 14) (N := some 124) (v := ?_) (a' := ?_) #[true, true, true, true, true, false, true, true, true, true, true, false, false, false, true, false, false, false, false, false, false, false, false] rfl rfl (any_of HT_.out (by kernel_rfl)) (fun _ _ _ h => h) (Or.inl ⟨rfl, ?_⟩) ?_ ?_
                 rotate_left
                 ·intro w'
                  go_simp
                  with_reducible rfl
                 rotate_left
                 ·simp only [Act.put, List.setIfInBounds_toArray, List.set_cons_zero, List.set_cons_succ, i64_w, i32_w]
                  rfl
                 refine pure_ (i := 15) (N := some 125) (v := ?_) (a' := ?_) #[true, true, true, true, true, false, true, true, true, true, true, false, false, false, true, true, false, false, false, false, false, false, false] rfl rfl (any_of HT_.out (by kernel_rfl)) (fun _ _ _ h => h) (Or.inl ⟨rfl, ?_⟩) ?_ ?_
                 rotate_left
                 ·intro w'
                  go_simp
                  with_reducible rfl
                 rotate_left
                 ·simp only [Act.put, List.setIfInBounds_toArray, List.set_cons_zero, List.set_cons_succ, i64_w, i32_w]
                  rfl
                 refine pure_ (i := 16) (N := some 126) (v := ?_) (a' := ?_) #[true, true, true, true, true, false, true, true, true, true, true, false, false, false, true, true, true, false, false, false, false, false, false] rfl rfl (any_of HT_.out (by kernel_rfl)) (fun _ _ _ h => h) (Or.inl ⟨rfl, ?_⟩) ?_ ?_
                 rotate_left
                 ·intro w'
                  go_simp
                  with_reducible rfl
                 rotate_left
                 ·simp only [Act.put, List.setIfInBounds_toArray, List.set_cons_zero, List.set_cons_succ, i64_w, i32_w]
                  rfl
                 refine pure_ (i := 17) (N := some 127) (v := ?_) (a' := ?_) #[true, true, true, true, true, false, true, true, true, true, true, false, false, false, true, true, true, true, false, false, false, false, false] rfl rfl (any_of HT_.out (by kernel_rfl)) (fun _ _ _ h => h) (Or.inl ⟨rfl, ?_⟩) ?_ ?_
                 rotate_left
                 ·intro w'
                  go_simp
                  with_reducible rfl
                 rotate_left
                 ·simp only [Act.put, List.setIfInBounds_toArray, List.set_cons_zero, List.set_cons_succ, i64_w, i32_w]
                  rfl
                 refine pure_ (i := 18) (N := some 128) (v := ?_) (a' := ?_) #[true, true, true, true, true, false, true, true, true, true, true, false, false, false, true, true, true, true, true, false, false, false, false] rfl rfl (any_of HT_.out (by kernel_rfl)) (fun _ _ _ h => h) (Or.inl ⟨rfl, ?_⟩) ?_ ?_
                 rotate_left
                 ·intro w'
                  go_simp
                  with_reducible rfl
                 rotate_left
                 ·simp only [Act.put, List.setIfInBounds_toArray, List.set_cons_zero, List.set_cons_succ, i64_w, i32_w]
                  rfl
                 refine take_ (i := 5) (N := some 115) (v := ?_) (a' := ?_) #[true, true, true, true, true, true, true, true, true, true, true, false, false, false, true, true, true, true, true, false, false, false, false] rfl rfl (take_ofW HT_.out HW_.out (by kernel_rfl)) (fun _ _ _ h => h) (Or.inl ⟨rfl, ?_⟩) hHeld ?_ ?_
                 rotate_left
                 ·rintro w' ⟨s0, s1, s2, s3, s4, s5, s6, s7, s8, s9, s10, s11, s12, s13, s14, s15, s16, s17, s18⟩
                  go_simp
                  with_reducible rfl
                 rotate_left
                 ·simp only [Act.put, List.setIfInBounds_toArray, List.set_cons_zero, List.set_cons_succ, i64_w, i32_w]
                  rfl
                 refine take_ (i := 11) (N := some 121) (v := ?_) (a' := ?_) #[true, true, true, true, true, true, true, true, true, true, true, true, false, false, true, true, true, true, true, false, false, false, false] rfl rfl (take_ofW HT_.out HW_.out (by kernel_rfl)) (fun _ _ _ h => h) (Or.inl ⟨rfl, ?_⟩) hHeld ?_ ?_
                 rotate_left
                 ·rintro w' ⟨s0, s1, s2, s3, s4, s5, s6, s7, s8, s9, s10, s11, s12, s13, s14, s15, s16, s17, s18⟩
                  go_simp
                  with_reducible rfl
                 rotate_left
                 ·simp only [Act.put, List.setIfInBounds_toArray, List.set_cons_zero, List.set_cons_succ, i64_w, i32_w]
                  rfl
                 refine pure_ (i := 12) (N := some 122) (v := ?_) (a' := ?_) #[true, true, true, true, true, true, true, true, true, true, true, true, true, false, true, true, true, true, true, false, false, false, false] rfl rfl (any_of HT_.out (by kernel_rfl)) (fun _ _ _ h => h) (Or.inl ⟨rfl, ?_⟩) ?_ ?_
                 rotate_left
                 ·intro w'
                  go_simp
                  with_reducible rfl
                 rotate_left
                 ·simp only [Act.put, List.setIfInBounds_toArray, List.set_cons_zero, List.set_cons_succ, i64_w, i32_w]
                  rfl
                 refine take_ (i := 13) (N := some 123) (v := ?_) (a' := ?_) #[true, true, true, true, true, true, true, true, true, true, true, true, true, true, true, true, true, true, true, false, false, false, false] rfl rfl (take_ofW HT_.out HW_.out (by kernel_rfl)) (fun _ _ _ h => h) (Or.inl ⟨rfl, ?_⟩) hHeld ?_ ?_
                 rotate_left
                 ·rintro w' ⟨s0, s1, s2, s3, s4, s5, s6, s7, s8, s9, s10, s11, s12, s13, s14, s15, s16, s17, s18⟩
                  go_simp
                  with_reducible rfl
                 rotate_left
                 ·simp only [Act.put, List.setIfInBounds_toArray, List.set_cons_zero, List.set_cons_succ, i64_w, i32_w]
                  rfl
                 refine take_ (i := 19) (N := some 129) (v := ?_) (a' := ?_) #[true, true, true, true, true, true, true, true, true, true, true, true, true, true, true, true, true, true, true, true, false, false, false] rfl rfl (take_ofW HT_.out HW_.out (by kernel_rfl)) (fun _ _ _ h => h) (Or.inl ⟨rfl, ?_⟩) hHeld ?_ ?_
                 rotate_left
                 ·rintro w' ⟨s0, s1, s2, s3, s4, s5, s6, s7, s8, s9, s10, s11, s12, s13, s14, s15, s16, s17, s18⟩
                  go_simp
                  with_reducible rfl
                 rotate_left
                 ·simp only [Act.put, List.setIfInBounds_toArray, List.set_cons_zero, List.set_cons_succ, i64_w, i32_w]
                  rfl
                 refine pure_ (i := 20) (N := some 130) (v := ?_) (a' := ?_) #[true, true, true, true, true, true, true, true, true, true, true, true, true, true, true, true, true, true, true, true, true, false, false] rfl rfl (any_of HT_.out (by kernel_rfl)) (fun _ _ _ h => h) (Or.inl ⟨rfl, ?_⟩) ?_ ?_
                 rotate_left
                 ·intro w'
                  go_simp
                  with_reducible rfl
                 rotate_left
                 ·simp only [Act.put, List.setIfInBounds_toArray, List.set_cons_zero, List.set_cons_succ, i64_w, i32_w]
                  rfl
                 refine pure_ (i := 21) (N := some 131) (v := ?_) (a' := ?_) #[true, true, true, true, true, true, true, true, true, true, true, true, true, true, true, true, true, true, true, true, true, true, false] rfl rfl (any_of HT_.out (by kernel_rfl)) (fun _ _ _ h => h) (Or.inl ⟨rfl, ?_⟩) ?_ ?_
                 rotate_left
                 ·intro w'
                  go_simp
                  with_reducible rfl
                 rotate_left
                 ·simp only [Act.put, List.setIfInBounds_toArray, List.set_cons_zero, List.set_cons_succ, i64_w, i32_w]
                  rfl
                 refine last_ (i := 22) (N := none) #[true, true, true, true, true, true, true, true, true, true, true, true, true, true, true, true, true, true, true, true, true, true, true] rfl rfl (one_of HT_.out (by kernel_rfl)) (by decide) (fun K hK => ?_)
                 refine skip_ (w1 := ?_) rfl rfl ?_ ?_
                 rotate_left
                 ·go_simp
                  rfl
                 refine hK.out _ _ ?_
                 clear hK K
                 refine done_ (done_of HT_.out (by kernel_rfl)) ?_
                 try go_wp2
                 go_roundg k2
                 case measure => have := HJ10.out; have := HK2.out; omega
                 case rel => exact ⟨(y651), (wrap64 (x11_2 + 1)), rfl, H', ⟨by have := HJ10.out; have := HK2.out; omega⟩, ⟨by exact Kd.R_mono (Kd.R_far (p := ⟨go86, (((rd_T62 t609 x11_2).f0) : Int).toNat, none⟩) (Kd.R_types HO_3.out GG86.out (by decide)) (fun _ hk => hk.2) (.int .i64 (wrap64 ((rd x10_2 ((rd_T62 t609 x11_2).f0)) + ((rd_T62 t609 x11_2).f1.f1))))) (fun _ hk => trivial)⟩, ⟨by exact Kd.R_mono (Kd.R_far (p := ⟨go86, (((rd_T62 t609 x11_2).f0) : Int).toNat, none⟩) (Kd.R_types HO_4.out GG86.out (by decide)) (fun _ hk => hk.2) (.int .i64 (wrap64 ((rd x10_2 ((rd_T62 t609 x11_2).f0)) + ((rd_T62 t609 x11_2).f1.f1))))) (fun _ hk => ⟨hk.1.1, hk.1.2⟩)⟩, ⟨by exact Kd.R_mono (Kd.R_far (p := ⟨go86, (((rd_T62 t609 x11_2).f0) : Int).toNat, none⟩) (Kd.R_types HO_5.out GG86.out (by decide)) (fun _ hk => hk.2) (.int .i64 (wrap64 ((rd x10_2 ((rd_T62 t609 x11_2).f0)) + ((rd_T62 t609 x11_2).f1.f1))))) (fun _ hk => ⟨hk.1.1, hk.1.2⟩)⟩, ⟨by exact Kd.R_mono (Kd.R_far (p := ⟨go86, (((rd_T62 t609 x11_2).f0) : Int).toNat, none⟩) (Kd.R_types HO_6.out GG86.out (by decide)) (fun _ hk => hk.2) (.int .i64 (wrap64 ((rd x10_2 ((rd_T62 t609 x11_2).f0)) + ((rd_T62 t609 x11_2).f1.f1))))) (fun _ hk => ⟨hk.1.1, hk.1.2⟩)⟩, ⟨HQ93.out⟩, ⟨by repeat ((with_reducible first | exact HB.out | refine below_set ?_ GB86.out))⟩⟩
                ·rw [if_neg c85] at H
                 exact absurd H (by simp)
               ·rw [if_neg c84] at H
                exact absurd H (by simp)
           ·rw [if_neg c68] at H
            exact absurd H (by simp)
         ·rw [if_neg c63] at H
          exact absurd H (by simp)
        ·rw [if_neg c62] at H
         exact absurd H (by simp)
       ·rw [if_neg c61] at H
        have c61b0 : decide (x11_2 < (t609.length : Int)) = false := decide_eq_false c61
        clear c61
        by_cases c94 : 0 < (x10_2.length : Int)
        ·rw [if_pos c94] at H
         have c94b0 : decide (0 < (x10_2.length : Int)) = true := decide_eq_true c94
         have c94b1 : decide (0 < x10_2.length) = true := decide_eq_true (by omega)
         clear c94
         by_cases c95 : (rd x10_2 0) = (t606.length : Int)
         ·rw [if_pos c95] at H
          have c95b0 : ((rd x10_2 0) == (t606.length : Int)) = true := beq_iff_eq.mpr c95
          have c95b1 : ((rd x10_2 0) != (t606.length : Int)) = false := bne_eq_false_iff_eq.mpr c95
          clear c95
          by_cases c96 : 1 < (x10_2.length : Int)
          ·rw [if_pos c96] at H
           have c96b0 : decide (1 < (x10_2.length : Int)) = true := decide_eq_true c96
           have c96b1 : decide (1 < x10_2.length) = true := decide_eq_true (by omega)
           clear c96
           by_cases c97 : (rd x10_2 1) = (t606.length : Int)
           ·rw [if_pos c97] at H
            have c97b0 : ((rd x10_2 1) == (t606.length : Int)) = true := beq_iff_eq.mpr c97
            have c97b1 : ((rd x10_2 1) != (t606.length : Int)) = false := bne_eq_false_iff_eq.mpr c97
            clear c97
            by_cases c98 : 2 < (x10_2.length : Int)
            ·rw [if_pos c98] at H
             have c98b0 : decide (2 < (x10_2.length : Int)) = true := decide_eq_true c98
             have c98b1 : decide (2 < x10_2.length) = true := decide_eq_true (by omega)
             clear c98
             obtain rfl := Option.some.inj H
             obtain ⟨Ao99, co99, eo99⟩ := Kd.R_slice HO_4.out
             subst eo99
             obtain ⟨Ao100, co100, eo100⟩ := Kd.R_slice HO_10.out
             subst eo100
             have p652 : 0 ≤ (0 : Int) := (by omega)
             have q652 : 0 < (x10_2.length : Int) := of_decide_eq_true (by (with_reducible assumption))
             obtain ⟨ad652, e652, hx652_0⟩ := Kd.at_int (Kd.R_reads' HO_10.out).2.2 0 p652 q652
             cases e652
             have qi652 : (0 < x10_2.length) = True := eq_true (by omega)
             (try rw [show ((0 : Int)).toNat = 0 from rfl] at hx652_0)
             (try rw [Addr.add_zero'] at hx652_0)
             replace p652 := eq_true p652
             replace q652 := eq_true q652
             have p653 : 0 ≤ (1 : Int) := (by omega)
             have q653 : 1 < (x10_2.length : Int) := of_decide_eq_true (by (with_reducible assumption))
             obtain ⟨ad653, e653, hx653_0⟩ := Kd.at_int (Kd.R_reads' HO_10.out).2.2 1 p653 q653
             obtain rfl : ad652 = ad653 := (by injection e653)
             (try simp only [show (1 : Int).toNat = 1 from rfl, Nat.reduceMul, Nat.reduceEqDiff, Go.Addr.add, ↓reduceIte] at hx653_0)
             have qi653 : (1 < x10_2.length) = True := eq_true (by omega)
             (try rw [show ((1 : Int)).toNat = 1 from rfl] at hx653_0)
             replace p653 := eq_true p653
             replace q653 := eq_true q653
             have p654 : 0 ≤ (2 : Int) := (by omega)
             have q654 : 2 < (x10_2.length : Int) := of_decide_eq_true (by (with_reducible assumption))
             obtain ⟨ad654, e654, hx654_0⟩ := Kd.at_int (Kd.R_reads' HO_10.out).2.2 2 p654 q654
             obtain rfl : ad652 = ad654 := (by injection e654)
             (try simp only [show (2 : Int).toNat = 2 from rfl, Nat.reduceMul, Nat.reduceEqDiff, Go.Addr.add, ↓reduceIte] at hx654_0)
             have qi654 : (2 < x10_2.length) = True := eq_true (by omega)
             (try rw [show ((2 : Int)).toNat = 2 from rfl] at hx654_0)
             replace p654 := eq_true p654
             replace q654 := eq_true q654
             go_wp2
             go_ret
             exact ⟨rfl, HB.out⟩
            ·rw [if_neg c98] at H
             exact absurd H (by simp)
           ·rw [if_neg c97] at H
            exact absurd H (by simp)
          ·rw [if_neg c96] at H
           exact absurd H (by simp)
         ·rw [if_neg c95] at H
          exact absurd H (by simp)
        ·rw [if_neg c94] at H
         exact absurd H (by simp)

/-- THE ONE PURE STATEMENT of laws_FnRollup: yours. -/
def laws_FnRollup.Pure : Prop := ∀ (l0 : List Int), l0.length ≤ maxLen → l0.length * 1 ≤ 140737488351232 → (∀ x ∈ l0, (Lit.int .u8 x).wf = true) → ∃ k, laws_FnRollup.f k l0 = some true
theorem laws_FnRollup.walk (P : laws_FnRollup.Pure) (a0 : Option Addr) (len0 cap0 : Nat) (z0 : List Int) (w : World) (w0 : (a0 = none ∧ len0 = 0 ∧ cap0 = 0 ∧ z0 = []) ∨ ∃ x, a0 = some x ∧ len0 ≤ cap0 ∧ cap0 ≤ maxLen ∧ z0.length = cap0 ∧ (∀ i, i < z0.length → w.cell? (x.add i) = some (.int .u8 (z0.getD i 0))) ∧ ∀ n ∈ z0, (Lit.int .u8 n).wf = true) (y0 : len0 * 1 ≤ 140737488351232) :
  Calls Try.prog 6 #[.slice a0 len0 cap0] w fun e w' => e = .returned (.bool true) ∧ Below w.heap.size w w' := by
 obtain ⟨l0, rfl, hr0, hm0, hw0, hc0⟩ := ReadsInt.ofRowC w0
 obtain ⟨k, h⟩ := P l0 hm0 y0 hw0
 refine (laws_FnRollup.calls k _ _ l0 true w (Kd.C_of_reads (d := (0 : Int)) (h1 := fun _ => rfl) hr0) hc0 h).mono ?_
 rintro e w' ⟨rfl, hd⟩
 exact ⟨rfl, hd⟩

end Go.Proofs.Ytphkghnppcfdpaa.P
namespace Go.Proofs.Ytphkghnppcfdpaa.P
open Go.RowKit Go.Proofs.YtphkghnppcfdpaaW.PrintWords Go.Proofs.YtphkghnppcfdpaaW.PrintLast Go.Proofs.YtphkghnppcfdpaaW.PrintMore
attribute [local go_sem] max2_int min2_int max_two min_two max_three min_three max_four min_four   -- for this text's walks alone
set_option linter.unusedVariables false
set_option linter.unusedSimpArgs false
set_option maxHeartbeats 8000000
set_option maxRecDepth 100000
end Go.Proofs.Ytphkghnppcfdpaa.P
