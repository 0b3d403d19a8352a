/- For every code the law FnBlockNestedLoop of the given program returns true and leaves its argument as it was; no condition. -/
import Derived.Test.YtobndcjmjhehjaaPbf4
namespace Go.Proofs.Ytobndcjmjhehjaa.P
open Go.RowKit Go.Proofs.YtobndcjmjhehjaaW.PrintWords Go.Proofs.YtobndcjmjhehjaaW.PrintLast
set_option linter.unusedVariables false
set_option linter.unusedSimpArgs false
namespace Plain

abbrev T := List UInt8

def split (s : UInt8) : T → List T
 | [] => [[]]
 | c :: r => if c = s then [] :: split s r else match split s r with
  | h :: t => (c :: h) :: t
  | [] => [[c]]
end Plain
open Plain
namespace Br

theorem Ev.succ {α : Type} {g : Nat → Option α} {r : α} (h : Ev (fun k => g (k + 1)) r) : Ev g r := by
 obtain ⟨K, h⟩ := h
 refine ⟨K + 1, fun k hk => ?_⟩
 have := h (k - 1) (by omega)
 simpa [show k - 1 + 1 = k by omega] using this
theorem Ev.val {α : Type} {v r : α} (h : v = r) : Ev (fun _ => some v) r := ⟨0, fun _ _ => by rw [h]⟩
theorem Ev.then {α β : Type} {g : Nat → Option α} {f : Nat → α → Option β} {a : α} {r : β} (h : Ev g a) (k : Ev (fun n => f n a) r) : Ev (fun n => (g n).bind (f n)) r := Ev.bind h k
theorem Ev.one {α : Type} {g : Nat → Option α} {a : α} (h : Ev g a) : Ev (fun n => (g n).bind fun t => some t) a := Ev.bind h (Ev.val rfl)
def L (s : ByteArray) : T := s.data.toList
theorem w64 {n : Int} (h1 : -9223372036854775808 ≤ n) (h2 : n ≤ 9223372036854775807) : wrap64 n = n := by unfold wrap64; omega
end Br
open Plain Br
section
end
open Plain Br
section
theorem succ64 (j : Nat) (hj : j < 9223372036854775807) : wrap64 ((j : Int) + 1) = ((j + 1 : Nat) : Int) := by unfold wrap64; omega
end
open Plain Br
section
abbrev Row := S60
theorem rd_row (xs : List Row) (j : Nat) (h : j < xs.length) : rd_T60 xs (j : Int) = xs[j] := by
 unfold rd_T60
 rw [Int.toNat_natCast, List.getD_eq_getElem?_getD, List.getElem?_eq_getElem h]
 rfl
def vRow (r : Row) : Bool := decide (0 ≤ r.f0) && decide (r.f0 ≤ 9) && (decide (0 ≤ r.f1) && decide (r.f1 ≤ 99)) && (decide (0 ≤ r.f2) && decide (r.f2 ≤ 3))
theorem vRow_iff (r : Row) : vRow r = true ↔ (0 ≤ r.f0 ∧ r.f0 ≤ 9) ∧ (0 ≤ r.f1 ∧ r.f1 ≤ 99) ∧ 0 ≤ r.f2 ∧ r.f2 ≤ 3 := by
 unfold vRow
 simp only [Bool.and_eq_true, decide_eq_true_iff]
 constructor
 ·rintro ⟨⟨⟨a, b⟩, c, d⟩, e, f⟩; exact ⟨⟨a, b⟩, ⟨c, d⟩, e, f⟩
 ·rintro ⟨⟨a, b⟩, ⟨c, d⟩, e, f⟩; exact ⟨⟨⟨a, b⟩, c, d⟩, e, f⟩
def vRows (l : List Row) : Bool := decide (l.length ≤ 24) && l.all vRow
theorem vRows_iff (l : List Row) : vRows l = true ↔ l.length ≤ 24 ∧ ∀ r ∈ l, vRow r = true := by
 unfold vRows
 rw [Bool.and_eq_true, decide_eq_true_iff, List.all_eq_true]

theorem within_eq (a b c : Int) : impl_within.f a b c = some (decide (b ≤ a) && decide (a ≤ c)) := by
 unfold impl_within.f
 by_cases h : a ≥ b
 ·rw [if_pos h, decide_eq_true (show b ≤ a from h), Bool.true_and]
 ·rw [if_neg h, decide_eq_false (show ¬ b ≤ a from h), Bool.false_and]
theorem l1In_eq (a b c : Int) : spec_l1In.f a b c = some (decide (b ≤ a) && decide (a ≤ c)) := by
 unfold spec_l1In.f
 by_cases h : a ≥ b
 ·rw [if_pos h, decide_eq_true (show b ≤ a from h), Bool.true_and]
 ·rw [if_neg h, decide_eq_false (show ¬ b ≤ a from h), Bool.false_and]
theorem impl_IsValidRow_eq (x y z : Int) : impl_IsValidRow.f x y z = some (vRow ⟨x, y, z⟩) := by
 unfold impl_IsValidRow.f vRow
 simp only [within_eq, Option.bind_some]
 cases (decide (0 ≤ x) && decide (x ≤ 9)) <;> simp only [if_true, Bool.false_eq_true, if_false, Bool.true_and, Bool.false_and]
 cases (decide (0 ≤ y) && decide (y ≤ 99)) <;> simp only [if_true, Bool.false_eq_true, if_false, Bool.true_and, Bool.false_and]
theorem spec_IsValidRow_eq (x y z : Int) : spec_IsValidRow.f x y z = some (vRow ⟨x, y, z⟩) := by
 unfold spec_IsValidRow.f vRow
 simp only [l1In_eq, Option.bind_some]
 cases (decide (0 ≤ x) && decide (x ≤ 9)) <;> simp only [if_true, Bool.false_eq_true, if_false, Bool.true_and, Bool.false_and]
 cases (decide (0 ≤ y) && decide (y ≤ 99)) <;> simp only [if_true, Bool.false_eq_true, if_false, Bool.true_and, Bool.false_and]

theorem all_drop (xs : List Row) (j : Nat) (h : j < xs.length) : (xs.drop j).all vRow = (vRow xs[j] && (xs.drop (j + 1)).all vRow) := by
 rw [List.drop_eq_getElem_cons h, List.all_cons]
theorem impl_allValid_l0 (xs : List Row) (hl : xs.length ≤ 9223372036854775800) : ∀ (d j : Nat), xs.length - j = d → j ≤ xs.length →
  Ev (fun k => impl_allValid.l0 k xs (xs.length : Int) (j : Int)) ((xs.drop j).all vRow) := by
 intro d
 induction d with
 | zero =>
  intro j hd hj
  obtain rfl : j = xs.length := by omega
  refine Ev.succ ?_
  have c1 : ¬ ((xs.length : Int) < (xs.length : Int)) := by omega
  simp only [impl_allValid.l0, c1, if_false, List.drop_length, List.all_nil]
  exact Ev.val rfl
 | succ d ih =>
  intro j hd hj
  have h : j < xs.length := by omega
  refine Ev.succ ?_
  have c1 : (j : Int) < (xs.length : Int) := by omega
  have c2 : (0 : Int) ≤ (j : Int) := by omega
  simp only [impl_allValid.l0, c1, c2, if_true, rd_row xs j h, impl_IsValidRow_eq, Option.bind_some, succ64 j (by omega), all_drop xs j h]
  cases e : vRow xs[j]
  ·simp only [Bool.false_eq_true, if_false, Bool.false_and]; exact Ev.val rfl
  ·simp only [if_true, Bool.true_and]; exact ih (j + 1) (by omega) (by omega)
theorem impl_allValid_ev (xs : List Row) (hl : xs.length ≤ 9223372036854775800) : Ev (fun k => impl_allValid.f k xs) (xs.all vRow) := by
 have := impl_allValid_l0 xs hl xs.length 0 (by omega) (by omega)
 simpa [impl_allValid.f] using this
theorem impl_AreValidRows_ev (xs : List Row) : Ev (fun k => impl_AreValidRows.f k xs) (vRows xs) := by
 unfold impl_AreValidRows.f vRows
 by_cases h : xs.length ≤ 24
 ·have c1 : (xs.length : Int) ≤ 24 := by omega
  simp only [c1, if_true, h, decide_true, Bool.true_and]
  exact Ev.one (impl_allValid_ev xs (by omega))
 ·have c1 : ¬ ((xs.length : Int) ≤ 24) := by omega
  simp only [c1, if_false, h, decide_false, Bool.false_and]
  exact Ev.val rfl
theorem spec_AreValidRows_l0 (xs : List Row) (hl : xs.length ≤ 9223372036854775800) : ∀ (d j : Nat), xs.length - j = d → j ≤ xs.length →
  Ev (fun k => spec_AreValidRows.l0 k xs (j : Int)) (decide (xs.length ≤ 24) && (xs.drop j).all vRow) := by
 intro d
 induction d with
 | zero =>
  intro j hd hj
  obtain rfl : j = xs.length := by omega
  refine Ev.succ ?_
  have c1 : ¬ ((xs.length : Int) < (xs.length : Int)) := by omega
  simp only [spec_AreValidRows.l0, c1, if_false, List.drop_length, List.all_nil, Bool.and_true]
  refine Ev.val (by rw [decide_eq_decide]; omega)
 | succ d ih =>
  intro j hd hj
  have h : j < xs.length := by omega
  refine Ev.succ ?_
  have c1 : (j : Int) < (xs.length : Int) := by omega
  have c2 : (0 : Int) ≤ (j : Int) := by omega
  simp only [spec_AreValidRows.l0, c1, c2, if_true, rd_row xs j h, spec_IsValidRow_eq, Option.bind_some, succ64 j (by omega), all_drop xs j h]
  cases e : vRow xs[j]
  ·simp only [Bool.false_eq_true, if_false, Bool.false_and, Bool.and_false]; exact Ev.val rfl
  ·simp only [if_true, Bool.true_and]; exact ih (j + 1) (by omega) (by omega)
theorem spec_AreValidRows_ev (xs : List Row) (hl : xs.length ≤ 9223372036854775800) : Ev (fun k => spec_AreValidRows.f k xs) (vRows xs) := by
 have := spec_AreValidRows_l0 xs hl xs.length 0 (by omega) (by omega)
 simpa [spec_AreValidRows.f, vRows] using this

end
open Plain Br
section
end
open Plain Br
section
abbrev Task := S40
def inB (x a b : Int) : Bool := decide (a ≤ x) && decide (x ≤ b)
theorem inB_iff (x a b : Int) : inB x a b = true ↔ a ≤ x ∧ x ≤ b := by
 unfold inB; rw [Bool.and_eq_true, decide_eq_true_iff, decide_eq_true_iff]
def vTask (t : Task) : Bool := inB t.f0 1 4 && (vRows t.f1 && (vRows t.f2 && (decide (t.f3.length = t.f1.length) && inB t.f4 0 4)))
theorem impl_IsValidTask_ev (k0 : Int) (l r : List Row) (m : List Bool) (v : Int) : Ev (fun k => impl_IsValidTask.f k k0 l r m v) (vTask ⟨k0, l, r, m, v⟩) := by
 unfold impl_IsValidTask.f vTask impl_IsValidJoinKind.f
 simp only [within_eq, Option.bind_some]
 rw [show (decide (1 ≤ k0) && decide (k0 ≤ 4)) = inB k0 1 4 from rfl, show (decide (0 ≤ v) && decide (v ≤ 4)) = inB v 0 4 from rfl]
 cases inB k0 1 4
 ·simp only [Bool.false_eq_true, if_false, Bool.false_and]; exact Ev.val rfl
 ·simp only [if_true, Bool.true_and]
  refine Ev.then (impl_AreValidRows_ev l) ?_
  cases vRows l
  ·simp only [Bool.false_eq_true, if_false, Bool.false_and]; exact Ev.val rfl
  ·simp only [if_true, Bool.true_and]
   refine Ev.then (impl_AreValidRows_ev r) ?_
   cases vRows r
   ·simp only [Bool.false_eq_true, if_false, Bool.false_and]; exact Ev.val rfl
   ·simp only [if_true, Bool.true_and]
    by_cases h : m.length = l.length
    ·have c : (m.length : Int) = (l.length : Int) := by omega
     simp only [c, h, if_true, decide_true, Bool.true_and]; exact Ev.val rfl
    ·have c : ¬ ((m.length : Int) = (l.length : Int)) := by omega
     simp only [c, h, if_false, decide_false, Bool.false_and]; exact Ev.val rfl
theorem spec_IsValidTask_ev (k0 : Int) (l r : List Row) (m : List Bool) (v : Int) (hl : l.length ≤ 9223372036854775800) (hr : r.length ≤ 9223372036854775800) : Ev (fun k => spec_IsValidTask.f k k0 l r m v) (vTask ⟨k0, l, r, m, v⟩) := by
 unfold spec_IsValidTask.f vTask spec_IsValidJoinKind.f
 simp only [l1In_eq, Option.bind_some]
 rw [show (decide (1 ≤ k0) && decide (k0 ≤ 4)) = inB k0 1 4 from rfl, show (decide (0 ≤ v) && decide (v ≤ 4)) = inB v 0 4 from rfl]
 cases inB k0 1 4
 ·simp only [Bool.false_eq_true, if_false, Bool.false_and]; exact Ev.val rfl
 ·simp only [if_true, Bool.true_and]
  refine Ev.then (spec_AreValidRows_ev l hl) ?_
  cases vRows l
  ·simp only [Bool.false_eq_true, if_false, Bool.false_and]; exact Ev.val rfl
  ·simp only [if_true, Bool.true_and]
   refine Ev.then (spec_AreValidRows_ev r hr) ?_
   cases vRows r
   ·simp only [Bool.false_eq_true, if_false, Bool.false_and]; exact Ev.val rfl
   ·simp only [if_true, Bool.true_and]
    by_cases h : m.length = l.length
    ·have c : (m.length : Int) = (l.length : Int) := by omega
     simp only [c, h, if_true, decide_true, Bool.true_and]; exact Ev.val rfl
    ·have c : ¬ ((m.length : Int) = (l.length : Int)) := by omega
     simp only [c, h, if_false, decide_false, Bool.false_and]; exact Ev.val rfl
structure VTask (t : Task) : Prop where
 kind : 1 ≤ t.f0 ∧ t.f0 ≤ 4
 left : vRows t.f1 = true
 right : vRows t.f2 = true
 marks : t.f3.length = t.f1.length
 level : 0 ≤ t.f4 ∧ t.f4 ≤ 4
theorem vTask_iff (t : Task) : vTask t = true ↔ VTask t := by
 unfold vTask
 rw [Bool.and_eq_true, Bool.and_eq_true, Bool.and_eq_true, Bool.and_eq_true, decide_eq_true_iff, inB_iff, inB_iff]
 exact ⟨fun ⟨a, b, c, d, e⟩ => ⟨a, b, c, d, e⟩, fun h => ⟨h.kind, h.left, h.right, h.marks, h.level⟩⟩
theorem rdOf_bool (m : List Bool) (j : Nat) (h : j < m.length) : rdOf false m (j : Int) = m[j] := by
 unfold rdOf
 rw [Int.toNat_natCast, List.getD_eq_getElem?_getD, List.getElem?_eq_getElem h]
 rfl
end
open Plain Br
section
theorem and255 (a : Int) : 0 ≤ Go.bits .and .i64 a 255 ∧ Go.bits .and .i64 a 255 ≤ 255 := by
 have h : ((BitVec.ofInt 64 a) &&& (BitVec.ofInt 64 255)).toNat ≤ 255 := by
  rw [BitVec.toNat_and]
  exact Nat.le_trans Nat.and_le_right (by decide)
 have e : Go.bits .and .i64 a 255 = wrap64 ((((BitVec.ofInt 64 a) &&& (BitVec.ofInt 64 255)).toNat : Nat) : Int) := i64_w _
 rw [e, w64 (by omega) (by omega)]
 omega
def Cur (b : List Int) (i : Int) : Prop := 0 ≤ i ∧ b.length ≤ 140737488355328
theorem l1Byte_ok (b : List Int) (i h : Int) (c : Cur b i) : ∃ x i' h', spec_l1Byte.f b i h = some (x, i', h') ∧ Cur b i' ∧ 0 ≤ x ∧ x ≤ 255 := by
 obtain ⟨h0, hb⟩ := c
 unfold spec_l1Byte.f
 by_cases hi : i < (b.length : Int)
 ·rw [if_pos hi, if_pos h0]
  exact ⟨_, _, _, rfl, ⟨by rw [w64 (by omega) (by omega)]; omega, hb⟩, and255 _⟩
 ·rw [if_neg hi]
  exact ⟨_, _, _, rfl, ⟨h0, hb⟩, and255 _⟩
theorem tmod_lt {x n : Int} (h0 : 0 ≤ x) (hn : 0 < n) : 0 ≤ Int.tmod x n ∧ Int.tmod x n < n := by
 rw [Int.tmod_eq_emod_of_nonneg h0]
 exact ⟨Int.emod_nonneg _ (by omega), Int.emod_lt_of_pos _ hn⟩
theorem l1Below_ok (b : List Int) (i h n : Int) (c : Cur b i) (hn : n ≤ 256) : ∃ x i' h', spec_l1Below.f b i h n = some (x, i', h') ∧ Cur b i' ∧ 0 ≤ x ∧ (0 < n → x < n) ∧ (n ≤ 0 → x = 0) := by
 unfold spec_l1Below.f
 by_cases h0 : n ≤ 0
 ·rw [if_pos h0]
  exact ⟨_, _, _, rfl, c, Int.le_refl _, fun h => by omega, fun _ => rfl⟩
 ·rw [if_neg h0, if_pos hn]
  obtain ⟨x, i', h', e, c', x0, x1⟩ := l1Byte_ok b i h c
  rw [e, Option.bind_some, if_neg (by omega)]
  have := tmod_lt x0 (show 0 < n by omega)
  exact ⟨_, _, _, rfl, c', this.1, fun _ => this.2, fun h => by omega⟩
theorem l1Once_ok (b : List Int) (i h n : Int) (c : Cur b i) (hn : n ≤ 256) : ∃ x i' h', spec_l1Once.f b i h n = some (x, i', h') ∧ Cur b i' := by
 unfold spec_l1Once.f
 obtain ⟨x, i', h', e, c', _⟩ := l1Below_ok b i h n c hn
 rw [e, Option.bind_some]
 exact ⟨_, _, _, rfl, c'⟩
theorem rd_mem (l : List Int) (x : Int) (h0 : 0 ≤ x) (h1 : x < (l.length : Int)) : rd l x ∈ l := by
 have h : x.toNat < l.length := by omega
 unfold rd
 rw [List.getD_eq_getElem?_getD, List.getElem?_eq_getElem h]
 exact List.getElem_mem h
theorem l1PickInt_ok (b : List Int) (i h : Int) (l : List Int) (c : Cur b i) (hl : l ≠ []) (hn : l.length ≤ 256) : ∃ x i' h', spec_l1PickInt.f b i h l = some (x, i', h') ∧ Cur b i' ∧ x ∈ l := by
 unfold spec_l1PickInt.f
 have hp : 0 < l.length := List.length_pos_iff.2 hl
 obtain ⟨x, i', h', e, c', x0, x1, _⟩ := l1Below_ok b i h (l.length : Int) c (by omega)
 have x1 := x1 (by omega)
 rw [e, Option.bind_some, if_pos x0, if_pos x1]
 exact ⟨_, _, _, rfl, c', rd_mem l x x0 x1⟩
theorem l2Row_ok (b : List Int) (i h n : Int) (c : Cur b i) (hn : n ≤ 256) : ∃ x y z i' h', spec_l2Row.f b i h n = some (x, y, z, i', h') ∧ Cur b i' ∧ 0 ≤ x ∧ (0 < n → x < n) ∧ 0 ≤ y ∧ y < 100 ∧ 0 ≤ z ∧ z ≤ 3 := by
 unfold spec_l2Row.f
 obtain ⟨x, i1, h1, e1, c1, x0, x1, _⟩ := l1Below_ok b i h n c hn
 rw [e1, Option.bind_some]
 obtain ⟨y, i2, h2, e2, c2, y0, y1, _⟩ := l1Below_ok b i1 h1 100 c1 (by omega)
 rw [e2, Option.bind_some]
 obtain ⟨z, i3, h3, e3, c3, hz⟩ := l1PickInt_ok b i2 h2 [0, 0, 1, 2, 3] c2 (by simp) (by simp)
 rw [e3, Option.bind_some]
 simp only [List.mem_cons, List.not_mem_nil, or_false] at hz
 exact ⟨_, _, _, _, _, rfl, c3, x0, x1, y0, y1 (by omega), by omega, by omega⟩
theorem l2Any_ok (b : List Int) (i h : Int) (c : Cur b i) : ∃ x y z i' h', spec_l2Any.f b i h = some (x, y, z, i', h') ∧ Cur b i' := by
 unfold spec_l2Any.f
 obtain ⟨x, y, z, i1, h1, e1, c1, _⟩ := l2Row_ok b i h 10 c (by omega)
 rw [e1, Option.bind_some]
 obtain ⟨q, i2, h2, e2, c2, _⟩ := l1Below_ok b i1 h1 8 c1 (by omega)
 simp only [e2, Option.bind_some]
 split
 ·obtain ⟨u, i3, h3, e3, c3, _⟩ := l1PickInt_ok b i2 h2 [-1, 10] c2 (by simp) (by simp)
  rw [e3, Option.bind_some]
  exact ⟨_, _, _, _, _, rfl, c3⟩
 ·split
  ·obtain ⟨u, i3, h3, e3, c3, _⟩ := l1PickInt_ok b i2 h2 [-1, 100, 99] c2 (by simp) (by simp)
   rw [e3, Option.bind_some]
   exact ⟨_, _, _, _, _, rfl, c3⟩
  ·split
   ·obtain ⟨u, i3, h3, e3, c3, _⟩ := l1PickInt_ok b i2 h2 [-1, 4] c2 (by simp) (by simp)
    rw [e3, Option.bind_some]
    exact ⟨_, _, _, _, _, rfl, c3⟩
   ·exact ⟨_, _, _, _, _, rfl, c2⟩
theorem l2Rows_l0 (b : List Int) (keys : Int) (hk0 : 1 ≤ keys) (hk : keys ≤ 10) : ∀ (n : Nat) (xs : List Row) (i h : Int), Cur b i → xs.length + n ≤ 1000 → (∀ r ∈ xs, vRow r = true) →
  ∃ ys i' h', Ev (fun k => spec_l2Rows.l0 k xs keys (n : Int) b i h) (ys, i', h') ∧ Cur b i' ∧ ys.length = xs.length + n ∧ ∀ r ∈ ys, vRow r = true
 | 0, xs, i, h, c, _, hv => ⟨xs, i, h, by
   refine Ev.succ ?_
   simp only [spec_l2Rows.l0, show ¬ (((0 : Nat) : Int) > 0) from by omega, if_false]
   exact Ev.val rfl, c, rfl, hv⟩
 | n + 1, xs, i, h, c, hl, hv => by
  obtain ⟨x, y, z, i1, h1, e1, c1, p1, p2, p3, p4, p5, p6⟩ := l2Row_ok b i h keys c (by omega)
  obtain ⟨ys, i2, h2, E, c2, l2, v2⟩ := l2Rows_l0 b keys hk0 hk n (xs ++ [⟨x, y, z⟩]) i1 h1 c1 (by rw [List.length_append, List.length_singleton]; omega) (by
   intro r hr
   rcases List.mem_append.1 hr with hr | hr
   ·exact hv r hr
   ·rw [List.mem_singleton.1 hr, vRow_iff]
    have := p2 (by omega)
    dsimp only
    omega)
  refine ⟨ys, i2, h2, ?_, c2, by rw [l2, List.length_append, List.length_singleton]; omega, v2⟩
  refine Ev.succ ?_
  have c1 : ((n + 1 : Nat) : Int) > 0 := by omega
  have c2 : wrap64 (((n + 1 : Nat) : Int) - 1) = (n : Int) := by rw [w64 (by omega) (by omega)]; omega
  have c3 : xs.length < 5864062014805 := by omega
  simp only [spec_l2Rows.l0, c1, c2, c3, if_true, e1, Option.bind_some]
  exact E
theorem l2Rows_ok (b : List Int) (i h : Int) (m : Nat) (hm : m ≤ 200) (c : Cur b i) : ∃ ys i' h', Ev (fun k => spec_l2Rows.f k b i h (m : Int)) (ys, i', h') ∧ Cur b i' ∧ ys.length ≤ m ∧ ∀ r ∈ ys, vRow r = true := by
 obtain ⟨keys, i1, h1, e1, c1, hk⟩ := l1PickInt_ok b i h [1, 2, 4, 10] c (by simp) (by simp)
 simp only [List.mem_cons, List.not_mem_nil, or_false] at hk
 obtain ⟨n, i2, h2, e2, c2, n0, n1, _⟩ := l1Below_ok b i1 h1 ((m : Int) + 1) c1 (by omega)
 have n1 := n1 (by omega)
 obtain ⟨q, rfl⟩ : ∃ q : Nat, n = (q : Int) := ⟨n.toNat, by omega⟩
 obtain ⟨ys, i3, h3, E, c3, l3, v3⟩ := l2Rows_l0 b keys (by omega) (by omega) q [] i2 h2 c2 (by simp; omega) (by simp)
 refine ⟨ys, i3, h3, ?_, c3, by rw [l3]; simp; omega, v3⟩
 have w : wrap64 ((m : Int) + 1) = (m : Int) + 1 := w64 (by omega) (by omega)
 simp only [spec_l2Rows.f, w, e1, e2, Option.bind_some]
 exact E
theorem l2Bent_ok (b : List Int) (i h : Int) (m : Nat) (hm : m ≤ 200) (c : Cur b i) : ∃ ys i' h', Ev (fun k => spec_l2Bent.f k b i h (m : Int)) (ys, i', h') ∧ Cur b i' ∧ ys.length ≤ m + 1 := by
 obtain ⟨ys, i1, h1, E, c1, l1, _⟩ := l2Rows_ok b i h m hm c
 obtain ⟨q, i2, h2, e2, c2⟩ := l1Once_ok b i1 h1 14 c1 (by omega)
 cases q
 ·refine ⟨ys, i2, h2, ?_, c2, by omega⟩
  unfold spec_l2Bent.f
  refine Ev.then E ?_
  simp only [e2, Option.bind_some, Bool.false_eq_true, if_false]
  exact Ev.val rfl
 ·obtain ⟨x, y, z, i3, h3, e3, c3⟩ := l2Any_ok b i2 h2 c2
  refine ⟨ys ++ [⟨x, y, z⟩], i3, h3, ?_, c3, by rw [List.length_append, List.length_singleton]; omega⟩
  unfold spec_l2Bent.f
  refine Ev.then E ?_
  have c0 : ys.length < 5864062014805 := by omega
  simp only [e2, e3, Option.bind_some, if_true, c0]
  exact Ev.val rfl
theorem l1New_l0 (b : List Int) (hb : b.length ≤ 140737488355328) : ∀ (d j : Nat) (h : Int), b.length - j = d → j ≤ b.length → ∃ h', Ev (fun k => spec_l1New.l0 k b h (j : Int)) (b, 0, h')
 | 0, j, h, hd, hj => ⟨h, by
   refine Ev.succ ?_
   simp only [spec_l1New.l0, show ¬ ((j : Int) < (b.length : Int)) from by omega, if_false]
   exact Ev.val rfl⟩
 | d + 1, j, h, hd, hj => by
  have c1 : (j : Int) < (b.length : Int) := by omega
  by_cases q : (j : Int) < 4000
  ·obtain ⟨h', E⟩ := l1New_l0 b hb d (j + 1) (Go.bits .and .i64 (wrap64 ((wrap64 ((wrap64 (h * 131)) + (wrap64 (rd b (j : Int))))) + 7)) 1073741823) (by omega) (by omega)
   refine ⟨h', Ev.succ ?_⟩
   have c2 : (0 : Int) ≤ (j : Int) := by omega
   simp only [spec_l1New.l0, c1, c2, q, if_true, succ64 j (by omega)]
   exact E
  ·refine ⟨h, Ev.succ ?_⟩
   simp only [spec_l1New.l0, c1, q, if_true, if_false]
   exact Ev.val rfl
theorem l1New_ok (b : List Int) (hb : b.length ≤ 140737488355328) : ∃ h', Ev (fun k => spec_l1New.f k b) (b, 0, h') := by
 unfold spec_l1New.f
 exact l1New_l0 b hb b.length 0 _ (by omega) (by omega)
theorem cur0 {b : List Int} (hb : b.length ≤ 140737488355328) : Cur b 0 := ⟨Int.le_refl _, hb⟩
theorem l11Grant_ok (b : List Int) (i h : Int) (c : Cur b i) : ∃ x i' h', spec_l11Grant.f b i h = some (x, i', h') ∧ Cur b i' ∧ 0 ≤ x ∧ x ≤ 61 := by
 unfold spec_l11Grant.f
 obtain ⟨q, i1, h1, e1, c1⟩ := l1Once_ok b i h 14 c (by omega)
 simp only [e1, Option.bind_some]
 split
 ·obtain ⟨u, i3, h3, e3, c3, hu⟩ := l1PickInt_ok b i1 h1 [7, 61] c1 (by simp) (by simp)
  rw [e3, Option.bind_some]
  simp only [List.mem_cons, List.not_mem_nil, or_false] at hu
  exact ⟨_, _, _, rfl, c3, by omega, by omega⟩
 ·obtain ⟨u, i3, h3, e3, c3, hu⟩ := l1PickInt_ok b i1 h1 [8, 8, 9, 12, 20, 60] c1 (by simp) (by simp)
  rw [e3, Option.bind_some]
  simp only [List.mem_cons, List.not_mem_nil, or_false] at hu
  exact ⟨_, _, _, rfl, c3, by omega, by omega⟩
theorem l7Kind_ok (b : List Int) (i h : Int) (c : Cur b i) : ∃ x i' h', spec_l7Kind.f b i h = some (x, i', h') ∧ Cur b i' ∧ 0 ≤ x ∧ x ≤ 5 := by
 unfold spec_l7Kind.f
 obtain ⟨q, i1, h1, e1, c1⟩ := l1Once_ok b i h 14 c (by omega)
 simp only [e1, Option.bind_some]
 split
 ·obtain ⟨u, i3, h3, e3, c3, hu⟩ := l1PickInt_ok b i1 h1 [0, 5] c1 (by simp) (by simp)
  rw [e3, Option.bind_some]
  simp only [List.mem_cons, List.not_mem_nil, or_false] at hu
  exact ⟨_, _, _, rfl, c3, by omega, by omega⟩
 ·obtain ⟨u, i3, h3, e3, c3, u0, u1, _⟩ := l1Below_ok b i1 h1 4 c1 (by omega)
  rw [e3, Option.bind_some]
  have u1 := u1 (by omega)
  have w : wrap64 (1 + u) = 1 + u := w64 (by omega) (by omega)
  exact ⟨_, _, _, rfl, c3, by rw [w]; omega, by rw [w]; omega⟩
theorem DrawNextChunk_ok (b : List Int) (hb : b.length ≤ 140737488355328) : ∃ ys g, Ev (fun k => spec_DrawNextChunk.f k b) (ys, g) ∧ ys.length ≤ 9 := by
 obtain ⟨h1, E1⟩ := l1New_ok b hb
 obtain ⟨ys, i2, h2, E2, c2, l2⟩ := l2Bent_ok b 0 h1 8 (by omega) (cur0 hb)
 obtain ⟨g, i3, h3, e3, c3, _⟩ := l1PickInt_ok b i2 h2 [0, 1, 8, 12, (-1)] c2 (by simp) (by simp)
 refine ⟨ys, g, ?_, l2⟩
 unfold spec_DrawNextChunk.f
 refine Ev.then E1 ?_
 refine Ev.then E2 ?_
 simp only [e3, Option.bind_some]
 exact Ev.val rfl
theorem DrawBnl_ok (b : List Int) (hb : b.length ≤ 140737488355328) : ∃ kd xs ys g, Ev (fun k => spec_DrawBlockNestedLoopJoin.f k b) (kd, xs, ys, g) ∧ xs.length ≤ 8 ∧ ys.length ≤ 10 := by
 obtain ⟨h1, E1⟩ := l1New_ok b hb
 obtain ⟨kd, i2, h2, e2, c2, _⟩ := l7Kind_ok b 0 h1 (cur0 hb)
 obtain ⟨xs, i3, h3, E3, c3, l3⟩ := l2Bent_ok b i2 h2 7 (by omega) c2
 obtain ⟨ys, i4, h4, E4, c4, l4⟩ := l2Bent_ok b i3 h3 9 (by omega) c3
 obtain ⟨g, i5, h5, e5, c5, _⟩ := l11Grant_ok b i4 h4 c4
 refine ⟨kd, xs, ys, g, ?_, l3, l4⟩
 unfold spec_DrawBlockNestedLoopJoin.f
 refine Ev.then E1 ?_
 simp only [e2, Option.bind_some]
 refine Ev.then E3 ?_
 refine Ev.then E4 ?_
 simp only [e5, Option.bind_some]
 exact Ev.val rfl
end
open Plain Br
section
def rc (r : Row) : Int := if vRow r = true then 1 + r.f2 else 0
theorem rc_bd (r : Row) : 0 ≤ rc r ∧ rc r ≤ 4 := by
 unfold rc
 split
 ·rename_i h
  have := (vRow_iff r).1 h
  omega
 ·omega
def tc (l : List Row) : Int := l.foldl (fun n r => n + rc r) 0
theorem tc_nil : tc [] = 0 := rfl
theorem tc_fold (l : List Row) (n : Int) : l.foldl (fun n r => n + rc r) n = n + tc l := by
 unfold tc
 induction l generalizing n with
 | nil => simp
 | cons r l ih => rw [List.foldl_cons, List.foldl_cons, ih, ih (0 + rc r)]; omega
theorem tc_append (a b : List Row) : tc (a ++ b) = tc a + tc b := by
 show (a ++ b).foldl _ 0 = _
 rw [List.foldl_append, tc_fold]
 rfl
theorem tc_one (r : Row) : tc [r] = rc r := by show 0 + rc r = rc r; omega
theorem tc_bd (l : List Row) : 0 ≤ tc l ∧ tc l ≤ 4 * (l.length : Int) := by
 induction l with
 | nil => exact ⟨Int.le_refl _, Int.le_refl _⟩
 | cons r l ih =>
  have h := tc_append [r] l
  have e : [r] ++ l = r :: l := rfl
  rw [e, tc_one] at h
  have := rc_bd r
  rw [List.length_cons]
  omega
theorem tc_take (l : List Row) (j : Nat) (h : j < l.length) : tc (l.take (j + 1)) = tc (l.take j) + rc l[j] := by
 rw [List.take_succ_eq_append_getElem h, tc_append, tc_one]
theorem impl_RowCost_eq (x y z : Int) : impl_RowCost.f x y z = some (rc ⟨x, y, z⟩) := by
 unfold impl_RowCost.f rc
 rw [impl_IsValidRow_eq, Option.bind_some]
 cases h : vRow ⟨x, y, z⟩
 ·simp only [Bool.false_eq_true, if_false]
 ·have := (vRow_iff _).1 h
  dsimp only at this
  simp only [if_true]
  rw [w64 (by omega) (by omega)]
theorem spec_RowCost_eq (x y z : Int) : spec_RowCost.f x y z = some (rc ⟨x, y, z⟩) := by
 unfold spec_RowCost.f rc
 rw [spec_IsValidRow_eq, Option.bind_some]
 cases h : vRow ⟨x, y, z⟩
 ·simp only [Bool.false_eq_true, if_false]
 ·have := (vRow_iff _).1 h
  dsimp only at this
  simp only [if_true]
  rw [w64 (by omega) (by omega)]
theorem impl_TotalCost_l0 (l : List Row) (hl : l.length ≤ 1000000) : ∀ (d j : Nat), l.length - j = d → j ≤ l.length →
  Ev (fun k => impl_TotalCost.l0 k (tc (l.take j)) l (l.length : Int) (j : Int)) (tc l)
 | 0, j, hd, hj => by
  obtain rfl : j = l.length := by omega
  refine Ev.succ ?_
  simp only [impl_TotalCost.l0, show ¬ ((l.length : Int) < (l.length : Int)) from by omega, if_false, List.take_length]
  exact Ev.val rfl
 | d + 1, j, hd, hj => by
  have h : j < l.length := by omega
  have c1 : (j : Int) < (l.length : Int) := by omega
  have c2 : (0 : Int) ≤ (j : Int) := by omega
  have e := tc_take l j h
  have b1 := tc_bd (l.take j)
  have b2 := rc_bd l[j]
  have b3 : (l.take j).length ≤ l.length := by rw [List.length_take]; omega
  have w : wrap64 (tc (l.take j) + rc l[j]) = tc (l.take (j + 1)) := by rw [e]; exact w64 (by omega) (by omega)
  refine Ev.succ ?_
  simp only [impl_TotalCost.l0, c1, c2, if_true, rd_row l j h, impl_RowCost_eq, Option.bind_some, succ64 j (by omega), w]
  exact impl_TotalCost_l0 l hl d (j + 1) (by omega) (by omega)
theorem impl_TotalCost_ev (l : List Row) (hl : l.length ≤ 1000000) : Ev (fun k => impl_TotalCost.f k l) (tc l) := by
 have := impl_TotalCost_l0 l hl l.length 0 (by omega) (by omega)
 simpa [impl_TotalCost.f, tc_nil] using this
theorem spec_TotalCost_l0 (l : List Row) (hl : l.length ≤ 1000000) : ∀ (d j : Nat), l.length - j = d → j ≤ l.length →
  Ev (fun k => spec_TotalCost.l0 k l (tc (l.take j)) (j : Int)) (tc l)
 | 0, j, hd, hj => by
  obtain rfl : j = l.length := by omega
  refine Ev.succ ?_
  simp only [spec_TotalCost.l0, show ¬ ((l.length : Int) < (l.length : Int)) from by omega, if_false, List.take_length]
  exact Ev.val rfl
 | d + 1, j, hd, hj => by
  have h : j < l.length := by omega
  have c1 : (j : Int) < (l.length : Int) := by omega
  have c2 : (0 : Int) ≤ (j : Int) := by omega
  have e := tc_take l j h
  have b1 := tc_bd (l.take j)
  have b2 := rc_bd l[j]
  have b3 : (l.take j).length ≤ l.length := by rw [List.length_take]; omega
  have w : wrap64 (tc (l.take j) + rc l[j]) = tc (l.take (j + 1)) := by rw [e]; exact w64 (by omega) (by omega)
  refine Ev.succ ?_
  simp only [spec_TotalCost.l0, c1, c2, if_true, rd_row l j h, spec_RowCost_eq, Option.bind_some, succ64 j (by omega), w]
  exact spec_TotalCost_l0 l hl d (j + 1) (by omega) (by omega)
theorem spec_TotalCost_ev (l : List Row) (hl : l.length ≤ 1000000) : Ev (fun k => spec_TotalCost.f k l) (tc l) := by
 have := spec_TotalCost_l0 l hl l.length 0 (by omega) (by omega)
 simpa [spec_TotalCost.f, tc_nil] using this

def chunkN (l : List Row) (g : Int) : Nat → Nat → Nat
 | 0, n => n
 | d + 1, n => if tc (l.take (n + 1)) ≤ g then chunkN l g d (n + 1) else n
theorem chunkN_bd (l : List Row) (g : Int) : ∀ d n, n ≤ chunkN l g d n ∧ chunkN l g d n ≤ n + d ∧ (chunkN l g d n = n ∨ tc (l.take (chunkN l g d n)) ≤ g)
 | 0, n => ⟨Nat.le_refl _, Nat.le_refl _, .inl rfl⟩
 | d + 1, n => by
  unfold chunkN
  split
  ·rename_i h
   obtain ⟨a, b, c⟩ := chunkN_bd l g d (n + 1)
   refine ⟨by omega, by omega, .inr ?_⟩
   rcases c with c | c
   ·rw [c]; exact h
   ·exact c
  ·exact ⟨Nat.le_refl _, by omega, .inl rfl⟩
def cn (l : List Row) (g : Int) : Nat := chunkN l g (l.length - min 1 l.length) (min 1 l.length)
theorem cn_le (l : List Row) (g : Int) : cn l g ≤ l.length := by
 have := (chunkN_bd l g (l.length - min 1 l.length) (min 1 l.length)).2.1
 unfold cn
 omega
theorem cn_pos {l : List Row} (g : Int) (h : 0 < l.length) : 0 < cn l g := by
 have := (chunkN_bd l g (l.length - min 1 l.length) (min 1 l.length)).1
 unfold cn
 omega
theorem cn_cost {l : List Row} {g : Int} (h : 1 < cn l g) : tc (l.take (cn l g)) ≤ g := by
 have := (chunkN_bd l g (l.length - min 1 l.length) (min 1 l.length)).2.2
 unfold cn at h ⊢
 rcases this with e | e
 ·rw [e] at h; omega
 ·exact e
theorem impl_clone_eq (l : List Row) (h : l.length ≤ 1000000) : impl_clone.f l = some l := by
 unfold impl_clone.f
 rw [if_pos (by simp only [List.length_nil]; omega), List.nil_append]
theorem impl_NextChunk_l0 (l : List Row) (g : Int) (hl : l.length ≤ 1000000) : ∀ (d n : Nat), l.length - n = d → n ≤ l.length →
  Ev (fun k => impl_NextChunk.l0 k l g (n : Int)) (l.take (chunkN l g d n), l.drop (chunkN l g d n))
 | 0, n, hd, hn => by
  obtain rfl : n = l.length := by omega
  refine Ev.succ ?_
  have c1 : ¬ ((l.length : Int) < (l.length : Int)) := by omega
  have c2 : (0 : Int) ≤ (l.length : Int) := by omega
  have c3 : (l.length : Int) ≤ (l.length : Int) := by omega
  simp only [impl_NextChunk.l0, c1, c2, c3, if_true, if_false, Int.toNat_natCast, impl_clone_eq _ (show (l.take l.length).length ≤ 1000000 by rw [List.length_take]; omega), impl_clone_eq _ (show (l.drop l.length).length ≤ 1000000 by rw [List.length_drop]; omega), Option.bind_some]
  exact Ev.val rfl
 | d + 1, n, hd, hn => by
  have c1 : (n : Int) < (l.length : Int) := by omega
  have c2 : (0 : Int) ≤ (n : Int) := by omega
  have c4 : (n : Int) ≤ (l.length : Int) := by omega
  have c5 : (0 : Int) ≤ ((n + 1 : Nat) : Int) := by omega
  have c6 : ((n + 1 : Nat) : Int) ≤ (l.length : Int) := by omega
  refine Ev.succ ?_
  simp only [impl_NextChunk.l0, c1, c2, c4, c5, c6, if_true, succ64 n (by omega), Int.toNat_natCast]
  refine Ev.then (impl_TotalCost_ev _ (by rw [List.length_take]; omega)) ?_
  unfold chunkN
  by_cases q : tc (l.take (n + 1)) ≤ g
  ·simp only [q, if_true]
   exact impl_NextChunk_l0 l g hl d (n + 1) (by omega) (by omega)
  ·simp only [q, if_false, impl_clone_eq _ (show (l.take n).length ≤ 1000000 by rw [List.length_take]; omega), impl_clone_eq _ (show (l.drop n).length ≤ 1000000 by rw [List.length_drop]; omega), Option.bind_some]
   exact Ev.val rfl
theorem mn_nat (n : Nat) : mn 1 (n : Int) = ((min 1 n : Nat) : Int) := by
 unfold mn
 split <;> omega
theorem impl_NextChunk_ev (l : List Row) (g : Int) (hl : l.length ≤ 1000000) : Ev (fun k => impl_NextChunk.f k l g) (l.take (cn l g), l.drop (cn l g)) := by
 unfold impl_NextChunk.f cn
 rw [mn_nat]
 exact impl_NextChunk_l0 l g hl _ _ rfl (by omega)
theorem spec_NextChunk_l0 (l : List Row) (g : Int) (hl : l.length ≤ 1000000) : ∀ (d n : Nat), l.length - n = d → n ≤ l.length → min 1 l.length ≤ n →
  Ev (fun k => spec_NextChunk.l0 k l g (tc (l.take n)) (n : Int)) (l.take (chunkN l g d n), l.drop (chunkN l g d n))
 | 0, n, hd, hn, h1 => by
  obtain rfl : n = l.length := by omega
  refine Ev.succ ?_
  have c1 : ¬ ((l.length : Int) < (l.length : Int)) := by omega
  have c2 : (0 : Int) ≤ (l.length : Int) := by omega
  have c3 : (l.length : Int) ≤ (l.length : Int) := by omega
  have c4 : ([] : List Row).length + (l.take l.length).length < 5864062014805 := by rw [List.length_take, List.length_nil]; omega
  have c5 : ([] : List Row).length + (l.drop l.length).length < 5864062014805 := by rw [List.length_drop, List.length_nil]; omega
  simp only [spec_NextChunk.l0, c1, c2, c3, c4, c5, if_true, if_false, Int.toNat_natCast, Option.bind_some, List.nil_append]
  exact Ev.val rfl
 | d + 1, n, hd, hn, h1 => by
  have h : n < l.length := by omega
  have c1 : (n : Int) < (l.length : Int) := by omega
  have c0 : ¬ ((n : Int) = 0) := by omega
  have c2 : (0 : Int) ≤ (n : Int) := by omega
  have c3 : (n : Int) ≤ (l.length : Int) := by omega
  have e := tc_take l n h
  have b1 := tc_bd (l.take n)
  have b2 := rc_bd l[n]
  have b3 : (l.take n).length ≤ l.length := by rw [List.length_take]; omega
  have w : wrap64 (tc (l.take n) + rc l[n]) = tc (l.take (n + 1)) := by rw [e]; exact w64 (by omega) (by omega)
  have c4 : ([] : List Row).length + (l.take n).length < 5864062014805 := by rw [List.length_nil]; omega
  have c5 : ([] : List Row).length + (l.drop n).length < 5864062014805 := by rw [List.length_drop, List.length_nil]; omega
  refine Ev.succ ?_
  unfold chunkN
  by_cases q : tc (l.take (n + 1)) ≤ g
  ·simp only [spec_NextChunk.l0, c0, c1, c2, if_true, if_false, rd_row l n h, spec_RowCost_eq, Option.bind_some, w, q, succ64 n (by omega)]
   exact spec_NextChunk_l0 l g hl d (n + 1) (by omega) (by omega) (by omega)
  ·simp only [spec_NextChunk.l0, c0, c1, c2, c3, c4, c5, if_true, if_false, rd_row l n h, spec_RowCost_eq, Option.bind_some, w, q, Int.toNat_natCast, List.nil_append]
   exact Ev.val rfl
theorem spec_NextChunk_ev (l : List Row) (g : Int) (hl : l.length ≤ 1000000) : Ev (fun k => spec_NextChunk.f k l g) (l.take (cn l g), l.drop (cn l g)) := by
 unfold spec_NextChunk.f cn
 by_cases h : l.length = 0
 ·have := spec_NextChunk_l0 l g hl (l.length - min 1 l.length) 0 (by omega) (by omega) (by omega)
  have e : min 1 l.length = 0 := by omega
  rw [e] at this ⊢
  simpa [tc_nil] using this
 ·have e : min 1 l.length = 1 := by omega
  rw [e]
  have h0 : 0 < l.length := by omega
  refine Ev.succ ?_
  have c1 : (0 : Int) < (l.length : Int) := by omega
  have hr : rd_T60 l 0 = l[0] := rd_row l 0 h0
  have t1 := tc_take l 0 h0
  rw [List.take_zero, tc_nil] at t1
  have w : wrap64 (0 + rc l[0]) = tc (l.take 1) := by have := rc_bd l[0]; rw [w64 (by omega) (by omega)]; exact t1.symm
  have w2 : wrap64 (0 + rc ⟨l[0].f0, l[0].f1, l[0].f2⟩) = tc (l.take 1) := w
  have w1 : wrap64 (0 + 1) = ((1 : Nat) : Int) := w64 (by decide) (by decide)
  simp only [spec_NextChunk.l0, c1, if_true, Int.le_refl, hr, spec_RowCost_eq, Option.bind_some, w2, w1]
  have key := spec_NextChunk_l0 l g hl (l.length - 1) 1 rfl (by omega) (by omega)
  rw [← w2] at key
  exact key

theorem laws_sameRows_l0 (l : List Row) (hl : l.length ≤ 1000000) : ∀ (d j : Nat), l.length - j = d → j ≤ l.length →
  Ev (fun k => laws_sameRows.l0 k l l (j : Int)) true
 | 0, j, hd, hj => by
  refine Ev.succ ?_
  simp only [laws_sameRows.l0, show ¬ ((j : Int) < (l.length : Int)) from by omega, if_false]
  exact Ev.val rfl
 | d + 1, j, hd, hj => by
  have c1 : (j : Int) < (l.length : Int) := by omega
  have c2 : (0 : Int) ≤ (j : Int) := by omega
  refine Ev.succ ?_
  simp only [laws_sameRows.l0, c1, c2, if_true, beq_self_eq_true, Bool.not_true, Bool.or_self, Bool.false_eq_true, if_false, succ64 j (by omega)]
  exact laws_sameRows_l0 l hl d (j + 1) (by omega) (by omega)
theorem laws_sameRows_ev (l : List Row) (hl : l.length ≤ 1000000) : Ev (fun k => laws_sameRows.f k l l) true := by
 unfold laws_sameRows.f
 simp only [if_true]
 exact laws_sameRows_l0 l hl l.length 0 (by omega) (by omega)
end
section
structure Tot {α : Type} (c : α → α → Int) : Prop where
 anti : ∀ a b, c a b = 0 → a = b
 flip : ∀ a b, c a b = - c b a
 trans : ∀ a b d, c a b ≤ 0 → c b d ≤ 0 → c a d ≤ 0
def Asc {α : Type} (c : α → α → Int) (l : List α) : Prop := l.Pairwise fun a b => c a b ≤ 0
theorem asc_eq {α : Type} {c : α → α → Int} (T : Tot c) : ∀ {l m : List α}, l.Perm m → Asc c l → Asc c m → l = m
 | [], m, h, _, _ => by rw [List.nil_perm.1 h]
 | a :: l, [], h, _, _ => by cases List.perm_nil.1 h
 | a :: l, b :: m, h, hl, hm => by
  have e : a = b := by
   have ha : a ∈ b :: m := h.subset (List.mem_cons_self)
   have hb : b ∈ a :: l := h.symm.subset (List.mem_cons_self)
   rcases List.mem_cons.1 ha with e | ha
   ·exact e
   ·rcases List.mem_cons.1 hb with e | hb
    ·exact e.symm
    ·have h1 := (List.pairwise_cons.1 hl).1 b hb
     have h2 := (List.pairwise_cons.1 hm).1 a ha
     have h3 := T.flip a b
     exact T.anti a b (by omega)
  subst e
  rw [asc_eq T (List.Perm.cons_inv h) (List.pairwise_cons.1 hl).2 (List.pairwise_cons.1 hm).2]
def down {α : Type} (c : α → α → Int) (out : List α) (x : α) : Nat → Nat
 | 0 => 0
 | k + 1 => match out[k]? with
  | some y => if 0 < c y x then down c out x k else k + 1
  | none => k + 1
theorem down_le {α : Type} (c : α → α → Int) (out : List α) (x : α) : ∀ k, down c out x k ≤ k
 | 0 => Nat.le_refl _
 | k + 1 => by
  unfold down
  split
  ·split
   ·have := down_le c out x k; omega
   ·exact Nat.le_refl _
  ·exact Nat.le_refl _
theorem down_hi {α : Type} (c : α → α → Int) (out : List α) (x : α) : ∀ k, ∀ j, down c out x k ≤ j → j < k → ∀ y, out[j]? = some y → 0 < c y x
 | 0, j, _, h, _, _ => absurd h (Nat.not_lt_zero j)
 | k + 1, j, h1, h2, y, hy => by
  unfold down at h1
  split at h1
  ·rename_i y' e
   split at h1
   ·rename_i hc
    by_cases q : j = k
    ·subst q; rw [hy] at e; injection e with e; subst e; exact hc
    ·exact down_hi c out x k j h1 (by omega) y hy
   ·omega
  ·omega
theorem down_lo {α : Type} (c : α → α → Int) (out : List α) (x : α) : ∀ k, k ≤ out.length → ∀ j, down c out x k = j + 1 → ∀ y, out[j]? = some y → c y x ≤ 0
 | 0, _, j, h, _, _ => by unfold down at h; omega
 | k + 1, hk, j, h, y, hy => by
  unfold down at h
  split at h
  ·rename_i y' e
   split at h
   ·exact down_lo c out x k (by omega) j h y hy
   ·rename_i hc
    obtain rfl : k = j := by omega
    rw [hy] at e; injection e with e; subst e; omega
  ·rename_i e
   rw [List.getElem?_eq_getElem (by omega)] at e; cases e
def ins {α : Type} (c : α → α → Int) (out : List α) (x : α) : List α := out.take (down c out x out.length) ++ (x :: out.drop (down c out x out.length))
theorem ins_perm {α : Type} (c : α → α → Int) (out : List α) (x : α) : (ins c out x).Perm (x :: out) := by
 unfold ins
 have := @List.perm_middle _ x (out.take (down c out x out.length)) (out.drop (down c out x out.length))
 rwa [List.take_append_drop] at this
theorem ins_asc {α : Type} {c : α → α → Int} (T : Tot c) (out : List α) (x : α) (h : Asc c out) : Asc c (ins c out x) := by
 unfold ins Asc
 have hd := down_le c out x out.length
 have hh := down_hi c out x out.length
 have hl := down_lo c out x out.length (Nat.le_refl _)
 generalize down c out x out.length = k at hd hh hl
 have h' : Asc c (out.take k ++ out.drop k) := by rw [List.take_append_drop]; exact h
 obtain ⟨p1, p2, p3⟩ := List.pairwise_append.1 h'
 rw [List.pairwise_append]
 refine ⟨p1, List.pairwise_cons.2 ⟨?_, p2⟩, ?_⟩
 ·intro y hy
  obtain ⟨i, hi, rfl⟩ := List.mem_iff_getElem.1 hy
  rw [List.length_drop] at hi
  have := hh (k + i) (by omega) (by omega) out[k + i] (List.getElem?_eq_getElem (by omega))
  rw [List.getElem_drop]
  have f := T.flip x out[k + i]
  omega
 ·intro y hy z hz
  rcases List.mem_cons.1 hz with rfl | hz
  ·obtain ⟨i, hi, rfl⟩ := List.mem_iff_getElem.1 hy
   rw [List.length_take] at hi
   rw [List.getElem_take]
   obtain ⟨j, rfl⟩ : ∃ j, k = j + 1 := ⟨k - 1, by omega⟩
   have b := hl j rfl out[j] (List.getElem?_eq_getElem (by omega))
   by_cases q : i = j
   ·subst q; exact b
   ·exact T.trans _ _ _ (List.pairwise_iff_getElem.1 h i j (by omega) (by omega) (by omega)) b
  ·exact p3 y hy z hz
def isort {α : Type} (c : α → α → Int) (l : List α) : List α := l.foldl (ins c) []
theorem isort_fold {α : Type} {c : α → α → Int} (T : Tot c) : ∀ (l out : List α), Asc c out → Asc c (l.foldl (ins c) out) ∧ (l.foldl (ins c) out).Perm (l ++ out)
 | [], out, h => ⟨h, List.Perm.refl _⟩
 | x :: l, out, h => by
  obtain ⟨a, b⟩ := isort_fold T l (ins c out x) (ins_asc T out x h)
  refine ⟨a, b.trans ?_⟩
  refine (List.Perm.append_left l (ins_perm c out x)).trans ?_
  exact List.perm_middle
theorem isort_asc {α : Type} {c : α → α → Int} (T : Tot c) (l : List α) : Asc c (isort c l) := (isort_fold T l [] List.Pairwise.nil).1
theorem isort_perm {α : Type} {c : α → α → Int} (T : Tot c) (l : List α) : (isort c l).Perm l := by
 have := (isort_fold T l [] List.Pairwise.nil).2
 rwa [List.append_nil] at this
theorem isort_eq {α : Type} {c : α → α → Int} (T : Tot c) {l m : List α} (h : l.Perm m) : isort c l = isort c m :=
 asc_eq T ((isort_perm T l).trans (h.trans (isort_perm T m).symm)) (isort_asc T l) (isort_asc T m)
theorem isort_take {α : Type} (c : α → α → Int) (l : List α) (j : Nat) (h : j < l.length) : isort c (l.take (j + 1)) = ins c (isort c (l.take j)) l[j] := by
 unfold isort
 rw [List.take_succ_eq_append_getElem h, List.foldl_append]
 rfl
end
section
def cmpI (a b : Int) : Int := if a < b then -1 else if b < a then 1 else 0
theorem cmpI_tot : Tot cmpI := by
 refine ⟨?_, ?_, ?_⟩
 ·intro a b h; unfold cmpI at h; split at h; · omega
  split at h <;> omega
 ·intro a b; unfold cmpI
  by_cases h1 : a < b
  ·rw [if_pos h1, if_neg (by omega), if_pos h1]
  ·by_cases h2 : b < a
   ·rw [if_neg h1, if_pos h2, if_pos h2]; rfl
   ·rw [if_neg h1, if_neg h2, if_neg h2, if_neg h1]; omega
 ·intro a b d; unfold cmpI
  by_cases h1 : a < b <;> by_cases h2 : b < a <;> by_cases h3 : b < d <;> by_cases h4 : d < b <;> by_cases h5 : a < d <;> by_cases h6 : d < a <;> simp only [h1, h2, h3, h4, h5, h6, if_true, if_false] <;> omega
def lex {α : Type} (c d : α → α → Int) (a b : α) : Int := if c a b ≠ 0 then c a b else d a b
structure Pre {α : Type} (c : α → α → Int) : Prop where
 flip : ∀ a b, c a b = - c b a
 trans : ∀ a b d, c a b ≤ 0 → c b d ≤ 0 → c a d ≤ 0
theorem Pre.of {α β : Type} {c : β → β → Int} (T : Tot c) (g : α → β) : Pre (fun a b => c (g a) (g b)) := ⟨fun _ _ => T.flip _ _, fun _ _ _ => T.trans _ _ _⟩
theorem Pre.two {α : Type} {c d : α → α → Int} (P : Pre c) (Q : Pre d) : Pre (lex c d) := by
 refine ⟨?_, ?_⟩
 ·intro a b
  unfold lex
  have f := P.flip a b
  by_cases h : c a b = 0
  ·have h' : c b a = 0 := by omega
   simp only [h, h', ne_eq, not_true, if_false]
   exact Q.flip a b
  ·have h' : ¬ (c b a = 0) := by omega
   simp only [h, h', ne_eq, not_false_eq_true, if_true]
   omega
 ·intro a b x h1 h2
  unfold lex at h1 h2 ⊢
  have f := P.flip a b
  have g := P.flip b x
  have e := P.flip a x
  by_cases p : c a b = 0
  ·rw [if_neg (by simpa using p)] at h1
   by_cases q : c b x = 0
   ·rw [if_neg (by simpa using q)] at h2
    have r : c a x = 0 := by
     have r1 := P.trans a b x (by omega) (by omega)
     have r2 := P.trans x b a (by omega) (by omega)
     omega
    rw [if_neg (by simpa using r)]
    exact Q.trans a b x h1 h2
   ·rw [if_pos q] at h2
    have r1 := P.trans a b x (by omega) h2
    by_cases r : c a x = 0
    ·have r2 := P.trans x a b (by omega) (by omega)
     omega
    ·rw [if_pos r]; exact r1
  ·rw [if_pos p] at h1
   have hbx : c b x ≤ 0 := by
    by_cases q : c b x = 0
    ·omega
    ·rw [if_pos q] at h2; exact h2
   have r1 := P.trans a b x h1 hbx
   by_cases r : c a x = 0
   ·have r2 := P.trans b x a hbx (by omega)
    omega
   ·rw [if_pos r]; exact r1
theorem lex_zero {α : Type} {c d : α → α → Int} {a b : α} (h : lex c d a b = 0) : c a b = 0 ∧ d a b = 0 := by
 unfold lex at h
 by_cases p : c a b = 0
 ·rw [if_neg (by simpa using p)] at h; exact ⟨p, h⟩
 ·rw [if_pos p] at h; exact absurd h p
def cmpRow : Row → Row → Int := lex (fun a b => cmpI a.f0 b.f0) (lex (fun a b => cmpI a.f1 b.f1) (fun a b => cmpI a.f2 b.f2))
theorem cmpRow_pre : Pre cmpRow := Pre.two (Pre.of cmpI_tot _) (Pre.two (Pre.of cmpI_tot _) (Pre.of cmpI_tot _))
theorem cmpRow_tot : Tot cmpRow := ⟨fun a b h => by
 obtain ⟨h0, h⟩ := lex_zero h
 obtain ⟨h1, h2⟩ := lex_zero h
 cases a; cases b
 simp only at h0 h1 h2
 rw [cmpI_tot.anti _ _ h0, cmpI_tot.anti _ _ h1, cmpI_tot.anti _ _ h2], cmpRow_pre.flip, cmpRow_pre.trans⟩
def cmpB (a b : Bool) : Int := if a = b then 0 else if b = true then -1 else 1
theorem cmpB_tot : Tot cmpB := ⟨fun a b => by cases a <;> cases b <;> decide, fun a b => by cases a <;> cases b <;> decide, fun a b d => by cases a <;> cases b <;> cases d <;> decide⟩
end
section
def mch {α : Type} (key : α → Int) (l : α) (c : List α) : List α := c.filter fun r => decide (key r = key l)
def hit {α : Type} (key : α → Int) (l : α) (c : List α) : Bool := decide (0 < (mch key l c).length)
def exp1 {α β : Type} (key : α → Int) (one : α → β) (two : α → α → β) (kind : Int) (l : α) (m : Bool) (c : List α) : List β :=
 if kind = 1 then (mch key l c).map (two l)
 else if kind = 2 then (if !m && hit key l c then [one l] else [])
 else if kind = 3 then (if !m && !hit key l c then [one l] else [])
 else (mch key l c).map (two l) ++ (if !m && !hit key l c then [one l] else [])
def out1 {α β : Type} (key : α → Int) (one : α → β) (two : α → α → β) (kind : Int) (l : α) (m : Bool) (c : List α) : List β :=
 if hit key l c then (if kind = 2 then (if m then [] else [one l]) else if kind = 3 then [] else (mch key l c).map (two l)) else []
def expd {α β : Type} (key : α → Int) (one : α → β) (two : α → α → β) (kind : Int) (ls : List (α × Bool)) (c : List α) : List β := ls.flatMap fun x => exp1 key one two kind x.1 x.2 c
def outs {α β : Type} (key : α → Int) (one : α → β) (two : α → α → β) (kind : Int) (ls : List (α × Bool)) (c : List α) : List β := ls.flatMap fun x => out1 key one two kind x.1 x.2 c
def marked {α : Type} (key : α → Int) (ls : List (α × Bool)) (c : List α) : List (α × Bool) := ls.map fun x => (x.1, x.2 || hit key x.1 c)
theorem mch_append {α : Type} (key : α → Int) (l : α) (c d : List α) : mch key l (c ++ d) = mch key l c ++ mch key l d := by unfold mch; rw [List.filter_append]
theorem hit_append {α : Type} (key : α → Int) (l : α) (c d : List α) : hit key l (c ++ d) = (hit key l c || hit key l d) := by
 unfold hit
 rw [mch_append, List.length_append, ← Bool.decide_or, decide_eq_decide]
 omega
theorem mch_nohit {α : Type} (key : α → Int) {l : α} {c : List α} (h : hit key l c = false) : mch key l c = [] := by
 unfold hit at h
 have := of_decide_eq_false h
 exact List.length_eq_zero_iff.1 (by omega)
theorem exp1_step {α β : Type} (key : α → Int) (one : α → β) (two : α → α → β) (kind : Int) (h1 : 1 ≤ kind) (h4 : kind ≤ 4) (l : α) (m : Bool) (c d : List α) :
  out1 key one two kind l m c ++ exp1 key one two kind l (m || hit key l c) d = exp1 key one two kind l m (c ++ d) := by
 have hk : kind = 1 ∨ kind = 2 ∨ kind = 3 ∨ kind = 4 := by omega
 unfold out1 exp1
 rw [mch_append, hit_append]
 cases e : hit key l c
 ·have e' := mch_nohit key e
  rcases hk with rfl | rfl | rfl | rfl <;> simp [e']
 ·rcases hk with rfl | rfl | rfl | rfl <;> cases m <;> simp
theorem flat_two {γ δ : Type} (f g : γ → List δ) : ∀ l : List γ, (l.flatMap f ++ l.flatMap g).Perm (l.flatMap fun x => f x ++ g x)
 | [] => List.Perm.refl _
 | x :: l => by
  simp only [List.flatMap_cons, List.append_assoc]
  refine List.Perm.append_left _ ?_
  refine List.Perm.trans ?_ (List.Perm.append_left (g x) (flat_two f g l))
  rw [← List.append_assoc, ← List.append_assoc]
  exact List.Perm.append_right _ List.perm_append_comm
theorem expd_step {α β : Type} (key : α → Int) (one : α → β) (two : α → α → β) (kind : Int) (h1 : 1 ≤ kind) (h4 : kind ≤ 4) (ls : List (α × Bool)) (c d : List α) :
  (outs key one two kind ls c ++ expd key one two kind (marked key ls c) d).Perm (expd key one two kind ls (c ++ d)) := by
 unfold outs expd marked
 rw [List.flatMap_map]
 refine (flat_two _ _ ls).trans ?_
 simp only [exp1_step key one two kind h1 h4]
 exact List.Perm.refl _
end
open Plain Br
section
abbrev Pair := S128
theorem rd_pair (xs : List Pair) (j : Nat) (h : j < xs.length) : rd_T128 xs (j : Int) = xs[j] := by
 unfold rd_T128
 rw [Int.toNat_natCast, List.getD_eq_getElem?_getD, List.getElem?_eq_getElem h]
 rfl
def cmpPair : Pair → Pair → Int := lex (fun a b => cmpRow a.f0 b.f0) (lex (fun a b => cmpB a.f2 b.f2) (fun a b => cmpRow a.f1 b.f1))
theorem cmpPair_pre : Pre cmpPair := Pre.two (Pre.of cmpRow_tot _) (Pre.two (Pre.of cmpB_tot _) (Pre.of cmpRow_tot _))
theorem cmpPair_tot : Tot cmpPair := ⟨fun a b h => by
 obtain ⟨h0, h⟩ := lex_zero h
 obtain ⟨h2, h1⟩ := lex_zero h
 cases a; cases b
 simp only at h0 h1 h2
 rw [cmpRow_tot.anti _ _ h0, cmpRow_tot.anti _ _ h1, cmpB_tot.anti _ _ h2], cmpPair_pre.flip, cmpPair_pre.trans⟩
theorem cmpI_lt {a b : Int} (h : a < b) : cmpI a b = -1 := by unfold cmpI; rw [if_pos h]
theorem cmpI_gt {a b : Int} (h : b < a) : cmpI a b = 1 := by unfold cmpI; rw [if_neg (by omega), if_pos h]
theorem cmpI_eq {a b : Int} (h1 : ¬ a < b) (h2 : ¬ b < a) : cmpI a b = 0 := by unfold cmpI; rw [if_neg h1, if_neg h2]
theorem spec_CompareRows_l0 (x y : List Int) (hx : x.length = 3) (hy : y.length = 3) (c : Int) (j : Nat) (hj : j < 3)
  (h : Ev (fun k => spec_CompareRows.l0 k x y ((j + 1 : Nat) : Int)) c) :
  Ev (fun k => spec_CompareRows.l0 k x y (j : Int)) (if cmpI (rd x (j : Int)) (rd y (j : Int)) ≠ 0 then cmpI (rd x (j : Int)) (rd y (j : Int)) else c) := by
 refine Ev.succ ?_
 have c1 : (j : Int) < 3 := by omega
 have c2 : (0 : Int) ≤ (j : Int) := by omega
 have c3 : (j : Int) < (x.length : Int) := by omega
 have c4 : (j : Int) < (y.length : Int) := by omega
 simp only [spec_CompareRows.l0, c1, c2, c3, c4, if_true, succ64 j (by omega)]
 by_cases h1 : rd x (j : Int) < rd y (j : Int)
 ·simp only [h1, if_true, cmpI_lt h1]; exact Ev.val (by rw [if_pos (by decide)])
 ·by_cases h2 : rd x (j : Int) > rd y (j : Int)
  ·simp only [h1, h2, if_true, if_false, cmpI_gt h2]; exact Ev.val (by rw [if_pos (by decide)])
  ·simp only [h1, h2, if_false, cmpI_eq h1 h2, ne_eq, not_true]; exact h
theorem spec_CompareRows_ev (a b : Row) : Ev (fun k => spec_CompareRows.f k a.f0 a.f1 a.f2 b.f0 b.f1 b.f2) (cmpRow a b) := by
 unfold spec_CompareRows.f
 have z : Ev (fun k => spec_CompareRows.l0 k [a.f0, a.f1, a.f2] [b.f0, b.f1, b.f2] ((3 : Nat) : Int)) 0 := by
  refine Ev.succ ?_
  simp only [spec_CompareRows.l0, show ¬ (((3 : Nat) : Int) < 3) from by omega, if_false]
  exact Ev.val rfl
 have h2 := spec_CompareRows_l0 [a.f0, a.f1, a.f2] [b.f0, b.f1, b.f2] rfl rfl _ 2 (by omega) z
 have h1 := spec_CompareRows_l0 [a.f0, a.f1, a.f2] [b.f0, b.f1, b.f2] rfl rfl _ 1 (by omega) h2
 have h0 := spec_CompareRows_l0 [a.f0, a.f1, a.f2] [b.f0, b.f1, b.f2] rfl rfl _ 0 (by omega) h1
 have e : ∀ x : Int, (if x ≠ 0 then x else 0) = x := by intro x; by_cases h : x = 0 <;> simp [h]
 have r2 : ∀ p q r : Int, rd [p, q, r] ((2 : Nat) : Int) = r := fun _ _ _ => rfl
 have r1 : ∀ p q r : Int, rd [p, q, r] ((1 : Nat) : Int) = q := fun _ _ _ => rfl
 have r0 : ∀ p q r : Int, rd [p, q, r] ((0 : Nat) : Int) = p := fun _ _ _ => rfl
 rw [r2, r2, e] at h0
 rw [r1, r1, r0, r0] at h0
 exact h0
theorem spec_ComparePairs_ev (a b : Pair) : Ev (fun k => spec_ComparePairs.f k a.f0.f0 a.f0.f1 a.f0.f2 a.f1.f0 a.f1.f1 a.f1.f2 a.f2 b.f0.f0 b.f0.f1 b.f0.f2 b.f1.f0 b.f1.f1 b.f1.f2 b.f2) (cmpPair a b) := by
 unfold spec_ComparePairs.f
 refine Ev.then (spec_CompareRows_ev a.f0 b.f0) ?_
 unfold cmpPair lex
 by_cases h : cmpRow a.f0 b.f0 = 0
 ·simp only [h, if_true, ne_eq, not_true, if_false]
  cases ha : a.f2 <;> cases hb : b.f2
  ·simp only [bne_self_eq_false, Bool.false_eq_true, if_false, cmpB, if_true, not_true]
   exact Ev.one (spec_CompareRows_ev a.f1 b.f1)
  ·simp only [show (false != true) = true from rfl, if_true, show cmpB false true = -1 from rfl]
   exact Ev.val rfl
  ·simp only [show (true != false) = true from rfl, if_true, if_false, Bool.false_eq_true, show cmpB true false = 1 from rfl]
   exact Ev.val rfl
  ·simp only [bne_self_eq_false, Bool.false_eq_true, if_false, cmpB, if_true, not_true]
   exact Ev.one (spec_CompareRows_ev a.f1 b.f1)
 ·simp only [h, if_false, ne_eq, not_false_eq_true, if_true]
  exact Ev.val rfl
theorem pred64 (j : Nat) (hj : j < 9223372036854775807) : wrap64 (((j + 1 : Nat) : Int) - 1) = (j : Int) := by unfold wrap64; omega
theorem spec_l7Sorted_l1 (l out : List Pair) (j : Nat) (hj : j < l.length) (hl : l.length ≤ 1000000) (ho : out.length ≤ 1000000) (r : List Pair)
  (h : Ev (fun k => spec_l7Sorted.l0 k l (ins cmpPair out l[j]) ((j + 1 : Nat) : Int)) r) : ∀ (n : Nat), n ≤ out.length → down cmpPair out l[j] n = down cmpPair out l[j] out.length →
  Ev (fun k => spec_l7Sorted.l1 k l out (j : Int) (n : Int)) r := by
 have c2 : (0 : Int) ≤ (j : Int) := by omega
 have c3 : (j : Int) < (l.length : Int) := by omega
 have fin : ∀ n : Nat, n ≤ out.length → down cmpPair out l[j] out.length = n →
   ([] : List Pair).length + (out.take n).length < 2513169434916 ∧ ([l[j]] : List Pair).length + (out.drop n).length < 2513169434916 ∧ (out.take n).length + ([l[j]] ++ out.drop n).length < 2513169434916 ∧ out.take n ++ ([l[j]] ++ out.drop n) = ins cmpPair out l[j] := by
  intro n hn e
  refine ⟨by rw [List.length_take, List.length_nil]; omega, by rw [List.length_drop, List.length_singleton]; omega, by rw [List.length_append, List.length_take, List.length_drop, List.length_singleton]; omega, ?_⟩
  unfold ins
  rw [e]
  rfl
 intro n
 induction n with
 | zero =>
  intro hn e
  obtain ⟨f1, f2, f3, f4⟩ := fin 0 hn (by rw [← e]; rfl)
  refine Ev.succ ?_
  have c5 : (0 : Int) ≤ (out.length : Int) := by omega
  simp only [spec_l7Sorted.l1, show ¬ (((0 : Nat) : Int) > 0) from by omega, if_false, c2, c3, if_true, rd_pair l j hj, Option.bind_some, show (0 : Int) ≤ ((0 : Nat) : Int) from by omega, show ((0 : Nat) : Int) ≤ (out.length : Int) from by omega, Int.toNat_natCast, f1, f2, f3, f4, List.nil_append, succ64 j (by omega)]
  exact h
 | succ n ih =>
  intro hn e
  have hn' : n < out.length := by omega
  refine Ev.succ ?_
  have p1 := pred64 n (by omega)
  have c5 : (0 : Int) ≤ (n : Int) := by omega
  have c6 : (n : Int) < (out.length : Int) := by omega
  simp only [spec_l7Sorted.l1, show ((n + 1 : Nat) : Int) > 0 from by omega, p1, c2, c3, c5, c6, if_true, rd_pair l j hj, rd_pair out n hn']
  refine Ev.then (spec_ComparePairs_ev out[n] l[j]) ?_
  have e : (if 0 < cmpPair out[n] l[j] then down cmpPair out l[j] n else n + 1) = down cmpPair out l[j] out.length := by
   rw [← e]
   conv => rhs; unfold down
   rw [List.getElem?_eq_getElem hn']
  by_cases q : 0 < cmpPair out[n] l[j]
  ·rw [if_pos q] at e
   simp only [show cmpPair out[n] l[j] > 0 from q, if_true]
   exact ih (by omega) e
  ·rw [if_neg q] at e
   obtain ⟨f1, f2, f3, f4⟩ := fin (n + 1) hn e.symm
   simp only [show ¬ (cmpPair out[n] l[j] > 0) from q, if_false, Option.bind_some, show (0 : Int) ≤ ((n + 1 : Nat) : Int) from by omega, show ((n + 1 : Nat) : Int) ≤ (out.length : Int) from by omega, if_true, Int.toNat_natCast, f1, f2, f3, f4, List.nil_append, succ64 j (by omega)]
   exact h
theorem isort_len {α : Type} {c : α → α → Int} (T : Tot c) (l : List α) : (isort c l).length = l.length := (isort_perm T l).length_eq
theorem spec_l7Sorted_l0 (l : List Pair) (hl : l.length ≤ 1000000) : ∀ (d j : Nat), l.length - j = d → j ≤ l.length →
  Ev (fun k => spec_l7Sorted.l0 k l (isort cmpPair (l.take j)) (j : Int)) (isort cmpPair l)
 | 0, j, hd, hj => by
  obtain rfl : j = l.length := by omega
  refine Ev.succ ?_
  simp only [spec_l7Sorted.l0, show ¬ ((l.length : Int) < (l.length : Int)) from by omega, if_false, List.take_length]
  exact Ev.val rfl
 | d + 1, j, hd, hj => by
  have h : j < l.length := by omega
  have c1 : (j : Int) < (l.length : Int) := by omega
  have ih := spec_l7Sorted_l0 l hl d (j + 1) (by omega) (by omega)
  rw [isort_take cmpPair l j h] at ih
  have hlen : (isort cmpPair (l.take j)).length ≤ 1000000 := by rw [isort_len cmpPair_tot, List.length_take]; omega
  refine Ev.succ ?_
  simp only [spec_l7Sorted.l0, c1, if_true]
  exact spec_l7Sorted_l1 l _ j h hl hlen _ ih _ (Nat.le_refl _) rfl
theorem spec_l7Sorted_ev (l : List Pair) (hl : l.length ≤ 1000000) : Ev (fun k => spec_l7Sorted.f k l) (isort cmpPair l) := by
 have := spec_l7Sorted_l0 l hl l.length 0 (by omega) (by omega)
 simpa [spec_l7Sorted.f, isort] using this
theorem spec_EqualPairBags_l0 (l : List Pair) (hl : l.length ≤ 1000000) : ∀ (d j : Nat), l.length - j = d → j ≤ l.length →
  Ev (fun k => spec_EqualPairBags.l0 k l l (j : Int)) true
 | 0, j, hd, hj => by
  refine Ev.succ ?_
  simp only [spec_EqualPairBags.l0, show ¬ ((j : Int) < (l.length : Int)) from by omega, if_false]
  exact Ev.val rfl
 | d + 1, j, hd, hj => by
  have c1 : (j : Int) < (l.length : Int) := by omega
  have c2 : (0 : Int) ≤ (j : Int) := by omega
  refine Ev.succ ?_
  simp only [spec_EqualPairBags.l0, c1, c2, if_true, beq_self_eq_true, Bool.not_true, Bool.or_self, Bool.false_eq_true, if_false, succ64 j (by omega)]
  exact spec_EqualPairBags_l0 l hl d (j + 1) (by omega) (by omega)
theorem spec_EqualPairBags_ev (l m : List Pair) (h : l.Perm m) (hl : l.length ≤ 1000000) : Ev (fun k => spec_EqualPairBags.f k l m) true := by
 unfold spec_EqualPairBags.f
 refine Ev.then (spec_l7Sorted_ev l hl) ?_
 refine Ev.then (spec_l7Sorted_ev m (by rw [← h.length_eq]; exact hl)) ?_
 rw [isort_eq cmpPair_tot h]
 simp only [if_true]
 exact spec_EqualPairBags_l0 _ (by rw [isort_len cmpPair_tot, ← h.length_eq]; exact hl) _ 0 rfl (by omega)
end
open Plain Br
section
def kf (r : Row) : Int := r.f0
def pOne (l : Row) : Pair := ⟨l, ⟨0, 0, 0⟩, false⟩
def pTwo (l r : Row) : Pair := ⟨l, r, true⟩
abbrev Exp1 (kind : Int) (l : Row) (m : Bool) (c : List Row) : List Pair := exp1 kf pOne pTwo kind l m c
abbrev Out1 (kind : Int) (l : Row) (m : Bool) (c : List Row) : List Pair := out1 kf pOne pTwo kind l m c
abbrev Expd (kind : Int) (ls : List (Row × Bool)) (c : List Row) : List Pair := expd kf pOne pTwo kind ls c
abbrev Outs (kind : Int) (ls : List (Row × Bool)) (c : List Row) : List Pair := outs kf pOne pTwo kind ls c
def mks (c : List Row) (ls : List Row) (ms : List Bool) : List Bool := List.zipWith (fun l m => m || hit kf l c) ls ms
theorem mks_len (c ls ms) (h : ms.length = ls.length) : (mks c ls ms).length = ls.length := by unfold mks; rw [List.length_zipWith, h]; omega
theorem marked_zip (c : List Row) : ∀ (ls : List Row) (ms : List Bool), marked kf (ls.zip ms) c = ls.zip (mks c ls ms)
 | [], ms => by simp [marked, mks]
 | l :: ls, [] => by simp [marked, mks]
 | l :: ls, m :: ms => by
  have := marked_zip c ls ms
  simp only [marked, mks, List.zip_cons_cons, List.map_cons, List.zipWith_cons_cons] at this ⊢
  rw [this]
theorem mch_len (l : Row) (c : List Row) : (mch kf l c).length ≤ c.length := List.length_filter_le _ _
theorem mch_cons (l r : Row) (c : List Row) : mch kf l (r :: c) = if r.f0 = l.f0 then r :: mch kf l c else mch kf l c := by
 unfold mch kf
 rw [List.filter_cons]
 simp only [decide_eq_true_eq]
theorem exp1_len (kind : Int) (l : Row) (m : Bool) (c : List Row) : (Exp1 kind l m c).length ≤ c.length + 1 := by
 have := mch_len l c
 unfold Exp1 exp1
 split
 ·rw [List.length_map]; omega
 ·split
  ·split <;> simp
  ·split
   ·split <;> simp
   ·rw [List.length_append, List.length_map]
    split <;> simp only [List.length_singleton, List.length_nil] <;> omega
theorem out1_len (kind : Int) (l : Row) (m : Bool) (c : List Row) : (Out1 kind l m c).length ≤ c.length + 1 := by
 have := mch_len l c
 unfold Out1 out1
 split
 ·split
  ·split <;> simp
  ·split
   ·simp
   ·rw [List.length_map]; omega
 ·simp
theorem expd_len (kind : Int) (c : List Row) : ∀ ls : List (Row × Bool), (Expd kind ls c).length ≤ ls.length * (c.length + 1)
 | [] => by simp [Expd, expd]
 | x :: ls => by
  have h1 := expd_len kind c ls
  have h2 := exp1_len kind x.1 x.2 c
  have e : Expd kind (x :: ls) c = Exp1 kind x.1 x.2 c ++ Expd kind ls c := rfl
  rw [e, List.length_append, List.length_cons, Nat.succ_mul]
  omega
theorem outs_len (kind : Int) (c : List Row) : ∀ ls : List (Row × Bool), (Outs kind ls c).length ≤ ls.length * (c.length + 1)
 | [] => by simp [Outs, outs]
 | x :: ls => by
  have h1 := outs_len kind c ls
  have h2 := out1_len kind x.1 x.2 c
  have e : Outs kind (x :: ls) c = Out1 kind x.1 x.2 c ++ Outs kind ls c := rfl
  rw [e, List.length_append, List.length_cons, Nat.succ_mul]
  omega
theorem rd_at {L a : List Row} {x : Row} {b : List Row} (h : a ++ x :: b = L) : rd_T60 L (a.length : Int) = x ∧ (a.length : Int) < (L.length : Int) ∧ (0 : Int) ≤ (a.length : Int) := by
 subst h
 refine ⟨?_, by rw [List.length_append, List.length_cons]; omega, by omega⟩
 rw [rd_row _ _ (by rw [List.length_append, List.length_cons]; omega)]
 simp
theorem rdb_at {M a : List Bool} {x : Bool} {b : List Bool} {n : Nat} (h : a ++ x :: b = M) (hn : a.length = n) : rdOf false M (n : Int) = x ∧ (n : Int) < (M.length : Int) ∧ M.set n true = a ++ true :: b := by
 subst h
 subst hn
 refine ⟨?_, by rw [List.length_append, List.length_cons]; omega, ?_⟩
 ·rw [rdOf_bool _ _ (by rw [List.length_append, List.length_cons]; omega)]
  simp
 ·simp
theorem snoc_len {α : Type} (a : List α) (x : α) : (a ++ [x]).length = a.length + 1 := by simp
theorem snoc_eq {α : Type} {a : List α} {x : α} {b L : List α} (h : a ++ x :: b = L) : (a ++ [x]) ++ b = L := by rw [← h]; simp
theorem endl {L a : List Row} (h : a ++ [] = L) : ¬ ((a.length : Int) < (L.length : Int)) := by rw [← h, List.append_nil]; omega

theorem impl_CountMatches_l0 (l : Row) (L : List Row) : ∀ (cb ca : List Row) (n : Nat), ca ++ cb = L → n + cb.length * 2 + ca.length ≤ 1000000 →
  Ev (fun k => impl_CountMatches.l0 k (n : Int) L (L.length : Int) (ca.length : Int) l.f0 l.f1 l.f2) ((n + (mch kf l cb).length : Nat) : Int)
 | [], ca, n, h, _ => by
  refine Ev.succ ?_
  simp only [impl_CountMatches.l0, endl h, if_false]
  exact Ev.val rfl
 | r :: cb, ca, n, h, hb => by
  obtain ⟨e, c1, c2⟩ := rd_at h
  rw [List.length_cons] at hb
  have ih := fun n' hn' => impl_CountMatches_l0 l L cb (ca ++ [r]) n' (snoc_eq h) hn'
  simp only [snoc_len] at ih
  refine Ev.succ ?_
  simp only [impl_CountMatches.l0, c1, c2, if_true, e, succ64 ca.length (by omega), mch_cons]
  by_cases q : r.f0 = l.f0
  ·simp only [q, if_true, succ64 n (by omega)]
   have := ih (n + 1) (by omega)
   rw [List.length_cons, show n + ((mch kf l cb).length + 1) = n + 1 + (mch kf l cb).length by omega]
   exact this
  ·simp only [if_neg q]
   exact ih n (by omega)
theorem impl_CountMatches_ev (l : Row) (L : List Row) (hL : L.length ≤ 1000) : Ev (fun k => impl_CountMatches.f k l.f0 l.f1 l.f2 L) ((mch kf l L).length : Int) := by
 have := impl_CountMatches_l0 l L L [] 0 rfl (by simp; omega)
 simpa [impl_CountMatches.f] using this
theorem spec_CountMatches_l0 (l : Row) (L : List Row) : ∀ (cb ca : List Row) (n : Nat), ca ++ cb = L → n + cb.length * 2 + ca.length ≤ 1000000 →
  Ev (fun k => spec_CountMatches.l0 k L (n : Int) (ca.length : Int) l.f0 l.f1 l.f2) ((n + (mch kf l cb).length : Nat) : Int)
 | [], ca, n, h, _ => by
  refine Ev.succ ?_
  simp only [spec_CountMatches.l0, endl h, if_false]
  exact Ev.val rfl
 | r :: cb, ca, n, h, hb => by
  obtain ⟨e, c1, c2⟩ := rd_at h
  rw [List.length_cons] at hb
  have ih := fun n' hn' => spec_CountMatches_l0 l L cb (ca ++ [r]) n' (snoc_eq h) hn'
  simp only [snoc_len] at ih
  refine Ev.succ ?_
  simp only [spec_CountMatches.l0, c1, c2, if_true, e, succ64 ca.length (by omega), mch_cons]
  by_cases q : r.f0 = l.f0
  ·simp only [q, if_true, succ64 n (by omega)]
   have := ih (n + 1) (by omega)
   rw [List.length_cons, show n + ((mch kf l cb).length + 1) = n + 1 + (mch kf l cb).length by omega]
   exact this
  ·simp only [if_neg q]
   exact ih n (by omega)
theorem spec_CountMatches_ev (l : Row) (L : List Row) (hL : L.length ≤ 1000) : Ev (fun k => spec_CountMatches.f k l.f0 l.f1 l.f2 L) ((mch kf l L).length : Int) := by
 have := spec_CountMatches_l0 l L L [] 0 rfl (by simp; omega)
 simpa [spec_CountMatches.f] using this
theorem spec_l7One_l0 (kind : Int) (l : Row) (n : Nat) (L : List Row) : ∀ (cb ca : List Row) (out : List Pair), ca ++ cb = L → out.length + cb.length * 2 + ca.length ≤ 1000000 →
  Ev (fun k => spec_l7One.l0 k kind L out (n : Int) (ca.length : Int) l.f0 l.f1 l.f2) (out ++ ((mch kf l cb).map (pTwo l) ++ (if n = 0 ∧ kind = 4 then [pOne l] else [])))
 | [], ca, out, h, hb => by
  refine Ev.succ ?_
  have c3 : out.length < 2513169434916 := by omega
  simp only [spec_l7One.l0, endl h, if_false, mch, List.filter_nil, List.map_nil, List.nil_append]
  by_cases q : n = 0
  ·by_cases p : kind = 4
   ·simp only [q, p, Int.natCast_zero, if_true, c3, and_self]
    exact Ev.val rfl
   ·simp only [q, p, Int.natCast_zero, if_true, if_false, and_false, List.append_nil]
    exact Ev.val rfl
  ·have c : ¬ ((n : Int) = 0) := by omega
   simp only [q, c, if_false, false_and, List.append_nil]
   exact Ev.val rfl
 | r :: cb, ca, out, h, hb => by
  obtain ⟨e, c1, c2⟩ := rd_at h
  rw [List.length_cons] at hb
  have ih := fun o hn' => spec_l7One_l0 kind l n L cb (ca ++ [r]) o (snoc_eq h) hn'
  simp only [snoc_len] at ih
  have c3 : out.length < 2513169434916 := by omega
  refine Ev.succ ?_
  simp only [spec_l7One.l0, c1, c2, if_true, e, succ64 ca.length (by omega), mch_cons]
  by_cases q : r.f0 = l.f0
  ·simp only [if_pos q, if_true, c3]
   have := ih (out ++ [pTwo l r]) (by rw [snoc_len]; omega)
   rw [List.map_cons]
   rw [List.append_assoc, List.singleton_append] at this
   exact this
  ·simp only [if_neg q]
   exact ih out (by omega)
theorem spec_l7One_ev (kind : Int) (h1 : 1 ≤ kind) (h4 : kind ≤ 4) (l : Row) (L : List Row) (hL : L.length ≤ 1000) : Ev (fun k => spec_l7One.f k kind l.f0 l.f1 l.f2 L) (Exp1 kind l false L) := by
 have hm := mch_len l L
 unfold spec_l7One.f
 simp only [Option.bind_some]
 refine Ev.then (spec_CountMatches_ev l L hL) ?_
 have cl : ([] : List Pair).length < 2513169434916 := by simp
 by_cases k2 : kind = 2
 ·subst k2
  simp only [if_true, Exp1, exp1, hit]
  by_cases q : 0 < (mch kf l L).length
  ·have c : ((mch kf l L).length : Int) > 0 := by omega
   simp only [c, q, if_true, cl]
   exact Ev.val rfl
  ·have c : ¬ (((mch kf l L).length : Int) > 0) := by omega
   simp only [c, q, if_false, decide_false]
   exact Ev.val rfl
 ·by_cases k3 : kind = 3
  ·subst k3
   simp only [show ¬ ((3 : Int) = 2) from by decide, if_true, if_false, Exp1, exp1, hit]
   by_cases q : 0 < (mch kf l L).length
   ·have c : ¬ (((mch kf l L).length : Int) = 0) := by omega
    simp only [c, q, if_false, decide_true]
    exact Ev.val rfl
   ·have c : ((mch kf l L).length : Int) = 0 := by omega
    simp only [c, q, if_true, cl, decide_false]
    exact Ev.val rfl
  ·simp only [k2, k3, if_false]
   have := spec_l7One_l0 kind l (mch kf l L).length L L [] [] rfl (by simp; omega)
   rw [List.nil_append] at this
   have e : (mch kf l L).map (pTwo l) ++ (if (mch kf l L).length = 0 ∧ kind = 4 then [pOne l] else []) = Exp1 kind l false L := by
    unfold Exp1 exp1 hit
    by_cases k1 : kind = 1
    ·subst k1; simp
    ·have k4 : kind = 4 := by omega
     subst k4
     by_cases q : 0 < (mch kf l L).length
     ·have q' : ¬ ((mch kf l L).length = 0) := by omega
      simp [q, q']
     ·have q' : (mch kf l L).length = 0 := by omega
      simp [q']
   rw [e] at this
   exact this
theorem valid_kind {kind : Int} (h1 : 1 ≤ kind) (h4 : kind ≤ 4) : spec_IsValidJoinKind.f kind = some true := by
 unfold spec_IsValidJoinKind.f
 simp only [l1In_eq, Option.bind_some, decide_eq_true h1, decide_eq_true h4, Bool.and_self]
theorem spec_ReferenceJoin_l0 (kind : Int) (h1 : 1 ≤ kind) (h4 : kind ≤ 4) (L C : List Row) (hC : C.length ≤ 24) : ∀ (lb la : List Row) (out : List Pair), la ++ lb = L → out.length + lb.length * 60 + la.length ≤ 1000000 →
  Ev (fun k => spec_ReferenceJoin.l0 k kind L C out (la.length : Int)) (out ++ lb.flatMap fun l => Exp1 kind l false C)
 | [], la, out, h, hb => by
  refine Ev.succ ?_
  simp only [spec_ReferenceJoin.l0, endl h, if_false, List.flatMap_nil, List.append_nil]
  exact Ev.val rfl
 | r :: lb, la, out, h, hb => by
  obtain ⟨e, c1, c2⟩ := rd_at h
  rw [List.length_cons] at hb
  have hx := exp1_len kind r false C
  have ih := spec_ReferenceJoin_l0 kind h1 h4 L C hC lb (la ++ [r]) (out ++ Exp1 kind r false C) (snoc_eq h) (by rw [snoc_len, List.length_append]; omega)
  rw [snoc_len, List.append_assoc] at ih
  refine Ev.succ ?_
  simp only [spec_ReferenceJoin.l0, c1, c2, if_true, valid_kind h1 h4, Option.bind_some, e, succ64 la.length (by omega), List.flatMap_cons]
  refine Ev.then (spec_l7One_ev kind h1 h4 r C (by omega)) ?_
  have c3 : out.length + (Exp1 kind r false C).length < 2513169434916 := by omega
  simp only [c3, if_true]
  exact ih
def fresh0 (L : List Row) : List Bool := List.replicate L.length false
theorem expd_fresh (kind : Int) (C : List Row) : ∀ L : List Row, Expd kind (L.zip (fresh0 L)) C = L.flatMap fun l => Exp1 kind l false C
 | [] => rfl
 | l :: L => by
  have := expd_fresh kind C L
  unfold fresh0 at this ⊢
  rw [List.length_cons, List.replicate_succ, List.zip_cons_cons, List.flatMap_cons, ← this]
  rfl
theorem spec_ReferenceJoin_ev (kind : Int) (h1 : 1 ≤ kind) (h4 : kind ≤ 4) (L C : List Row) (hL : L.length ≤ 24) (hC : C.length ≤ 24) :
  Ev (fun k => spec_ReferenceJoin.f k kind L C) (Expd kind (L.zip (fresh0 L)) C) := by
 have := spec_ReferenceJoin_l0 kind h1 h4 L C hC L [] [] rfl (by simp; omega)
 rw [expd_fresh]
 simpa [spec_ReferenceJoin.f] using this

theorem impl_cloneTask_eq (k0 : Int) (L R : List Row) (m : List Bool) (v : Int) (hL : L.length ≤ 1000000) (hR : R.length ≤ 1000000) (hm : m.length ≤ 1000000) : impl_cloneTask.f k0 L R m v = some (k0, L, R, m, v) := by
 unfold impl_cloneTask.f
 have c : ([] : List Bool).length + m.length < 140737488355328 := by rw [List.length_nil]; omega
 simp only [impl_clone_eq L hL, impl_clone_eq R hR, Option.bind_some, c, if_true, List.nil_append]
theorem spec_l16Copy_eq (k0 : Int) (L R : List Row) (m : List Bool) (v : Int) (hL : L.length ≤ 1000000) (hR : R.length ≤ 1000000) (hm : m.length ≤ 1000000) : spec_l16Copy.f k0 L R m v = some (k0, L, R, m, v) := by
 unfold spec_l16Copy.f
 have c : ([] : List Bool).length + m.length < 140737488355328 := by rw [List.length_nil]; omega
 have c1 : ([] : List Row).length + L.length < 5864062014805 := by rw [List.length_nil]; omega
 have c2 : ([] : List Row).length + R.length < 5864062014805 := by rw [List.length_nil]; omega
 simp only [Option.bind_some, c, c1, c2, if_true, List.nil_append]
theorem hit_pos {l : Row} {C : List Row} (h : ¬ ((mch kf l C).length = 0)) : hit kf l C = true := by unfold hit; exact decide_eq_true (by omega)
theorem hit_zero {l : Row} {C : List Row} (h : (mch kf l C).length = 0) : hit kf l C = false := by unfold hit; exact decide_eq_false (by omega)
theorem outs_cons (kind : Int) (l : Row) (m : Bool) (ls : List Row) (ms : List Bool) (C : List Row) : Outs kind ((l :: ls).zip (m :: ms)) C = Out1 kind l m C ++ Outs kind (ls.zip ms) C := rfl
theorem mks_cons (l : Row) (m : Bool) (ls : List Row) (ms : List Bool) (C : List Row) : mks C (l :: ls) (m :: ms) = (m || hit kf l C) :: mks C ls ms := rfl
theorem impl_JoinChunk_l1 (l : Row) (C L R : List Row) (kind v : Int) (M : List Bool) (j n : Nat) (hj : j < M.length) (hM : M.length ≤ 1000000) (r : List Pair × Int × List Row × List Row × List Bool × Int) : ∀ (cb ca : List Row) (out : List Pair), ca ++ cb = C → out.length + cb.length * 2 + ca.length ≤ 1000000 →
  Ev (fun k => impl_JoinChunk.l0 k C (out ++ (mch kf l cb).map (pTwo l)) L (n : Int) ((j + 1 : Nat) : Int) kind L R (M.set j true) v) r →
  Ev (fun k => impl_JoinChunk.l1 k C out (j : Int) L (n : Int) (j : Int) C (C.length : Int) (ca.length : Int) kind L R M v l.f0 l.f1 l.f2) r
 | [], ca, out, h, hb, H => by
  refine Ev.succ ?_
  have c1 : (0 : Int) ≤ (j : Int) := by omega
  have c2 : (j : Int) < (M.length : Int) := by omega
  simp only [impl_JoinChunk.l1, endl h, if_false, c1, c2, if_true, succ64 j (by omega), Int.toNat_natCast]
  simpa [mch] using H
 | x :: cb, ca, out, h, hb, H => by
  obtain ⟨e, c1, c2⟩ := rd_at h
  rw [List.length_cons] at hb
  have ih := fun o hn' => impl_JoinChunk_l1 l C L R kind v M j n hj hM r cb (ca ++ [x]) o (snoc_eq h) hn'
  simp only [snoc_len] at ih
  have c3 : out.length < 2513169434916 := by omega
  rw [mch_cons] at H
  refine Ev.succ ?_
  simp only [impl_JoinChunk.l1, c1, c2, if_true, e, succ64 ca.length (by omega)]
  by_cases q : x.f0 = l.f0
  ·rw [if_pos q, List.map_cons] at H
   simp only [if_pos q, if_true, c3]
   have := ih (out ++ [pTwo l x]) (by rw [snoc_len]; omega) (by rw [List.append_assoc, List.singleton_append]; exact H)
   exact this
  ·rw [if_neg q] at H
   simp only [if_neg q]
   exact ih out (by omega) H
theorem impl_JoinChunk_l0 (C L R : List Row) (kind v : Int) (h1 : 1 ≤ kind) (h4 : kind ≤ 4) (hC : C.length ≤ 24) : ∀ (lb la : List Row) (b a : List Bool) (out : List Pair), la ++ lb = L → a.length = la.length → b.length = lb.length → out.length + lb.length * 60 + la.length ≤ 1000000 →
  Ev (fun k => impl_JoinChunk.l0 k C out L (L.length : Int) (la.length : Int) kind L R (a ++ b) v) (out ++ Outs kind (lb.zip b) C, kind, L, R, a ++ mks C lb b, v)
 | [], la, [], a, out, h, ha, hb, hl => by
  refine Ev.succ ?_
  simp only [impl_JoinChunk.l0, endl h, if_false]
  exact Ev.val (by simp [Outs, outs, mks])
 | l :: lb, la, m :: b, a, out, h, ha, hb, hl => by
  obtain ⟨e, c1, c2⟩ := rd_at h
  obtain ⟨f, c3, f2⟩ := @rdb_at (a ++ m :: b) a m b la.length rfl ha
  rw [List.length_cons, List.length_cons] at hb
  rw [List.length_cons] at hl
  have hm := mch_len l C
  have ih := fun a' o ha' hn' => impl_JoinChunk_l0 C L R kind v h1 h4 hC lb (la ++ [l]) b a' o (snoc_eq h) ha' (by omega) hn'
  simp only [snoc_len] at ih
  have iT := fun o ho => ih (a ++ [true]) o (by rw [snoc_len, ha]) ho
  rw [outs_cons, mks_cons]
  refine Ev.succ ?_
  simp only [impl_JoinChunk.l0, c1, c2, if_true, e]
  refine Ev.then (impl_CountMatches_ev l C (by omega)) ?_
  simp only [succ64 la.length (by omega), Int.toNat_natCast]
  by_cases q : (mch kf l C).length = 0
  ·have c : ((mch kf l C).length : Int) = 0 := by omega
   simp only [c, if_true]
   have := ih (a ++ [m]) out (by rw [snoc_len, ha]) (by omega)
   rw [List.append_assoc, List.append_assoc, List.singleton_append, List.singleton_append] at this
   unfold Out1 out1
   rw [hit_zero q, Bool.or_false]
   exact this
  ·have c : ¬ (((mch kf l C).length : Int) = 0) := by omega
   simp only [c, if_false]
   unfold Out1 out1
   rw [hit_pos q, Bool.or_true, if_pos rfl]
   by_cases k2 : kind = 2
   ·simp only [k2, if_true, c3, f]
    cases m
    ·have c5 : out.length < 2513169434916 := by omega
     simp only [Bool.false_eq_true, if_false, c5, if_true, f2]
     have := iT (out ++ [pOne l]) (by rw [snoc_len]; omega)
     rw [k2, List.append_assoc, List.append_assoc, List.append_assoc, List.singleton_append, List.singleton_append] at this
     exact this
    ·simp only [if_true, f2]
     have := iT out (by omega)
     rw [k2, List.append_assoc, List.append_assoc, List.singleton_append, List.singleton_append] at this
     exact this
   ·simp only [k2, if_false]
    by_cases k3 : kind = 3
    ·simp only [k3, show ¬ ((3 : Int) = 1) from by decide, if_false, if_true]
     refine Ev.succ ?_
     simp only [impl_JoinChunk.j1, show ((3 : Int) == 4) = false from rfl, Bool.false_eq_true, if_false, c2, if_true, c3, f2, succ64 la.length (by omega), Int.toNat_natCast]
     have := iT out (by omega)
     rw [k3, List.append_assoc, List.append_assoc, List.singleton_append, List.singleton_append] at this
     exact this
    ·have fin : Ev (fun k => impl_JoinChunk.l1 k C out (la.length : Int) L (L.length : Int) (la.length : Int) C (C.length : Int) 0 kind L R (a ++ m :: b) v l.f0 l.f1 l.f2) (out ++ ((mch kf l C).map (pTwo l) ++ Outs kind (lb.zip b) C), kind, L, R, a ++ true :: mks C lb b, v) := by
      have hM : (a ++ m :: b).length = la.length + lb.length + 1 := by rw [List.length_append, List.length_cons, ha, hb]; omega
      refine impl_JoinChunk_l1 l C L R kind v (a ++ m :: b) la.length L.length (by omega) (by omega) _ C [] out rfl (by rw [List.length_nil]; omega) ?_
      rw [f2]
      have := iT (out ++ (mch kf l C).map (pTwo l)) (by rw [List.length_append, List.length_map]; omega)
      rw [List.append_assoc, List.append_assoc, List.append_assoc, List.singleton_append, List.singleton_append] at this
      exact this
     simp only [k3, if_false]
     by_cases k1 : kind = 1
     ·simp only [k1, if_true]
      rw [k1] at fin
      refine Ev.succ ?_
      simp only [impl_JoinChunk.j1, beq_self_eq_true, if_true]
      exact fin
     ·have k4 : kind = 4 := by omega
      simp only [k4, show ¬ ((4 : Int) = 1) from by decide, if_false]
      rw [k4] at fin
      refine Ev.succ ?_
      simp only [impl_JoinChunk.j1, beq_self_eq_true, if_true]
      exact fin
structure TOk (kind : Int) (L R : List Row) (v : Int) : Prop where
 k1 : 1 ≤ kind
 k4 : kind ≤ 4
 left : vRows L = true
 right : vRows R = true
 lo : 0 ≤ v
 hi : v ≤ 4
theorem TOk.val {kind : Int} {L R : List Row} {v : Int} (h : TOk kind L R v) (m : List Bool) (hm : m.length = L.length) : vTask ⟨kind, L, R, m, v⟩ = true :=
 (vTask_iff _).2 ⟨⟨h.k1, h.k4⟩, h.left, h.right, hm, ⟨h.lo, h.hi⟩⟩
theorem TOk.lenL {kind : Int} {L R : List Row} {v : Int} (h : TOk kind L R v) : L.length ≤ 24 := ((vRows_iff _).1 h.left).1
theorem TOk.lenR {kind : Int} {L R : List Row} {v : Int} (h : TOk kind L R v) : R.length ≤ 24 := ((vRows_iff _).1 h.right).1
theorem impl_JoinChunk_ev {kind : Int} {L R : List Row} {v : Int} (h : TOk kind L R v) (m : List Bool) (hm : m.length = L.length) (C : List Row) (hC : C.length ≤ 24) :
  Ev (fun k => impl_JoinChunk.f k kind L R m v C) (Outs kind (L.zip m) C, kind, L, R, mks C L m, v) := by
 have hL := h.lenL
 have hR := h.lenR
 unfold impl_JoinChunk.f
 simp only [impl_cloneTask_eq kind L R m v (by omega) (by omega) (by omega), Option.bind_some]
 refine Ev.then (impl_IsValidTask_ev _ _ _ _ _) ?_
 simp only [h.val m hm, if_true]
 have := impl_JoinChunk_l0 C L R kind v h.k1 h.k4 hC L [] m [] [] rfl rfl hm (by simp; omega)
 simpa using this
theorem spec_JoinChunk_l0 {kind : Int} {L R : List Row} {v : Int} (hT : TOk kind L R v) (M0 : List Bool) (hM0 : M0.length = L.length) (C : List Row) (hC : C.length ≤ 24) : ∀ (lb la : List Row) (b a0 a : List Bool) (out : List Pair), la ++ lb = L → a0 ++ b = M0 → a0.length = la.length → a.length = la.length → b.length = lb.length → out.length + lb.length * 60 + la.length ≤ 1000000 →
  Ev (fun k => spec_JoinChunk.l0 k C out (la.length : Int) kind L R M0 v kind L R (a ++ b) v) (out ++ Outs kind (lb.zip b) C, kind, L, R, a ++ mks C lb b, v)
 | [], la, [], a0, a, out, h, h0, ha0, ha, hb, hl => by
  refine Ev.succ ?_
  simp only [spec_JoinChunk.l0, endl h, if_false]
  refine Ev.succ ?_
  simp only [spec_JoinChunk.j1, Bool.false_eq_true, if_false]
  exact Ev.val (by simp [Outs, outs, mks])
 | l :: lb, la, m :: b, a0, a, out, h, h0, ha0, ha, hb, hl => by
  obtain ⟨e, c1, c2⟩ := rd_at h
  obtain ⟨f0, c4, _⟩ := rdb_at h0 ha0
  obtain ⟨_, c3, f2⟩ := @rdb_at (a ++ m :: b) a m b la.length rfl ha
  rw [List.length_cons, List.length_cons] at hb
  rw [List.length_cons] at hl
  have hm := mch_len l C
  have hk1 := hT.k1
  have hk4 := hT.k4
  have ih := fun a' o ha' hn' => spec_JoinChunk_l0 hT M0 hM0 C hC lb (la ++ [l]) b (a0 ++ [m]) a' o (snoc_eq h) (snoc_eq h0) (by rw [snoc_len, snoc_len, ha0]) ha' (by omega) hn'
  simp only [snoc_len] at ih
  have iT := fun o ho => ih (a ++ [true]) o (by rw [snoc_len, ha]) ho
  rw [outs_cons, mks_cons]
  refine Ev.succ ?_
  simp only [spec_JoinChunk.l0, c1, if_true]
  refine Ev.then (spec_IsValidTask_ev _ _ _ _ _ (by have := hT.lenL; omega) (by have := hT.lenR; omega)) ?_
  rw [hT.val M0 hM0]
  refine Ev.succ ?_
  simp only [spec_JoinChunk.j1, c1, c2, if_true, e]
  refine Ev.then (spec_CountMatches_ev l C (by omega)) ?_
  simp only [succ64 la.length (by omega), Int.toNat_natCast]
  by_cases q : (mch kf l C).length = 0
  ·have c : ((mch kf l C).length : Int) = 0 := by omega
   simp only [c, if_true]
   have := ih (a ++ [m]) out (by rw [snoc_len, ha]) (by omega)
   rw [List.append_assoc, List.append_assoc, List.singleton_append, List.singleton_append] at this
   unfold Out1 out1
   rw [hit_zero q, Bool.or_false]
   exact this
  ·have c : ¬ (((mch kf l C).length : Int) = 0) := by omega
   simp only [c, if_false]
   unfold Out1 out1
   rw [hit_pos q, Bool.or_true, if_pos rfl]
   by_cases k2 : kind = 2
   ·simp only [k2, if_true, c4, c3, f0]
    cases m
    ·have c5 : out.length < 2513169434916 := by omega
     simp only [Bool.false_eq_true, if_false, c5, if_true, f2]
     have := iT (out ++ [pOne l]) (by rw [snoc_len]; omega)
     rw [k2, List.append_assoc, List.append_assoc, List.append_assoc, List.singleton_append, List.singleton_append] at this
     exact this
    ·simp only [if_true, f2]
     have := iT out (by omega)
     rw [k2, List.append_assoc, List.append_assoc, List.singleton_append, List.singleton_append] at this
     exact this
   ·simp only [k2, if_false]
    by_cases k3 : kind = 3
    ·simp only [k3, show ¬ ((3 : Int) = 1) from by decide, show ¬ ((3 : Int) = 4) from by decide, if_false, if_true, c3, f2]
     have := iT out (by omega)
     rw [k3, List.append_assoc, List.append_assoc, List.singleton_append, List.singleton_append] at this
     exact this
    ·simp only [k3, if_false]
     have e1 : Exp1 1 l false C = (mch kf l C).map (pTwo l) := rfl
     have c6 : out.length + ((mch kf l C).map (pTwo l)).length < 2513169434916 := by rw [List.length_map]; omega
     have := iT (out ++ (mch kf l C).map (pTwo l)) (by rw [List.length_append, List.length_map]; omega)
     rw [List.append_assoc, List.append_assoc, List.append_assoc, List.singleton_append, List.singleton_append] at this
     by_cases k1 : kind = 1
     ·simp only [k1, if_true]
      rw [k1] at this
      refine Ev.then (spec_l7One_ev 1 (by decide) (by decide) l C (by omega)) ?_
      rw [e1]
      simp only [c6, c3, if_true, f2]
      exact this
     ·have k4 : kind = 4 := by omega
      simp only [k4, show ¬ ((4 : Int) = 1) from by decide, if_false, if_true]
      rw [k4] at this
      refine Ev.then (spec_l7One_ev 1 (by decide) (by decide) l C (by omega)) ?_
      rw [e1]
      simp only [c6, c3, if_true, f2]
      exact this
theorem spec_JoinChunk_ev {kind : Int} {L R : List Row} {v : Int} (h : TOk kind L R v) (m : List Bool) (hm : m.length = L.length) (C : List Row) (hC : C.length ≤ 24) :
  Ev (fun k => spec_JoinChunk.f k kind L R m v C) (Outs kind (L.zip m) C, kind, L, R, mks C L m, v) := by
 have hL := h.lenL
 have hR := h.lenR
 unfold spec_JoinChunk.f
 simp only [spec_l16Copy_eq kind L R m v (by omega) (by omega) (by omega), Option.bind_some]
 have := spec_JoinChunk_l0 h m hm C hC L [] m [] [] [] rfl rfl rfl rfl hm (by simp; omega)
 simpa using this

theorem exp1_nil (kind : Int) (l : Row) (m : Bool) : Exp1 kind l m [] = if kind = 1 ∨ kind = 2 then [] else if m then [] else [pOne l] := by
 unfold Exp1 exp1 hit mch
 by_cases k1 : kind = 1
 ·simp [k1]
 ·by_cases k2 : kind = 2
  ·simp [k2]
  ·by_cases k3 : kind = 3 <;> cases m <;> simp [k1, k2, k3]
theorem expd_cons (kind : Int) (l : Row) (m : Bool) (ls : List Row) (ms : List Bool) (C : List Row) : Expd kind ((l :: ls).zip (m :: ms)) C = Exp1 kind l m C ++ Expd kind (ls.zip ms) C := rfl
theorem impl_UnmatchedRows_l0 (L R : List Row) (M : List Bool) (kind v : Int) (hk : kind = 3 ∨ kind = 4) : ∀ (lb la : List Row) (b a : List Bool) (out : List Pair), la ++ lb = L → a ++ b = M → a.length = la.length → b.length = lb.length → out.length + lb.length * 2 + la.length ≤ 1000000 →
  Ev (fun k => impl_UnmatchedRows.l0 k out L (L.length : Int) (la.length : Int) kind L R M v) (out ++ Expd kind (lb.zip b) [])
 | [], la, [], a, out, h, h0, ha, hb, hl => by
  refine Ev.succ ?_
  simp only [impl_UnmatchedRows.l0, endl h, if_false]
  exact Ev.val (by simp [Expd, expd])
 | l :: lb, la, m :: b, a, out, h, h0, ha, hb, hl => by
  obtain ⟨e, c1, c2⟩ := rd_at h
  obtain ⟨f0, c4, _⟩ := rdb_at h0 ha
  rw [List.length_cons, List.length_cons] at hb
  rw [List.length_cons] at hl
  have ih := fun o hn' => impl_UnmatchedRows_l0 L R M kind v hk lb (la ++ [l]) b (a ++ [m]) o (snoc_eq h) (snoc_eq h0) (by rw [snoc_len, snoc_len, ha]) (by omega) hn'
  simp only [snoc_len] at ih
  have c5 : out.length < 2513169434916 := by omega
  have hk' : ¬ (kind = 1 ∨ kind = 2) := by omega
  rw [expd_cons, exp1_nil, if_neg hk']
  refine Ev.succ ?_
  simp only [impl_UnmatchedRows.l0, c1, c2, c4, if_true, e, f0, succ64 la.length (by omega)]
  cases m
  ·simp only [Bool.false_eq_true, if_false, c5, if_true]
   have := ih (out ++ [pOne l]) (by rw [snoc_len]; omega)
   rw [List.append_assoc] at this
   exact this
  ·simp only [if_true, List.nil_append]
   exact ih out (by omega)
theorem expd_nil12 {kind : Int} (hk : kind = 1 ∨ kind = 2) : ∀ ls : List (Row × Bool), Expd kind ls [] = []
 | [] => rfl
 | x :: ls => by
  show Exp1 kind x.1 x.2 [] ++ Expd kind ls [] = []
  rw [exp1_nil, if_pos hk, expd_nil12 hk ls]
  rfl
theorem impl_UnmatchedRows_ev {kind : Int} {L R : List Row} {v : Int} (h : TOk kind L R v) (m : List Bool) (hm : m.length = L.length) :
  Ev (fun k => impl_UnmatchedRows.f k kind L R m v) (Expd kind (L.zip m) []) := by
 have hL := h.lenL
 have h1 := h.k1
 have h4 := h.k4
 unfold impl_UnmatchedRows.f
 refine Ev.then (impl_IsValidTask_ev _ _ _ _ _) ?_
 simp only [h.val m hm, if_true]
 have run : (kind = 3 ∨ kind = 4) → Ev (fun k => impl_UnmatchedRows.l0 k [] L (L.length : Int) 0 kind L R m v) (Expd kind (L.zip m) []) := by
  intro hk
  have := impl_UnmatchedRows_l0 L R m kind v hk L [] m [] [] rfl rfl rfl hm (by simp; omega)
  simpa using this
 by_cases k3 : kind = 3
 ·have := run (.inl k3)
  rw [k3] at this ⊢
  simp only [if_true]
  refine Ev.succ ?_
  simp only [impl_UnmatchedRows.j0, Bool.false_eq_true, if_false]
  exact this
 ·simp only [k3, if_false]
  by_cases k4 : kind = 4
  ·have := run (.inr k4)
   rw [k4] at this ⊢
   refine Ev.succ ?_
   simp only [impl_UnmatchedRows.j0, bne_self_eq_false, Bool.false_eq_true, if_false]
   exact this
  ·rw [expd_nil12 (by omega)]
   refine Ev.succ ?_
   have : (kind != 4) = true := bne_iff_ne.2 k4
   simp only [impl_UnmatchedRows.j0, this, if_true]
   exact Ev.val rfl
theorem spec_UnmatchedRows_l0 {kind : Int} {L R : List Row} {v : Int} (hT : TOk kind L R v) (M : List Bool) (hM : M.length = L.length) : ∀ (lb la : List Row) (b a : List Bool) (out : List Pair), la ++ lb = L → a ++ b = M → a.length = la.length → b.length = lb.length → out.length + lb.length * 2 + la.length ≤ 1000000 →
  Ev (fun k => spec_UnmatchedRows.l0 k out (la.length : Int) kind L R M v) (out ++ Expd kind (lb.zip b) [])
 | [], la, [], a, out, h, h0, ha, hb, hl => by
  refine Ev.succ ?_
  simp only [spec_UnmatchedRows.l0, endl h, if_false]
  refine Ev.succ ?_
  simp only [spec_UnmatchedRows.j1, Bool.false_eq_true, if_false]
  exact Ev.val (by simp [Expd, expd])
 | l :: lb, la, m :: b, a, out, h, h0, ha, hb, hl => by
  obtain ⟨e, c1, c2⟩ := rd_at h
  obtain ⟨f0, c4, _⟩ := rdb_at h0 ha
  rw [List.length_cons, List.length_cons] at hb
  rw [List.length_cons] at hl
  have hk1 := hT.k1
  have hk4 := hT.k4
  have ih := fun o hn' => spec_UnmatchedRows_l0 hT M hM lb (la ++ [l]) b (a ++ [m]) o (snoc_eq h) (snoc_eq h0) (by rw [snoc_len, snoc_len, ha]) (by omega) hn'
  simp only [snoc_len] at ih
  have c5 : out.length < 2513169434916 := by omega
  rw [expd_cons, exp1_nil]
  refine Ev.succ ?_
  simp only [spec_UnmatchedRows.l0, c1, if_true]
  refine Ev.then (spec_IsValidTask_ev _ _ _ _ _ (by have := hT.lenL; omega) (by have := hT.lenR; omega)) ?_
  rw [hT.val M hM]
  refine Ev.succ ?_
  simp only [spec_UnmatchedRows.j1, c1, c2, c4, if_true, e, f0, succ64 la.length (by omega)]
  cases m
  ·simp only [Bool.false_eq_true, if_false, c5, if_true]
   have := ih (out ++ [pOne l]) (by rw [snoc_len]; omega)
   rw [List.append_assoc] at this
   by_cases k3 : kind = 3
   ·rw [if_neg (by omega)]
    simp only [k3, if_true]
    rw [k3] at this
    exact this
   ·by_cases k4 : kind = 4
    ·rw [if_neg (by omega)]
     simp only [k3, k4, if_true, show ¬ ((4 : Int) = 3) from by decide, if_false]
     rw [k4] at this
     exact this
    ·rw [if_pos (by omega)]
     simp only [k3, k4, if_false, List.nil_append]
     exact ih out (by omega)
  ·simp only [if_true]
   have := ih out (by omega)
   split <;> exact this
theorem spec_UnmatchedRows_ev {kind : Int} {L R : List Row} {v : Int} (h : TOk kind L R v) (m : List Bool) (hm : m.length = L.length) :
  Ev (fun k => spec_UnmatchedRows.f k kind L R m v) (Expd kind (L.zip m) []) := by
 have hL := h.lenL
 have := spec_UnmatchedRows_l0 h m hm L [] m [] [] rfl rfl rfl hm (by simp; omega)
 simpa [spec_UnmatchedRows.f] using this
end
section
def okTask (kind : Int) (L R : List Row) : Bool := inB kind 1 4 && (vRows L && vRows R)
def newT (kind : Int) (L R : List Row) : Int × List Row × List Row × List Bool × Int × Bool := if okTask kind L R then (kind, L, R, fresh0 L, 0, true) else (0, [], [], [], 0, false)
theorem impl_NewTask_ev (kind : Int) (L R : List Row) (hL : L.length ≤ 1000) (hR : R.length ≤ 1000) : Ev (fun k => impl_NewTask.f k kind L R) (newT kind L R) := by
 unfold impl_NewTask.f impl_IsValidJoinKind.f newT okTask
 simp only [within_eq, Option.bind_some]
 rw [show (decide (1 ≤ kind) && decide (kind ≤ 4)) = inB kind 1 4 from rfl]
 cases inB kind 1 4
 ·simp only [Bool.false_eq_true, if_false, Bool.false_and]
  refine Ev.succ ?_
  simp only [impl_NewTask.j0, if_true]; exact Ev.val rfl
 ·simp only [if_true, Bool.true_and]
  refine Ev.then (impl_AreValidRows_ev L) ?_
  cases vRows L
  ·simp only [Bool.false_eq_true, if_false, Bool.false_and]
   refine Ev.succ ?_
   simp only [impl_NewTask.j0, if_true]; exact Ev.val rfl
  ·simp only [if_true, Bool.true_and]
   refine Ev.then (impl_AreValidRows_ev R) ?_
   cases vRows R
   ·refine Ev.succ ?_
    simp only [impl_NewTask.j0, Bool.not_false, if_true, Bool.false_eq_true, if_false]; exact Ev.val rfl
   ·refine Ev.succ ?_
    have c1 : (0 : Int) ≤ (L.length : Int) := by omega
    have c2 : L.length ≤ 281474976710656 := by omega
    simp only [impl_NewTask.j0, Bool.not_true, Bool.false_eq_true, if_false, impl_clone_eq L (by omega), impl_clone_eq R (by omega), Option.bind_some, c1, if_true, Int.toNat_natCast, c2]; exact Ev.val rfl
theorem spec_NewTask_ev (kind : Int) (L R : List Row) (hL : L.length ≤ 1000) (hR : R.length ≤ 1000) : Ev (fun k => spec_NewTask.f k kind L R) (newT kind L R) := by
 unfold spec_NewTask.f spec_IsValidJoinKind.f newT okTask
 simp only [l1In_eq, Option.bind_some]
 rw [show (decide (1 ≤ kind) && decide (kind ≤ 4)) = inB kind 1 4 from rfl]
 cases inB kind 1 4
 ·simp only [Bool.false_eq_true, if_false, Bool.false_and]; exact Ev.val rfl
 ·simp only [if_true, Bool.true_and]
  refine Ev.then (spec_AreValidRows_ev L (by omega)) ?_
  cases vRows L
  ·simp only [Bool.false_eq_true, if_false, Bool.false_and]; exact Ev.val rfl
  ·simp only [if_true, Bool.true_and]
   refine Ev.then (spec_AreValidRows_ev R (by omega)) ?_
   cases vRows R
   ·simp only [Bool.false_eq_true, if_false]; exact Ev.val rfl
   ·have c1 : (0 : Int) ≤ (L.length : Int) := by omega
    have c2 : L.length ≤ 281474976710656 := by omega
    have c3 : ([] : List Row).length + L.length < 5864062014805 := by rw [List.length_nil]; omega
    have c4 : ([] : List Row).length + R.length < 5864062014805 := by rw [List.length_nil]; omega
    simp only [if_true, c1, c3, c4, Int.toNat_natCast, List.nil_append, c2]; exact Ev.val rfl

def bnlR (kind : Int) (L : List Row) (g : Int) : Nat → List Row → List Bool → List Pair → Nat → List Pair × Nat
 | 0, _, m, out, c => (out ++ Expd kind (L.zip m) [], c)
 | n + 1, rest, m, out, c => if rest.length = 0 then (out ++ Expd kind (L.zip m) [], c) else bnlR kind L g n (rest.drop (cn rest g)) (mks (rest.take (cn rest g)) L m) (out ++ Outs kind (L.zip m) (rest.take (cn rest g))) (c + 1)
theorem bnlR_perm (kind : Int) (h1 : 1 ≤ kind) (h4 : kind ≤ 4) (L : List Row) (g : Int) : ∀ (n : Nat) (rest : List Row) (m : List Bool) (out : List Pair) (c : Nat), rest.length ≤ n → m.length = L.length →
  (bnlR kind L g n rest m out c).1.Perm (out ++ Expd kind (L.zip m) rest) ∧ (bnlR kind L g n rest m out c).2 ≤ c + rest.length
 | 0, rest, m, out, c, hr, hm => by
  have e : rest = [] := List.length_eq_zero_iff.1 (by omega)
  subst e
  exact ⟨List.Perm.refl _, by simp [bnlR]⟩
 | n + 1, rest, m, out, c, hr, hm => by
  unfold bnlR
  by_cases q : rest.length = 0
  ·rw [if_pos q]
   have e : rest = [] := List.length_eq_zero_iff.1 q
   subst e
   exact ⟨List.Perm.refl _, by simp⟩
  ·rw [if_neg q]
   have hp := cn_pos g (show 0 < rest.length by omega)
   have hle := cn_le rest g
   obtain ⟨a, b⟩ := bnlR_perm kind h1 h4 L g n (rest.drop (cn rest g)) (mks (rest.take (cn rest g)) L m) (out ++ Outs kind (L.zip m) (rest.take (cn rest g))) (c + 1) (by rw [List.length_drop]; omega) (mks_len _ _ _ hm)
   refine ⟨a.trans ?_, by rw [List.length_drop] at b; omega⟩
   have s := expd_step kf pOne pTwo kind h1 h4 (L.zip m) (rest.take (cn rest g)) (rest.drop (cn rest g))
   rw [marked_zip, List.take_append_drop] at s
   rw [List.append_assoc]
   exact List.Perm.append_left out s
theorem impl_Bnl_l0 {kind : Int} {L R : List Row} {v : Int} (hT : TOk kind L R v) (g : Int) : ∀ (n : Nat) (rest : List Row) (m : List Bool) (out : List Pair) (c : Nat), rest.length ≤ n → n ≤ 24 → m.length = L.length → out.length + n * 700 ≤ 100000 → c + n ≤ 1000 →
  Ev (fun k => impl_BlockNestedLoopJoin.l0 k g out (c : Int) rest kind L R m v) ((bnlR kind L g n rest m out c).1, ((bnlR kind L g n rest m out c).2 : Int), true)
 | 0, rest, m, out, c, hr, hn, hm, ho, hc => by
  have e : rest = [] := List.length_eq_zero_iff.1 (by omega)
  subst e
  have hx := expd_len kind [] (L.zip m)
  have hL := hT.lenL
  have hz : (L.zip m).length ≤ 24 := by rw [List.length_zip]; omega
  refine Ev.succ ?_
  simp only [impl_BlockNestedLoopJoin.l0, List.length_nil, show ¬ (((0 : Nat) : Int) > 0) from by omega, if_false]
  refine Ev.then (impl_UnmatchedRows_ev hT m hm) ?_
  have c1 : out.length + (Expd kind (L.zip m) []).length < 2513169434916 := by rw [List.length_nil] at hx; omega
  simp only [c1, if_true]
  exact Ev.val rfl
 | n + 1, rest, m, out, c, hr, hn, hm, ho, hc => by
  have hL := hT.lenL
  have hz : (L.zip m).length ≤ 24 := by rw [List.length_zip]; omega
  unfold bnlR
  by_cases q : rest.length = 0
  ·rw [if_pos q]
   have hx := expd_len kind [] (L.zip m)
   refine Ev.succ ?_
   simp only [impl_BlockNestedLoopJoin.l0, q, show ¬ (((0 : Nat) : Int) > 0) from by omega, if_false]
   refine Ev.then (impl_UnmatchedRows_ev hT m hm) ?_
   have c1 : out.length + (Expd kind (L.zip m) []).length < 2513169434916 := by rw [List.length_nil] at hx; omega
   simp only [c1, if_true]
   exact Ev.val rfl
  ·rw [if_neg q]
   have hp := cn_pos g (show 0 < rest.length by omega)
   have hle := cn_le rest g
   have ht : (rest.take (cn rest g)).length ≤ 24 := by rw [List.length_take]; omega
   have hx := outs_len kind (rest.take (cn rest g)) (L.zip m)
   have hx2 : (L.zip m).length * ((rest.take (cn rest g)).length + 1) ≤ 24 * 25 := Nat.mul_le_mul hz (by omega)
   refine Ev.succ ?_
   simp only [impl_BlockNestedLoopJoin.l0, show (rest.length : Int) > 0 from by omega, if_true]
   refine Ev.then (impl_NextChunk_ev rest g (by omega)) ?_
   refine Ev.then (impl_JoinChunk_ev hT m hm _ ht) ?_
   have c1 : out.length + (Outs kind (L.zip m) (rest.take (cn rest g))).length < 2513169434916 := by omega
   simp only [c1, if_true, succ64 c (by omega)]
   exact impl_Bnl_l0 hT g n _ _ _ (c + 1) (by rw [List.length_drop]; omega) (by omega) (mks_len _ _ _ hm) (by rw [List.length_append]; omega) (by omega)
theorem spec_Bnl_l0 {kind : Int} {L R : List Row} {v : Int} (hT : TOk kind L R v) (g : Int) : ∀ (n : Nat) (rest : List Row) (m : List Bool) (out : List Pair) (c : Nat), rest.length ≤ n → n ≤ 24 → m.length = L.length → out.length + n * 700 ≤ 100000 → c + n ≤ 1000 →
  Ev (fun k => spec_BlockNestedLoopJoin.l0 k g out (c : Int) rest kind L R m v) ((bnlR kind L g n rest m out c).1, ((bnlR kind L g n rest m out c).2 : Int), true)
 | 0, rest, m, out, c, hr, hn, hm, ho, hc => by
  have e : rest = [] := List.length_eq_zero_iff.1 (by omega)
  subst e
  have hx := expd_len kind [] (L.zip m)
  have hL := hT.lenL
  have hz : (L.zip m).length ≤ 24 := by rw [List.length_zip]; omega
  refine Ev.succ ?_
  simp only [spec_BlockNestedLoopJoin.l0, List.length_nil, show ¬ (((0 : Nat) : Int) > 0) from by omega, if_false]
  refine Ev.then (spec_UnmatchedRows_ev hT m hm) ?_
  have c1 : out.length + (Expd kind (L.zip m) []).length < 2513169434916 := by rw [List.length_nil] at hx; omega
  simp only [c1, if_true]
  exact Ev.val rfl
 | n + 1, rest, m, out, c, hr, hn, hm, ho, hc => by
  have hL := hT.lenL
  have hz : (L.zip m).length ≤ 24 := by rw [List.length_zip]; omega
  unfold bnlR
  by_cases q : rest.length = 0
  ·rw [if_pos q]
   have hx := expd_len kind [] (L.zip m)
   refine Ev.succ ?_
   simp only [spec_BlockNestedLoopJoin.l0, q, show ¬ (((0 : Nat) : Int) > 0) from by omega, if_false]
   refine Ev.then (spec_UnmatchedRows_ev hT m hm) ?_
   have c1 : out.length + (Expd kind (L.zip m) []).length < 2513169434916 := by rw [List.length_nil] at hx; omega
   simp only [c1, if_true]
   exact Ev.val rfl
  ·rw [if_neg q]
   have hp := cn_pos g (show 0 < rest.length by omega)
   have hle := cn_le rest g
   have ht : (rest.take (cn rest g)).length ≤ 24 := by rw [List.length_take]; omega
   have hx := outs_len kind (rest.take (cn rest g)) (L.zip m)
   have hx2 : (L.zip m).length * ((rest.take (cn rest g)).length + 1) ≤ 24 * 25 := Nat.mul_le_mul hz (by omega)
   refine Ev.succ ?_
   simp only [spec_BlockNestedLoopJoin.l0, show (rest.length : Int) > 0 from by omega, if_true]
   refine Ev.then (spec_NextChunk_ev rest g (by omega)) ?_
   refine Ev.then (spec_JoinChunk_ev hT m hm _ ht) ?_
   have c1 : out.length + (Outs kind (L.zip m) (rest.take (cn rest g))).length < 2513169434916 := by omega
   simp only [c1, if_true, succ64 c (by omega)]
   exact spec_Bnl_l0 hT g n _ _ _ (c + 1) (by rw [List.length_drop]; omega) (by omega) (mks_len _ _ _ hm) (by rw [List.length_append]; omega) (by omega)
def okBnl (kind : Int) (L R : List Row) (g : Int) : Bool := okTask kind L R && inB g 8 60
def bnl (kind : Int) (L R : List Row) (g : Int) : List Pair × Int × Bool := if okBnl kind L R g then ((bnlR kind L g R.length R (fresh0 L) [] 0).1, ((bnlR kind L g R.length R (fresh0 L) [] 0).2 : Int), true) else ([], 0, false)
theorem okTask_TOk {kind : Int} {L R : List Row} (h : okTask kind L R = true) : TOk kind L R 0 := by
 unfold okTask at h
 rw [Bool.and_eq_true, Bool.and_eq_true, inB_iff] at h
 exact ⟨h.1.1, h.1.2, h.2.1, h.2.2, by decide, by decide⟩
theorem fresh0_len (L : List Row) : (fresh0 L).length = L.length := by unfold fresh0; rw [List.length_replicate]
theorem impl_Bnl_ev (kind : Int) (L R : List Row) (g : Int) (hL : L.length ≤ 1000) (hR : R.length ≤ 1000) : Ev (fun k => impl_BlockNestedLoopJoin.f k kind L R g) (bnl kind L R g) := by
 unfold impl_BlockNestedLoopJoin.f bnl okBnl
 refine Ev.then (impl_NewTask_ev kind L R hL hR) ?_
 unfold newT
 cases h : okTask kind L R
 ·simp only [Bool.false_eq_true, if_false, Bool.false_and]
  refine Ev.succ ?_
  simp only [impl_BlockNestedLoopJoin.j0, if_true]; exact Ev.val rfl
 ·have hT := okTask_TOk h
  have hR := hT.lenR
  simp only [if_true, Bool.true_and, impl_isGrant.f, within_eq, Option.bind_some]
  rw [show (decide (8 ≤ g) && decide (g ≤ 60)) = inB g 8 60 from rfl]
  refine Ev.succ ?_
  cases inB g 8 60
  ·simp only [impl_BlockNestedLoopJoin.j0, Bool.not_false, if_true, Bool.false_eq_true, if_false]; exact Ev.val rfl
  ·simp only [impl_BlockNestedLoopJoin.j0, Bool.not_true, Bool.false_eq_true, if_false, if_true]
   exact impl_Bnl_l0 hT g R.length R (fresh0 L) [] 0 (Nat.le_refl _) (by omega) (fresh0_len L) (by rw [List.length_nil]; omega) (by omega)
theorem spec_Bnl_ev (kind : Int) (L R : List Row) (g : Int) (hL : L.length ≤ 1000) (hR : R.length ≤ 1000) : Ev (fun k => spec_BlockNestedLoopJoin.f k kind L R g) (bnl kind L R g) := by
 unfold spec_BlockNestedLoopJoin.f bnl okBnl
 refine Ev.then (spec_NewTask_ev kind L R hL hR) ?_
 unfold newT
 cases h : okTask kind L R
 ·simp only [Bool.false_eq_true, if_false, Bool.false_and]
  refine Ev.succ ?_
  simp only [spec_BlockNestedLoopJoin.j0, if_true]; exact Ev.val rfl
 ·have hT := okTask_TOk h
  have hR := hT.lenR
  simp only [if_true, Bool.true_and, l1In_eq, Option.bind_some]
  rw [show (decide (8 ≤ g) && decide (g ≤ 60)) = inB g 8 60 from rfl]
  refine Ev.succ ?_
  cases inB g 8 60
  ·simp only [spec_BlockNestedLoopJoin.j0, Bool.not_false, if_true, Bool.false_eq_true, if_false]; exact Ev.val rfl
  ·simp only [spec_BlockNestedLoopJoin.j0, Bool.not_true, Bool.false_eq_true, if_false, if_true]
   exact spec_Bnl_l0 hT g R.length R (fresh0 L) [] 0 (Nat.le_refl _) (by omega) (fresh0_len L) (by rw [List.length_nil]; omega) (by omega)
end
open Plain Br
section
theorem law_Bnl_j1 (kind : Int) (x y : List Row) (g : Int) (hx : x.length ≤ 8) (hy : y.length ≤ 10) :
  Ev (fun k => laws_FnBlockNestedLoop.j1 k kind x y (bnl kind x y g).1 (bnl kind x y g).2.1 (bnl kind x y g).2.2 false) true := by
 refine Ev.succ ?_
 simp only [laws_FnBlockNestedLoop.j1, Bool.false_eq_true, if_false]
 unfold bnl
 cases h : okBnl kind x y g
 ·simp only [Bool.false_eq_true, if_false]; exact Ev.val rfl
 ·simp only [if_true]
  have h' := h
  unfold okBnl at h'
  rw [Bool.and_eq_true] at h'
  have hT := okTask_TOk h'.1
  obtain ⟨p, q⟩ := bnlR_perm kind hT.k1 hT.k4 x g y.length y (fresh0 x) [] 0 (Nat.le_refl _) (fresh0_len x)
  rw [List.nil_append] at p
  have hl := expd_len kind y (x.zip (fresh0 x))
  have hz : (x.zip (fresh0 x)).length ≤ 24 := by rw [List.length_zip]; omega
  have hm : (x.zip (fresh0 x)).length * (y.length + 1) ≤ 24 * 25 := Nat.mul_le_mul hz (by omega)
  refine Ev.then (spec_ReferenceJoin_ev kind hT.k1 hT.k4 x y (by omega) (by omega)) ?_
  refine Ev.then (spec_EqualPairBags_ev _ _ p (by rw [p.length_eq]; omega)) ?_
  simp only [if_true]
  exact Ev.val (decide_eq_true (by omega))
theorem law_Bnl_j0 (b : List Int) (hb : b.length ≤ 140737488355328) : Ev (fun k => laws_FnBlockNestedLoop.j0 k b false) true := by
 obtain ⟨kind, x, y, g, E, hx, hy⟩ := DrawBnl_ok b hb
 refine Ev.succ ?_
 simp only [laws_FnBlockNestedLoop.j0, Bool.false_eq_true, if_false]
 refine Ev.then E ?_
 refine Ev.then (impl_Bnl_ev kind x y g (by omega) (by omega)) ?_
 refine Ev.then (spec_Bnl_ev kind x y g (by omega) (by omega)) ?_
 have hlen : (bnl kind x y g).1.length ≤ 1000000 := by
  unfold bnl
  cases h : okBnl kind x y g
  ·simp
  ·simp only [if_true]
   have h' := h
   unfold okBnl at h'
   rw [Bool.and_eq_true] at h'
   have hT := okTask_TOk h'.1
   obtain ⟨p, q⟩ := bnlR_perm kind hT.k1 hT.k4 x g y.length y (fresh0 x) [] 0 (Nat.le_refl _) (fresh0_len x)
   rw [List.nil_append] at p
   have hl := expd_len kind y (x.zip (fresh0 x))
   have hz : (x.zip (fresh0 x)).length ≤ 24 := by rw [List.length_zip]; omega
   have hm : (x.zip (fresh0 x)).length * (y.length + 1) ≤ 24 * 25 := Nat.mul_le_mul hz (by omega)
   rw [p.length_eq]
   omega
 simp only [bne_self_eq_false, Bool.false_eq_true, if_false, if_true]
 refine Ev.then (spec_EqualPairBags_ev _ _ (List.Perm.refl _) hlen) ?_
 exact law_Bnl_j1 kind x y g hx hy
theorem law_BlockNestedLoop (b : List Int) (hb : b.length ≤ 140737488355328) : Ev (fun k => laws_FnBlockNestedLoop.f k b) true := by
 unfold laws_FnBlockNestedLoop.f
 simp only [laws_big.f, Option.bind_some]
 by_cases q : (b.length : Int) > 1048576
 ·simp only [q, decide_true, if_true]; exact Ev.val rfl
 ·simp only [q, decide_false, Bool.false_eq_true, if_false]
  obtain ⟨l, g, E, hl⟩ := DrawNextChunk_ok b hb
  have hle := cn_le l g
  refine Ev.then E ?_
  refine Ev.then (impl_NextChunk_ev l g (by omega)) ?_
  refine Ev.then (spec_NextChunk_ev l g (by omega)) ?_
  refine Ev.then (laws_sameRows_ev _ (by rw [List.length_take]; omega)) ?_
  simp only [if_true]
  refine Ev.then (laws_sameRows_ev _ (by rw [List.length_drop]; omega)) ?_
  have c1 : ([] : List Row).length + (l.take (cn l g)).length < 5864062014805 := by rw [List.length_nil, List.length_take]; omega
  have c2 : (l.take (cn l g)).length + (l.drop (cn l g)).length < 5864062014805 := by rw [List.length_take, List.length_drop]; omega
  simp only [if_true, c1, List.nil_append, c2, List.take_append_drop]
  refine Ev.then (laws_sameRows_ev _ (by omega)) ?_
  simp only [if_true]
  have J := law_Bnl_j0 b hb
  have T : 1 < cn l g → Ev (fun k => (spec_TotalCost.f k (l.take (cn l g))).bind fun t => laws_FnBlockNestedLoop.j0 k b (decide (t > g))) true := by
   intro h
   refine Ev.then (spec_TotalCost_ev _ (by rw [List.length_take]; omega)) ?_
   have := cn_cost h
   rw [decide_eq_false (show ¬ (tc (l.take (cn l g)) > g) by omega)]
   exact J
  have hlen : (l.take (cn l g)).length = cn l g := by rw [List.length_take]; omega
  rw [hlen]
  by_cases p : (l.length : Int) > 0
  ·have hp := cn_pos g (show 0 < l.length by omega)
   simp only [p, if_true, show ¬ ((cn l g : Int) = 0) from by omega, if_false]
   by_cases r : (cn l g : Int) > 1
   ·simp only [r, if_true]; exact T (by omega)
   ·simp only [r, if_false]; exact J
  ·simp only [p, if_false, show ¬ ((cn l g : Int) > 1) from by omega]; exact J
theorem FnBlockNestedLoop_pure : laws_FnBlockNestedLoop.Pure := by
 intro l0 _ hl _
 obtain ⟨K, h⟩ := law_BlockNestedLoop l0 (by omega)
 exact ⟨K, h K (Nat.le_refl _)⟩
end
end Go.Proofs.Ytobndcjmjhehjaa.P
