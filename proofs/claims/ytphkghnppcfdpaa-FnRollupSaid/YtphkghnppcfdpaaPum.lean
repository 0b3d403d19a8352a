/- For every code the law FnRollup of the given program returns true and leaves its argument as it was; no condition. -/
import Derived.Test.YtphkghnppcfdpaaPuf3
namespace Go.Proofs.Ytphkghnppcfdpaa.P
open Go.RowKit Go.Proofs.YtphkghnppcfdpaaW.PrintWords Go.Proofs.YtphkghnppcfdpaaW.PrintLast
set_option linter.unusedVariables false
set_option linter.unusedSimpArgs false
namespace Plain

abbrev T := List UInt8

def dec (n : Nat) : T := if n < 10 then [UInt8.ofNat (48 + n)] else dec (n / 10) ++ [UInt8.ofNat (48 + n % 10)]
 termination_by n
 decreasing_by omega

theorem dec_lt {n : Nat} (h : n < 10) : dec n = [UInt8.ofNat (48 + n)] := by rw [dec, if_pos h]
theorem dec_ge {n : Nat} (h : ¬ n < 10) : dec n = dec (n / 10) ++ [UInt8.ofNat (48 + n % 10)] := by rw [dec, if_neg h]

theorem dec_ne (n : Nat) : dec n ≠ [] := by
 by_cases h : n < 10
 ·rw [dec_lt h]; simp
 ·rw [dec_ge h]; simp

theorem dec_len (n k : Nat) (hk : 0 < k) : (dec n).length ≤ k ↔ n < 10 ^ k := by
 induction n using Nat.strongRecOn generalizing k with
 | _ n ih =>
  by_cases h : n < 10
  ·rw [dec_lt h]
   simp only [List.length_singleton]
   constructor
   ·intro _
    calc n < 10 := h
     _ = 10 ^ 1 := rfl
     _ ≤ 10 ^ k := Nat.pow_le_pow_right (by omega) hk
   ·intro _; exact hk
  ·rw [dec_ge h]
   simp only [List.length_append, List.length_singleton]
   rcases Nat.lt_or_ge 1 k with h1 | h1
   ·have := ih (n / 10) (by omega) (k - 1) (by omega)
    have e : 10 ^ k = 10 * 10 ^ (k - 1) := by
     conv => lhs; rw [show k = (k - 1) + 1 by omega]
     rw [Nat.pow_succ, Nat.mul_comm]
    rw [e]
    constructor
    ·intro hl; have := this.1 (by omega); omega
    ·intro hn; have := this.2 (by omega); omega
   ·obtain rfl : k = 1 := by omega
    have hp : 0 < (dec (n / 10)).length := List.length_pos_iff.2 (dec_ne _)
    constructor
    ·intro hl; omega
    ·intro hn; omega

def fmtI (n : Int) : T := if n < 0 then 45 :: dec n.natAbs else dec n.toNat

def split (s : UInt8) : T → List T
 | [] => [[]]
 | c :: r => if c = s then [] :: split s r else match split s r with
  | h :: t => (c :: h) :: t
  | [] => [[c]]
def join (s : T) : List T → T
 | [] => []
 | [a] => a
 | a :: b :: r => a ++ s ++ join s (b :: r)

theorem join_snoc (s : T) : ∀ {l : List T}, l ≠ [] → ∀ a, join s (l ++ [a]) = join s l ++ s ++ a
 | [], h, _ => absurd rfl h
 | [b], _, a => rfl
 | b :: c :: r, _, a => by
  show b ++ s ++ join s ((c :: r) ++ [a]) = b ++ s ++ join s (c :: r) ++ s ++ a
  rw [join_snoc s (by simp) a]; simp [List.append_assoc]

end Plain
open Plain
namespace Br

theorem Ev.succ {α : Type} {g : Nat → Option α} {r : α} (h : Ev (fun k => g (k + 1)) r) : Ev g r := by
 obtain ⟨K, h⟩ := h
 refine ⟨K + 1, fun k hk => ?_⟩
 have := h (k - 1) (by omega)
 simpa [show k - 1 + 1 = k by omega] using this
theorem Ev.val {α : Type} {v r : α} (h : v = r) : Ev (fun _ => some v) r := ⟨0, fun _ _ => by rw [h]⟩
theorem Ev.then {α β : Type} {g : Nat → Option α} {f : Nat → α → Option β} {a : α} {r : β} (h : Ev g a) (k : Ev (fun n => f n a) r) : Ev (fun n => (g n).bind (f n)) r := Ev.bind h k
theorem Ev.one {α : Type} {g : Nat → Option α} {a : α} (h : Ev g a) : Ev (fun n => (g n).bind fun t => some t) a := Ev.bind h (Ev.val rfl)
def L (s : ByteArray) : T := s.data.toList
def B (l : T) : ByteArray := ⟨l.toArray⟩
theorem L_B (l : T) : L (B l) = l := by simp [L, B]
theorem B_L (s : ByteArray) : B (L s) = s := by cases s; simp [L, B]
theorem L_inj {a b : ByteArray} : L a = L b ↔ a = b := ⟨fun h => by rw [← B_L a, ← B_L b, h], fun h => by rw [h]⟩
theorem size_L (s : ByteArray) : s.size = (L s).length := by rw [L, Array.length_toList]; rfl
theorem size_B (l : T) : (B l).size = l.length := by rw [size_L, L_B]
theorem B_append (a b : T) : B a ++ B b = B (a ++ b) := by
 rw [← L_inj, L_B]; simp [L, B, ByteArray.data_append]
theorem lit_B (a : Array UInt8) : (⟨a⟩ : ByteArray) = B a.toList := by simp [B]
theorem B_nil : B [] = (⟨#[]⟩ : ByteArray) := rfl
theorem strOfNums_one (n : Int) : strOfNums [n] = B [UInt8.ofNat n.toNat] := rfl
theorem w64 {n : Int} (h1 : -9223372036854775808 ≤ n) (h2 : n ≤ 9223372036854775807) : wrap64 n = n := by unfold wrap64; omega
theorem wu64 {n : Int} (h1 : 0 ≤ n) (h2 : n ≤ 18446744073709551615) : IntKind.u64.wrap n = n := by
 unfold IntKind.wrap
 dsimp only
 rw [if_neg (by rw [show IntKind.u64.signed = false from rfl, Bool.false_and]; decide)]
 show n % 18446744073709551616 = n
 omega
end Br
open Plain Br
section
theorem tdiv_nat (m : Nat) : Int.tdiv (m : Int) 10 = ((m / 10 : Nat) : Int) := rfl
theorem tmod_nat (m : Nat) : Int.tmod (m : Int) 10 = ((m % 10 : Nat) : Int) := rfl
theorem dec_len20 (m : Nat) (h : m < 18446744073709551616) : (dec m).length ≤ 20 := (dec_len m 20 (by omega)).2 (by omega)
theorem dig_str (m : Nat) (h : m < 10) : strOfNums [(48 + (m : Int)) % 256] = B [UInt8.ofNat (48 + m)] := by
 rw [strOfNums_one, show ((48 + (m : Int)) % 256).toNat = 48 + m by omega]

theorem impl_decimal_ev : ∀ m : Nat, m < 18446744073709551616 → Ev (fun k => impl_decimal.f k (m : Int)) (B (dec m)) := by
 intro m
 induction m using Nat.strongRecOn with
 | _ m ih =>
  intro hm
  refine Ev.succ ?_
  by_cases h : m < 10
  ·have h1 : ((m : Int) < 10) := by omega
   simp only [impl_decimal.f, h1, if_true]
   rw [wu64 (by omega) (by omega), dig_str m h, dec_lt h]
   exact Ev.val rfl
  ·have h1 : ¬ ((m : Int) < 10) := by omega
   simp only [impl_decimal.f, h1, if_false, tdiv_nat, tmod_nat]
   rw [wu64 (by omega) (by omega)]
   refine Ev.then (ih (m / 10) (by omega) (by omega)) ?_
   simp only [Option.bind_some]
   rw [wu64 (by omega) (by omega), dig_str _ (by omega)]
   have hl := dec_len20 (m / 10) (by omega)
   have h2 : (B (dec (m / 10))).size + (B [UInt8.ofNat (48 + m % 10)]).size ≤ 9223372036854775807 := by rw [size_B, size_B]; simp only [List.length_singleton]; omega
   simp only [h2, if_true]
   rw [B_append, ← dec_ge h]
   exact Ev.val rfl

theorem impl_FormatInt_ev (n : Int) (h1 : -9223372036854775808 ≤ n) (h2 : n ≤ 9223372036854775807) : Ev (fun k => impl_FormatInt.f k n) (B (fmtI n)) := by
 simp only [impl_FormatInt.f]
 by_cases h : n < 0
 ·have e : IntKind.u64.wrap (-IntKind.u64.wrap n) = ((n.natAbs : Nat) : Int) := by
   have e1 : ∀ x : Int, IntKind.u64.wrap x = x % 18446744073709551616 := by
    intro x
    unfold IntKind.wrap
    dsimp only
    rw [if_neg (by rw [show IntKind.u64.signed = false from rfl, Bool.false_and]; decide)]
    rfl
   rw [e1, e1]; omega
  simp only [h, if_true, e]
  refine Ev.then (impl_decimal_ev _ (by omega)) ?_
  have hl := dec_len20 n.natAbs (by omega)
  have h3 : 1 + (B (dec n.natAbs)).size ≤ 9223372036854775807 := by rw [size_B]; omega
  simp only [h3, if_true]
  refine Ev.val ?_
  rw [lit_B, B_append]
  unfold fmtI
  rw [if_pos h]
  rfl
 ·have e : IntKind.u64.wrap n = ((n.toNat : Nat) : Int) := by rw [wu64 (by omega) (by omega)]; omega
  simp only [h, if_false, e]
  refine Ev.then (impl_decimal_ev _ (by omega)) (Ev.val ?_)
  unfold fmtI
  rw [if_neg h]

theorem spec_FormatInt_l0 (neg : Bool) : ∀ (m : Nat) (n : Int) (acc : T), n.natAbs = m → -9223372036854775808 ≤ n → n ≤ 9223372036854775807 → acc.length + (dec m).length ≤ 1000 → n ≠ 0 →
  Ev (fun k => spec_FormatInt.l0 k n (B acc) neg) (B ((if neg then [45] else []) ++ dec m ++ acc)) := by
 intro m
 induction m using Nat.strongRecOn with
 | _ m ih =>
  intro n acc hm h1 h2 hacc hn
  have hlast : ∀ (acc : T), acc.length < 9223372036854775100 → Ev (fun k => spec_FormatInt.l0 k 0 (B acc) neg) (B ((if neg then [45] else []) ++ acc)) := by
   intro acc ha
   refine Ev.succ ?_
   cases neg with
   | true =>
    have h3 : 1 + (B acc).size ≤ 9223372036854775807 := by rw [size_B]; omega
    simp only [spec_FormatInt.l0, if_true, h3]
    exact Ev.val (by rw [lit_B, B_append])
   | false =>
    simp only [spec_FormatInt.l0, if_true, Bool.false_eq_true, if_false]
    exact Ev.val rfl
  have key : Ev (fun k => spec_FormatInt.l0 k (Int.tdiv n 10) (B ([UInt8.ofNat (48 + m % 10)] ++ acc)) neg) (B ((if neg then [45] else []) ++ dec m ++ acc)) := by
   by_cases h10 : m < 10
   ·have e : Int.tdiv n 10 = 0 := by
     rcases Int.lt_or_le n 0 with hn0 | hn0
     ·obtain ⟨j, rfl⟩ : ∃ j : Nat, n = -(j : Int) := ⟨n.natAbs, by omega⟩
      rw [Int.neg_tdiv, tdiv_nat]; omega
     ·obtain ⟨j, rfl⟩ : ∃ j : Nat, n = (j : Int) := ⟨n.natAbs, by omega⟩
      rw [tdiv_nat]; omega
    rw [e]
    have := hlast ([UInt8.ofNat (48 + m % 10)] ++ acc) (by simp; omega)
    rw [dec_lt h10, List.append_assoc, show UInt8.ofNat (48 + m) = UInt8.ofNat (48 + m % 10) by rw [Nat.mod_eq_of_lt h10]]
    exact this
   ·have e : (Int.tdiv n 10).natAbs = m / 10 := by
     rcases Int.lt_or_le n 0 with hn0 | hn0
     ·obtain ⟨j, rfl⟩ : ∃ j : Nat, n = -(j : Int) := ⟨n.natAbs, by omega⟩
      rw [Int.neg_tdiv, tdiv_nat]; omega
     ·obtain ⟨j, rfl⟩ : ∃ j : Nat, n = (j : Int) := ⟨n.natAbs, by omega⟩
      rw [tdiv_nat]; omega
    obtain ⟨q, hq⟩ : ∃ q, q = Int.tdiv n 10 := ⟨_, rfl⟩
    rw [← hq] at e ⊢
    clear hq
    have := ih (m / 10) (by omega) q ([UInt8.ofNat (48 + m % 10)] ++ acc) e (by omega) (by omega) (by rw [dec_ge h10] at hacc; simp at hacc ⊢; omega) (by omega)
    rw [dec_ge h10]
    simpa [List.append_assoc] using this
  refine Ev.succ ?_
  have hn' : ¬ (n = 0) := hn
  have hsz : (B [UInt8.ofNat (48 + m % 10)]).size + (B acc).size ≤ 9223372036854775807 := by rw [size_B, size_B]; simp only [List.length_singleton]; omega
  have htd : wrap64 (Int.tdiv n 10) = Int.tdiv n 10 := by
   apply w64
   ·rcases Int.lt_or_le n 0 with hn0 | hn0
    ·obtain ⟨j, rfl⟩ : ∃ j : Nat, n = -(j : Int) := ⟨n.natAbs, by omega⟩
     rw [Int.neg_tdiv, tdiv_nat]; omega
    ·obtain ⟨j, rfl⟩ : ∃ j : Nat, n = (j : Int) := ⟨n.natAbs, by omega⟩
     rw [tdiv_nat]; omega
   ·rcases Int.lt_or_le n 0 with hn0 | hn0
    ·obtain ⟨j, rfl⟩ : ∃ j : Nat, n = -(j : Int) := ⟨n.natAbs, by omega⟩
     rw [Int.neg_tdiv, tdiv_nat]; omega
    ·obtain ⟨j, rfl⟩ : ∃ j : Nat, n = (j : Int) := ⟨n.natAbs, by omega⟩
     rw [tdiv_nat]; omega
  rcases Int.lt_or_le n 0 with hn0 | hn0
  ·have hmod : Int.tmod n 10 = -((m % 10 : Nat) : Int) := by
    obtain ⟨j, rfl⟩ : ∃ j : Nat, n = -(j : Int) := ⟨n.natAbs, by omega⟩
    rw [Int.neg_tmod, tmod_nat]; omega
   by_cases hz : m % 10 = 0
   ·have h3 : ¬ (Int.tmod n 10 < 0) := by rw [hmod]; omega
    have e1 : wrap64 (48 + Int.tmod n 10) = 48 + ((m % 10 : Nat) : Int) := by rw [hmod]; unfold wrap64; omega
    simp only [spec_FormatInt.l0, hn', h3, if_false, Option.bind_some, e1, dig_str _ (show m % 10 < 10 by omega), hsz, if_true, htd, B_append]
    exact key
   ·have h3 : Int.tmod n 10 < 0 := by rw [hmod]; omega
    have e1 : wrap64 (48 + wrap64 (-(Int.tmod n 10))) = 48 + ((m % 10 : Nat) : Int) := by rw [hmod]; unfold wrap64; omega
    simp only [spec_FormatInt.l0, hn', h3, if_false, Option.bind_some, e1, dig_str _ (show m % 10 < 10 by omega), hsz, if_true, htd, B_append]
    exact key
  ·have hmod : Int.tmod n 10 = ((m % 10 : Nat) : Int) := by
    obtain ⟨j, rfl⟩ : ∃ j : Nat, n = (j : Int) := ⟨n.natAbs, by omega⟩
    rw [tmod_nat]; omega
   have h3 : ¬ (Int.tmod n 10 < 0) := by rw [hmod]; omega
   have e1 : wrap64 (48 + Int.tmod n 10) = 48 + ((m % 10 : Nat) : Int) := by rw [hmod]; unfold wrap64; omega
   simp only [spec_FormatInt.l0, hn', h3, if_false, Option.bind_some, e1, dig_str _ (show m % 10 < 10 by omega), hsz, if_true, htd, B_append]
   exact key

theorem spec_FormatInt_ev (n : Int) (h1 : -9223372036854775808 ≤ n) (h2 : n ≤ 9223372036854775807) : Ev (fun k => spec_FormatInt.f k n) (B (fmtI n)) := by
 simp only [spec_FormatInt.f]
 by_cases h : n = 0
 ·subst h
  simp only [if_true]
  refine Ev.val ?_
  rw [lit_B]
  unfold fmtI
  rw [if_neg (by decide), show (0 : Int).toNat = 0 from rfl, dec_lt (by decide)]
  rfl
 ·simp only [h, if_false]
  have := spec_FormatInt_l0 (decide (n < 0)) n.natAbs n [] rfl h1 h2 (by have := dec_len20 n.natAbs (by omega); simp; omega) h
  rw [← B_nil]
  refine cast (congrArg _ ?_) this
  congr 1
  unfold fmtI
  by_cases hn : n < 0
  ·rw [if_pos hn]; simp [hn]
  ·rw [if_neg hn, show n.toNat = n.natAbs by omega]; simp [hn]

end
open Plain Br
section
theorem succ64 (j : Nat) (hj : j < 9223372036854775807) : wrap64 ((j : Int) + 1) = ((j + 1 : Nat) : Int) := by unfold wrap64; omega
theorem fmtI_neg {n : Int} (h : n < 0) : fmtI n = 45 :: dec n.natAbs := by unfold fmtI; rw [if_pos h]
theorem fmtI_pos {n : Int} (h : ¬ n < 0) : fmtI n = dec n.natAbs := by unfold fmtI; rw [if_neg h, show n.toNat = n.natAbs by omega]

end
open Plain Br
section
abbrev Row := S114
theorem rd_row (xs : List Row) (j : Nat) (h : j < xs.length) : rd_T114 xs (j : Int) = xs[j] := by
 unfold rd_T114
 rw [Int.toNat_natCast, List.getD_eq_getElem?_getD, List.getElem?_eq_getElem h]
 rfl
theorem litL (l : List UInt8) : (⟨l.toArray⟩ : ByteArray) = B l := rfl
def vRow (r : Row) : Bool := decide (0 ≤ r.f0) && decide (r.f0 ≤ 9) && (decide (0 ≤ r.f1) && decide (r.f1 ≤ 99)) && (decide (0 ≤ r.f2) && decide (r.f2 ≤ 3))
theorem vRow_iff (r : Row) : vRow r = true ↔ (0 ≤ r.f0 ∧ r.f0 ≤ 9) ∧ (0 ≤ r.f1 ∧ r.f1 ≤ 99) ∧ 0 ≤ r.f2 ∧ r.f2 ≤ 3 := by
 unfold vRow
 simp only [Bool.and_eq_true, decide_eq_true_iff]
 constructor
 ·rintro ⟨⟨⟨a, b⟩, c, d⟩, e, f⟩; exact ⟨⟨a, b⟩, ⟨c, d⟩, e, f⟩
 ·rintro ⟨⟨a, b⟩, ⟨c, d⟩, e, f⟩; exact ⟨⟨⟨a, b⟩, c, d⟩, e, f⟩
end
open Plain Br
section
theorem join_len (s : T) (M : Nat) : ∀ ls : List T, (∀ a ∈ ls, a.length ≤ M) → (join s ls).length ≤ ls.length * (M + s.length)
 | [], _ => by simp [join]
 | [a], h => by have := h a (by simp); simp [join]; omega
 | a :: b :: r, h => by
  have h1 := h a (by simp)
  have h2 := join_len s M (b :: r) (fun x hx => h x (by simp at hx ⊢; right; exact hx))
  show (a ++ s ++ join s (b :: r)).length ≤ ((b :: r).length + 1) * (M + s.length)
  rw [List.length_append, List.length_append, Nat.add_mul]
  omega
theorem rdOf_B (ls : List T) (j : Nat) (h : j < ls.length) : rdOf ByteArray.empty (ls.map B) (j : Int) = B ls[j] := by
 unfold rdOf
 rw [Int.toNat_natCast, List.getD_eq_getElem?_getD, List.getElem?_map, List.getElem?_eq_getElem h]
 rfl
theorem join_take (s : T) (ls : List T) (j : Nat) (h : j < ls.length) : join s (ls.take (j + 1)) = if j = 0 then ls[j] else join s (ls.take j) ++ s ++ ls[j] := by
 rw [List.take_succ_eq_append_getElem h]
 split
 ·rename_i h0
  subst h0
  rfl
 ·rw [join_snoc s (by intro e; rw [List.take_eq_nil_iff] at e; rcases e with e | e; omega; rw [e] at h; simp at h)]
theorem impl_joined_l0 (s : T) (ls : List T) (M : Nat) (hM : M ≤ 1000000000) (hs : s.length ≤ 1000) (hl : ls.length ≤ 1000000) (h : ∀ a ∈ ls, a.length ≤ M) : ∀ (d j : Nat), ls.length - j = d → j ≤ ls.length →
  Ev (fun k => impl_joined.l0 k (B s) (B (join s (ls.take j))) (ls.map B) (ls.length : Int) (j : Int)) (B (join s ls)) := by
 intro d
 induction d with
 | zero =>
  intro j hd hj
  obtain rfl : j = ls.length := by omega
  refine Ev.succ ?_
  have c1 : ¬ ((ls.length : Int) < (ls.length : Int)) := by omega
  simp only [impl_joined.l0, c1, if_false, List.take_length]
  exact Ev.val rfl
 | succ d ih =>
  intro j hd hj
  have hj' : j < ls.length := by omega
  refine Ev.succ ?_
  have c1 : (j : Int) < (ls.length : Int) := by omega
  have c2 : (0 : Int) ≤ (j : Int) := by omega
  have c3 : (j : Int) < ((ls.map B).length : Int) := by rw [List.length_map]; omega
  have hb := join_len s M (ls.take j) (fun a ha => h a (List.mem_of_mem_take ha))
  have ha := h ls[j] (List.getElem_mem _)
  have hb2 : (join s (ls.take j)).length ≤ 1000000 * 1000001000 := Nat.le_trans hb (Nat.mul_le_mul (by rw [List.length_take]; omega) (by omega))
  have := ih (j + 1) (by omega) (by omega)
  rw [join_take s ls j hj'] at this
  by_cases h0 : j = 0
  ·subst h0
   have c4 : ¬ (((0 : Nat) : Int) > 0) := by omega
   have c5 : (B (join s (ls.take 0))).size + (B ls[0]).size ≤ 9223372036854775807 := by rw [size_B, size_B]; omega
   simp only [impl_joined.l0, c1, c2, c3, c4, if_true, if_false, rdOf_B ls 0 hj', c5, B_append, succ64 0 (by omega)]
   simpa [join] using this
  ·have c4 : ((j : Nat) : Int) > 0 := by omega
   have c5 : (B (join s (ls.take j))).size + (B s).size ≤ 9223372036854775807 := by rw [size_B, size_B]; omega
   have c6 : (B (join s (ls.take j) ++ s)).size + (B ls[j]).size ≤ 9223372036854775807 := by rw [size_B, size_B, List.length_append]; omega
   simp only [impl_joined.l0, c1, c2, c3, c4, if_true, rdOf_B ls j hj', c5, B_append, c6, succ64 j (by omega)]
   rw [if_neg h0] at this
   exact this
theorem impl_joined_ev (s : T) (ls : List T) (M : Nat) (hM : M ≤ 1000000000) (hs : s.length ≤ 1000) (hl : ls.length ≤ 1000000) (h : ∀ a ∈ ls, a.length ≤ M) :
  Ev (fun k => impl_joined.f k (ls.map B) (B s)) (B (join s ls)) := by
 have := impl_joined_l0 s ls M hM hs hl h ls.length 0 (by omega) (by omega)
 simpa [impl_joined.f, join, B_nil] using this

end
open Plain Br
section
theorem and255 (a : Int) : 0 ≤ Go.bits .and .i64 a 255 ∧ Go.bits .and .i64 a 255 ≤ 255 := by
 have h : ((BitVec.ofInt 64 a) &&& (BitVec.ofInt 64 255)).toNat ≤ 255 := by
  rw [BitVec.toNat_and]
  exact Nat.le_trans Nat.and_le_right (by decide)
 have e : Go.bits .and .i64 a 255 = wrap64 ((((BitVec.ofInt 64 a) &&& (BitVec.ofInt 64 255)).toNat : Nat) : Int) := i64_w _
 rw [e, w64 (by omega) (by omega)]
 omega
def Cur (b : List Int) (i : Int) : Prop := 0 ≤ i ∧ b.length ≤ 140737488355328
theorem l1Byte_ok (b : List Int) (i h : Int) (c : Cur b i) : ∃ x i' h', spec_l1Byte.f b i h = some (x, i', h') ∧ Cur b i' ∧ 0 ≤ x ∧ x ≤ 255 := by
 obtain ⟨h0, hb⟩ := c
 unfold spec_l1Byte.f
 by_cases hi : i < (b.length : Int)
 ·rw [if_pos hi, if_pos h0]
  exact ⟨_, _, _, rfl, ⟨by rw [w64 (by omega) (by omega)]; omega, hb⟩, and255 _⟩
 ·rw [if_neg hi]
  exact ⟨_, _, _, rfl, ⟨h0, hb⟩, and255 _⟩
theorem tmod_lt {x n : Int} (h0 : 0 ≤ x) (hn : 0 < n) : 0 ≤ Int.tmod x n ∧ Int.tmod x n < n := by
 rw [Int.tmod_eq_emod_of_nonneg h0]
 exact ⟨Int.emod_nonneg _ (by omega), Int.emod_lt_of_pos _ hn⟩
theorem l1Below_ok (b : List Int) (i h n : Int) (c : Cur b i) (hn : n ≤ 256) : ∃ x i' h', spec_l1Below.f b i h n = some (x, i', h') ∧ Cur b i' ∧ 0 ≤ x ∧ (0 < n → x < n) ∧ (n ≤ 0 → x = 0) := by
 unfold spec_l1Below.f
 by_cases h0 : n ≤ 0
 ·rw [if_pos h0]
  exact ⟨_, _, _, rfl, c, Int.le_refl _, fun h => by omega, fun _ => rfl⟩
 ·rw [if_neg h0, if_pos hn]
  obtain ⟨x, i', h', e, c', x0, x1⟩ := l1Byte_ok b i h c
  rw [e, Option.bind_some, if_neg (by omega)]
  have := tmod_lt x0 (show 0 < n by omega)
  exact ⟨_, _, _, rfl, c', this.1, fun _ => this.2, fun h => by omega⟩
theorem l1Once_ok (b : List Int) (i h n : Int) (c : Cur b i) (hn : n ≤ 256) : ∃ x i' h', spec_l1Once.f b i h n = some (x, i', h') ∧ Cur b i' := by
 unfold spec_l1Once.f
 obtain ⟨x, i', h', e, c', _⟩ := l1Below_ok b i h n c hn
 rw [e, Option.bind_some]
 exact ⟨_, _, _, rfl, c'⟩
theorem rd_mem (l : List Int) (x : Int) (h0 : 0 ≤ x) (h1 : x < (l.length : Int)) : rd l x ∈ l := by
 have h : x.toNat < l.length := by omega
 unfold rd
 rw [List.getD_eq_getElem?_getD, List.getElem?_eq_getElem h]
 exact List.getElem_mem h
theorem l1PickInt_ok (b : List Int) (i h : Int) (l : List Int) (c : Cur b i) (hl : l ≠ []) (hn : l.length ≤ 256) : ∃ x i' h', spec_l1PickInt.f b i h l = some (x, i', h') ∧ Cur b i' ∧ x ∈ l := by
 unfold spec_l1PickInt.f
 have hp : 0 < l.length := List.length_pos_iff.2 hl
 obtain ⟨x, i', h', e, c', x0, x1, _⟩ := l1Below_ok b i h (l.length : Int) c (by omega)
 have x1 := x1 (by omega)
 rw [e, Option.bind_some, if_pos x0, if_pos x1]
 exact ⟨_, _, _, rfl, c', rd_mem l x x0 x1⟩
theorem l2Row_ok (b : List Int) (i h n : Int) (c : Cur b i) (hn : n ≤ 256) : ∃ x y z i' h', spec_l2Row.f b i h n = some (x, y, z, i', h') ∧ Cur b i' ∧ 0 ≤ x ∧ (0 < n → x < n) ∧ 0 ≤ y ∧ y < 100 ∧ 0 ≤ z ∧ z ≤ 3 := by
 unfold spec_l2Row.f
 obtain ⟨x, i1, h1, e1, c1, x0, x1, _⟩ := l1Below_ok b i h n c hn
 rw [e1, Option.bind_some]
 obtain ⟨y, i2, h2, e2, c2, y0, y1, _⟩ := l1Below_ok b i1 h1 100 c1 (by omega)
 rw [e2, Option.bind_some]
 obtain ⟨z, i3, h3, e3, c3, hz⟩ := l1PickInt_ok b i2 h2 [0, 0, 1, 2, 3] c2 (by simp) (by simp)
 rw [e3, Option.bind_some]
 simp only [List.mem_cons, List.not_mem_nil, or_false] at hz
 exact ⟨_, _, _, _, _, rfl, c3, x0, x1, y0, y1 (by omega), by omega, by omega⟩
def smallRow (r : Row) : Prop := -1 ≤ r.f0 ∧ r.f0 ≤ 100 ∧ -1 ≤ r.f1 ∧ r.f1 ≤ 100 ∧ -1 ≤ r.f2 ∧ r.f2 ≤ 100
theorem smallRow_of {r : Row} (h : vRow r = true) : smallRow r := by
 have := (vRow_iff r).1 h
 unfold smallRow
 omega
theorem l2Any_ok (b : List Int) (i h : Int) (c : Cur b i) : ∃ x y z i' h', spec_l2Any.f b i h = some (x, y, z, i', h') ∧ Cur b i' ∧ smallRow ⟨x, y, z⟩ := by
 unfold spec_l2Any.f smallRow
 obtain ⟨x, y, z, i1, h1, e1, c1, x0, x1, y0, y1, z0, z1⟩ := l2Row_ok b i h 10 c (by omega)
 have x1 := x1 (by omega)
 rw [e1, Option.bind_some]
 obtain ⟨q, i2, h2, e2, c2, _⟩ := l1Below_ok b i1 h1 8 c1 (by omega)
 simp only [e2, Option.bind_some]
 split
 ·obtain ⟨u, i3, h3, e3, c3, hu⟩ := l1PickInt_ok b i2 h2 [-1, 10] c2 (by simp) (by simp)
  rw [e3, Option.bind_some]
  simp only [List.mem_cons, List.not_mem_nil, or_false] at hu
  exact ⟨_, _, _, _, _, rfl, c3, by dsimp only; omega⟩
 ·split
  ·obtain ⟨u, i3, h3, e3, c3, hu⟩ := l1PickInt_ok b i2 h2 [-1, 100, 99] c2 (by simp) (by simp)
   rw [e3, Option.bind_some]
   simp only [List.mem_cons, List.not_mem_nil, or_false] at hu
   exact ⟨_, _, _, _, _, rfl, c3, by dsimp only; omega⟩
  ·split
   ·obtain ⟨u, i3, h3, e3, c3, hu⟩ := l1PickInt_ok b i2 h2 [-1, 4] c2 (by simp) (by simp)
    rw [e3, Option.bind_some]
    simp only [List.mem_cons, List.not_mem_nil, or_false] at hu
    exact ⟨_, _, _, _, _, rfl, c3, by dsimp only; omega⟩
   ·exact ⟨_, _, _, _, _, rfl, c2, by first | omega | (dsimp only; omega)⟩
theorem l2Rows_l0 (b : List Int) (keys : Int) (hk0 : 1 ≤ keys) (hk : keys ≤ 10) : ∀ (n : Nat) (xs : List Row) (i h : Int), Cur b i → xs.length + n ≤ 1000 → (∀ r ∈ xs, vRow r = true) →
  ∃ ys i' h', Ev (fun k => spec_l2Rows.l0 k xs keys (n : Int) b i h) (ys, i', h') ∧ Cur b i' ∧ ys.length = xs.length + n ∧ ∀ r ∈ ys, vRow r = true
 | 0, xs, i, h, c, _, hv => ⟨xs, i, h, by
   refine Ev.succ ?_
   simp only [spec_l2Rows.l0, show ¬ (((0 : Nat) : Int) > 0) from by omega, if_false]
   exact Ev.val rfl, c, rfl, hv⟩
 | n + 1, xs, i, h, c, hl, hv => by
  obtain ⟨x, y, z, i1, h1, e1, c1, p1, p2, p3, p4, p5, p6⟩ := l2Row_ok b i h keys c (by omega)
  obtain ⟨ys, i2, h2, E, c2, l2, v2⟩ := l2Rows_l0 b keys hk0 hk n (xs ++ [⟨x, y, z⟩]) i1 h1 c1 (by rw [List.length_append, List.length_singleton]; omega) (by
   intro r hr
   rcases List.mem_append.1 hr with hr | hr
   ·exact hv r hr
   ·rw [List.mem_singleton.1 hr, vRow_iff]
    have := p2 (by omega)
    dsimp only
    omega)
  refine ⟨ys, i2, h2, ?_, c2, by rw [l2, List.length_append, List.length_singleton]; omega, v2⟩
  refine Ev.succ ?_
  have c1 : ((n + 1 : Nat) : Int) > 0 := by omega
  have c2 : wrap64 (((n + 1 : Nat) : Int) - 1) = (n : Int) := by rw [w64 (by omega) (by omega)]; omega
  have c3 : xs.length < 5864062014805 := by omega
  simp only [spec_l2Rows.l0, c1, c2, c3, if_true, e1, Option.bind_some]
  exact E
theorem l2Rows_ok (b : List Int) (i h : Int) (m : Nat) (hm : m ≤ 200) (c : Cur b i) : ∃ ys i' h', Ev (fun k => spec_l2Rows.f k b i h (m : Int)) (ys, i', h') ∧ Cur b i' ∧ ys.length ≤ m ∧ ∀ r ∈ ys, vRow r = true := by
 obtain ⟨keys, i1, h1, e1, c1, hk⟩ := l1PickInt_ok b i h [1, 2, 4, 10] c (by simp) (by simp)
 simp only [List.mem_cons, List.not_mem_nil, or_false] at hk
 obtain ⟨n, i2, h2, e2, c2, n0, n1, _⟩ := l1Below_ok b i1 h1 ((m : Int) + 1) c1 (by omega)
 have n1 := n1 (by omega)
 obtain ⟨q, rfl⟩ : ∃ q : Nat, n = (q : Int) := ⟨n.toNat, by omega⟩
 obtain ⟨ys, i3, h3, E, c3, l3, v3⟩ := l2Rows_l0 b keys (by omega) (by omega) q [] i2 h2 c2 (by simp; omega) (by simp)
 refine ⟨ys, i3, h3, ?_, c3, by rw [l3]; simp; omega, v3⟩
 have w : wrap64 ((m : Int) + 1) = (m : Int) + 1 := w64 (by omega) (by omega)
 simp only [spec_l2Rows.f, w, e1, e2, Option.bind_some]
 exact E
theorem l2Bent_ok (b : List Int) (i h : Int) (m : Nat) (hm : m ≤ 200) (c : Cur b i) : ∃ ys i' h', Ev (fun k => spec_l2Bent.f k b i h (m : Int)) (ys, i', h') ∧ Cur b i' ∧ ys.length ≤ m + 1 ∧ ∀ r ∈ ys, smallRow r := by
 obtain ⟨ys, i1, h1, E, c1, l1, v1⟩ := l2Rows_ok b i h m hm c
 obtain ⟨q, i2, h2, e2, c2⟩ := l1Once_ok b i1 h1 14 c1 (by omega)
 cases q
 ·refine ⟨ys, i2, h2, ?_, c2, by omega, fun r hr => smallRow_of (v1 r hr)⟩
  unfold spec_l2Bent.f
  refine Ev.then E ?_
  simp only [e2, Option.bind_some, Bool.false_eq_true, if_false]
  exact Ev.val rfl
 ·obtain ⟨x, y, z, i3, h3, e3, c3, s3⟩ := l2Any_ok b i2 h2 c2
  refine ⟨ys ++ [⟨x, y, z⟩], i3, h3, ?_, c3, by rw [List.length_append, List.length_singleton]; omega, ?_⟩
  ·unfold spec_l2Bent.f
   refine Ev.then E ?_
   have c0 : ys.length < 5864062014805 := by omega
   simp only [e2, e3, Option.bind_some, if_true, c0]
   exact Ev.val rfl
  ·intro r hr
   rcases List.mem_append.1 hr with hr | hr
   ·exact smallRow_of (v1 r hr)
   ·rw [List.mem_singleton.1 hr]; exact s3
theorem l1New_l0 (b : List Int) (hb : b.length ≤ 140737488355328) : ∀ (d j : Nat) (h : Int), b.length - j = d → j ≤ b.length → ∃ h', Ev (fun k => spec_l1New.l0 k b h (j : Int)) (b, 0, h')
 | 0, j, h, hd, hj => ⟨h, by
   refine Ev.succ ?_
   simp only [spec_l1New.l0, show ¬ ((j : Int) < (b.length : Int)) from by omega, if_false]
   exact Ev.val rfl⟩
 | d + 1, j, h, hd, hj => by
  have c1 : (j : Int) < (b.length : Int) := by omega
  by_cases q : (j : Int) < 4000
  ·obtain ⟨h', E⟩ := l1New_l0 b hb d (j + 1) (Go.bits .and .i64 (wrap64 ((wrap64 ((wrap64 (h * 131)) + (wrap64 (rd b (j : Int))))) + 7)) 1073741823) (by omega) (by omega)
   refine ⟨h', Ev.succ ?_⟩
   have c2 : (0 : Int) ≤ (j : Int) := by omega
   simp only [spec_l1New.l0, c1, c2, q, if_true, succ64 j (by omega)]
   exact E
  ·refine ⟨h, Ev.succ ?_⟩
   simp only [spec_l1New.l0, c1, q, if_true, if_false]
   exact Ev.val rfl
theorem l1New_ok (b : List Int) (hb : b.length ≤ 140737488355328) : ∃ h', Ev (fun k => spec_l1New.f k b) (b, 0, h') := by
 unfold spec_l1New.f
 exact l1New_l0 b hb b.length 0 _ (by omega) (by omega)
theorem cur0 {b : List Int} (hb : b.length ≤ 140737488355328) : Cur b 0 := ⟨Int.le_refl _, hb⟩
end
open Plain Br
section
abbrev Grp := S60
abbrev RR := S62
def inR (n : Int) : Prop := -9223372036854775808 ≤ n ∧ n ≤ 9223372036854775807
def okG (g : Grp) : Prop := inR g.f0 ∧ inR g.f1 ∧ inR g.f2 ∧ inR g.f3 ∧ inR g.f4
theorem wrap_in (n : Int) : inR (wrap64 n) := by unfold inR wrap64; omega
def cmb (a b : Grp) : Grp := if a.f0 = b.f0 then ⟨a.f0, wrap64 (a.f1 + b.f1), wrap64 (a.f2 + b.f2), mn a.f3 b.f3, mx a.f4 b.f4⟩ else a
theorem cmb_key (a b : Grp) : (cmb a b).f0 = a.f0 := by unfold cmb; split <;> rfl
theorem cmb_ne {a b : Grp} (h : a.f0 ≠ b.f0) : cmb a b = a := by unfold cmb; rw [if_neg h]
theorem mn_in {a b : Int} (h : inR a) (k : inR b) : inR (mn a b) := by unfold mn; split <;> assumption
theorem mx_in {a b : Int} (h : inR a) (k : inR b) : inR (mx a b) := by unfold mx; split <;> assumption
theorem cmb_ok {a b : Grp} (h : okG a) (k : okG b) : okG (cmb a b) := by
 unfold cmb
 split
 ·exact ⟨h.1, wrap_in _, wrap_in _, mn_in h.2.2.2.1 k.2.2.2.1, mx_in h.2.2.2.2 k.2.2.2.2⟩
 ·exact h
theorem impl_Combine_eq (a b : Grp) : impl_CombineGroups.f a.f0 a.f1 a.f2 a.f3 a.f4 b.f0 b.f1 b.f2 b.f3 b.f4 = some ((cmb a b).f0, (cmb a b).f1, (cmb a b).f2, (cmb a b).f3, (cmb a b).f4) := by
 unfold impl_CombineGroups.f cmb
 by_cases h : a.f0 = b.f0 <;> simp only [h, if_true, if_false]
theorem spec_Combine_eq (a b : Grp) : spec_CombineGroups.f a.f0 a.f1 a.f2 a.f3 a.f4 b.f0 b.f1 b.f2 b.f3 b.f4 = some ((cmb a b).f0, (cmb a b).f1, (cmb a b).f2, (cmb a b).f3, (cmb a b).f4) := by
 unfold spec_CombineGroups.f cmb
 by_cases h : a.f0 = b.f0 <;> simp only [h, if_true, if_false]
def keys (l : List Grp) : List Int := l.map (·.f0)
theorem set_eq_map {l : List Grp} {g : Grp} {i : Nat} (hd : (keys l).Nodup) (hi : i < l.length) (hk : l[i].f0 = g.f0) : l.set i (cmb l[i] g) = l.map (fun e => cmb e g) := by
 refine List.ext_getElem (by simp) ?_
 intro j h1 h2
 have hj : j < l.length := by simpa using h1
 rw [List.getElem_set, List.getElem_map]
 split
 ·rename_i q; subst q; rfl
 ·rename_i q
  have hne : l[j].f0 ≠ g.f0 := by
   intro e
   have : (keys l)[i]'(by simpa [keys] using hi) = (keys l)[j]'(by simpa [keys] using hj) := by simp [keys, hk, e]
   exact q ((List.getElem_inj hd).1 this)
  rw [cmb_ne hne]
def imStep (out : List Grp) (g : Grp) : List Grp := match (keys out).findIdx? (· == g.f0) with
 | some i => out.set i (cmb (out.getD i z60) g)
 | none => out ++ [g]
def smPos (S : List Grp) (key : Int) : Nat → Nat → Nat
 | 0, j => j
 | d + 1, j => if (S.getD j z60).f0 < key then smPos S key d (j + 1) else j
def smAt (S : List Grp) (g : Grp) (p : Nat) : List Grp := if p < S.length ∧ (S.getD p z60).f0 = g.f0 then S.set p (cmb (S.getD p z60) g) else S.take p ++ (g :: S.drop p)
def smStep (S : List Grp) (g : Grp) : List Grp := smAt S g (smPos S g.f0 S.length 0)
def mrg (gs : List Grp) : List Grp := gs.foldl smStep []
theorem getD_get {l : List Grp} {i : Nat} (h : i < l.length) : l.getD i z60 = l[i] := by rw [List.getD_eq_getElem?_getD, List.getElem?_eq_getElem h]; rfl
theorem smPos_spec (S : List Grp) (key : Int) : ∀ d j, d + j = S.length → (∀ i, i < j → (S.getD i z60).f0 < key) → smPos S key d j ≤ S.length ∧ (∀ i, i < smPos S key d j → (S.getD i z60).f0 < key) ∧ (smPos S key d j < S.length → key ≤ (S.getD (smPos S key d j) z60).f0)
 | 0, j, h, hj => ⟨by unfold smPos; omega, hj, fun q => by unfold smPos at q; omega⟩
 | d + 1, j, h, hj => by
  unfold smPos
  by_cases q : (S.getD j z60).f0 < key
  ·rw [if_pos q]
   refine smPos_spec S key d (j + 1) (by omega) ?_
   intro i hi
   by_cases e : i = j
   ·subst e; exact q
   ·exact hj i (by omega)
  ·rw [if_neg q]
   exact ⟨by omega, hj, fun _ => by omega⟩
structure Both (S I : List Grp) : Prop where
 perm : I.Perm S
 asc : S.Pairwise (fun a b => a.f0 < b.f0)
theorem Both.nodupS {S I : List Grp} (h : Both S I) : (keys S).Nodup := by
 unfold keys List.Nodup
 rw [List.pairwise_map]
 exact h.asc.imp (fun h => by omega)
theorem Both.nodupI {S I : List Grp} (h : Both S I) : (keys I).Nodup := by
 have := h.nodupS
 unfold keys at this ⊢
 exact (List.Perm.nodup_iff (h.perm.map _)).2 this
theorem imStep_cases {I : List Grp} (hd : (keys I).Nodup) (g : Grp) : (g.f0 ∈ keys I ∧ imStep I g = I.map (fun e => cmb e g)) ∨ (g.f0 ∉ keys I ∧ imStep I g = I ++ [g]) := by
 unfold imStep
 cases e : (keys I).findIdx? (· == g.f0) with
 | none =>
  right
  rw [List.findIdx?_eq_none_iff] at e
  exact ⟨fun hm => by have := e _ hm; simp at this, rfl⟩
 | some i =>
  left
  obtain ⟨hi, hp, _⟩ := List.findIdx?_eq_some_iff_getElem.1 e
  have hi' : i < I.length := by simpa [keys] using hi
  have hk : I[i].f0 = g.f0 := by simpa [keys] using hp
  refine ⟨List.mem_map.2 ⟨I[i], List.getElem_mem _, hk⟩, ?_⟩
  show I.set i (cmb (I.getD i z60) g) = _
  rw [getD_get hi']
  exact set_eq_map hd hi' hk
theorem smStep_cases {S : List Grp} (ha : S.Pairwise (fun a b => a.f0 < b.f0)) (hd : (keys S).Nodup) (g : Grp) : (g.f0 ∈ keys S ∧ smStep S g = S.map (fun e => cmb e g)) ∨ (g.f0 ∉ keys S ∧ (smStep S g).Perm (S ++ [g]) ∧ (smStep S g).Pairwise (fun a b => a.f0 < b.f0)) := by
 obtain ⟨p1, p2, p3⟩ := smPos_spec S g.f0 S.length 0 (by omega) (fun i hi => absurd hi (Nat.not_lt_zero i))
 unfold smStep smAt
 generalize smPos S g.f0 S.length 0 = p at p1 p2 p3
 by_cases q : p < S.length ∧ (S.getD p z60).f0 = g.f0
 ·rw [if_pos q]
  left
  obtain ⟨q1, q2⟩ := q
  rw [getD_get q1] at q2 ⊢
  exact ⟨List.mem_map.2 ⟨S[p], List.getElem_mem _, q2⟩, set_eq_map hd q1 q2⟩
 ·rw [if_neg q]
  right
  have hi : ∀ i (h : i < S.length), p ≤ i → g.f0 < S[i].f0 := by
   intro i h hp
   have hpl : p < S.length := by omega
   have h3 := p3 hpl
   rw [getD_get hpl] at h3 q
   have hne : S[p].f0 ≠ g.f0 := fun e => q ⟨hpl, e⟩
   by_cases e : p = i
   ·subst e; omega
   ·have := List.pairwise_iff_getElem.1 ha p i hpl h (by omega)
    omega
  have hlo : ∀ i (h : i < S.length), i < p → S[i].f0 < g.f0 := by
   intro i h hp
   have := p2 i hp
   rwa [getD_get h] at this
  refine ⟨?_, ?_, ?_⟩
  ·intro hm
   obtain ⟨e, he, hk⟩ := List.mem_map.1 hm
   obtain ⟨i, h, rfl⟩ := List.mem_iff_getElem.1 he
   by_cases hp : p ≤ i
   ·have := hi i h hp; omega
   ·have := hlo i h (by omega); omega
  ·have h1 := @List.perm_middle _ g (S.take p) (S.drop p)
   rw [List.take_append_drop] at h1
   exact h1.trans (List.perm_append_comm (l₁ := [g]) (l₂ := S))
  ·have h' : (S.take p ++ S.drop p).Pairwise (fun a b => a.f0 < b.f0) := by rw [List.take_append_drop]; exact ha
   obtain ⟨a1, a2, a3⟩ := List.pairwise_append.1 h'
   rw [List.pairwise_append]
   refine ⟨a1, List.pairwise_cons.2 ⟨?_, a2⟩, ?_⟩
   ·intro y hy
    obtain ⟨i, h, rfl⟩ := List.mem_iff_getElem.1 hy
    rw [List.length_drop] at h
    rw [List.getElem_drop]
    exact hi _ (by omega) (by omega)
   ·intro x hx y hy
    obtain ⟨i, h, rfl⟩ := List.mem_iff_getElem.1 hx
    rw [List.length_take] at h
    rw [List.getElem_take]
    rcases List.mem_cons.1 hy with rfl | hy
    ·exact hlo i (by omega) (by omega)
    ·have := hlo i (by omega) (by omega)
     obtain ⟨j, hj, rfl⟩ := List.mem_iff_getElem.1 hy
     rw [List.length_drop] at hj
     rw [List.getElem_drop]
     have := hi (p + j) (by omega) (by omega)
     omega
theorem both_step {S I : List Grp} (h : Both S I) (g : Grp) : Both (smStep S g) (imStep I g) := by
 have hm : g.f0 ∈ keys I ↔ g.f0 ∈ keys S := (h.perm.map (·.f0)).mem_iff
 rcases imStep_cases h.nodupI g with ⟨m1, e1⟩ | ⟨m1, e1⟩
 ·rcases smStep_cases h.asc h.nodupS g with ⟨m2, e2⟩ | ⟨m2, _⟩
  ·rw [e1, e2]
   refine ⟨h.perm.map _, ?_⟩
   rw [List.pairwise_map]
   exact h.asc.imp (fun q => by rw [cmb_key, cmb_key]; exact q)
  ·exact absurd (hm.1 m1) m2
 ·rcases smStep_cases h.asc h.nodupS g with ⟨m2, e2⟩ | ⟨m2, p2, a2⟩
  ·exact absurd (hm.2 m2) m1
  ·rw [e1]
   exact ⟨(h.perm.append_right [g]).trans p2.symm, a2⟩
theorem both_fold : ∀ (gs : List Grp) {S I : List Grp}, Both S I → Both (gs.foldl smStep S) (gs.foldl imStep I)
 | [], _, _, h => h
 | g :: gs, _, _, h => both_fold gs (both_step h g)
theorem both_mrg (gs : List Grp) : Both (mrg gs) (gs.foldl imStep []) := both_fold gs ⟨List.Perm.refl _, List.Pairwise.nil⟩
theorem sort_mrg (gs : List Grp) : mgSort (gs.foldl imStep []) = mrg gs := by
 have h := both_mrg gs
 exact (mgSort_unique h.nodupI h.perm.symm (h.asc.imp (fun q => by omega))).symm
theorem smStep_len (S : List Grp) (g : Grp) : (smStep S g).length ≤ S.length + 1 := by
 unfold smStep smAt
 split
 ·rw [List.length_set]; omega
 ·rw [List.length_append, List.length_cons, List.length_take, List.length_drop]; omega
theorem fold_len : ∀ (gs S : List Grp), (gs.foldl smStep S).length ≤ S.length + gs.length
 | [], S => by simp
 | g :: gs, S => by
  have h1 := fold_len gs (smStep S g)
  have h2 := smStep_len S g
  rw [List.foldl_cons, List.length_cons]
  omega
theorem mrg_len (gs : List Grp) : (mrg gs).length ≤ gs.length := by have := fold_len gs []; simpa [mrg] using this
theorem smStep_mem {P : Grp → Prop} (hc : ∀ a b, P a → P b → P (cmb a b)) {S : List Grp} {g : Grp} (hS : ∀ x ∈ S, P x) (hg : P g) : ∀ x ∈ smStep S g, P x := by
 intro x hx
 unfold smStep smAt at hx
 split at hx
 ·rename_i q
  rcases List.mem_or_eq_of_mem_set hx with h | h
  ·exact hS x h
  ·rw [h, getD_get q.1]
   exact hc _ _ (hS _ (List.getElem_mem _)) hg
 ·rcases List.mem_append.1 hx with h | h
  ·exact hS x (List.mem_of_mem_take h)
  ·rcases List.mem_cons.1 h with h | h
   ·rw [h]; exact hg
   ·exact hS x (List.mem_of_mem_drop h)
theorem fold_mem {P : Grp → Prop} (hc : ∀ a b, P a → P b → P (cmb a b)) : ∀ (gs S : List Grp), (∀ x ∈ S, P x) → (∀ x ∈ gs, P x) → ∀ x ∈ gs.foldl smStep S, P x
 | [], S, hS, _ => hS
 | g :: gs, S, hS, hg => fold_mem hc gs (smStep S g) (smStep_mem hc hS (hg g (by simp))) (fun x hx => hg x (by simp [hx]))
theorem mrg_ok {gs : List Grp} (h : ∀ x ∈ gs, okG x) : ∀ x ∈ mrg gs, okG x := fold_mem (fun _ _ => cmb_ok) gs [] (by simp) h

theorem wf64 {n : Int} (h : inR n) : (Lit.int .i64 n).wf = true := by
 simp [Lit.wf, IntKind.min, IntKind.max, IntKind.signed, IntKind.bits]
 exact h
theorem rd_grp (xs : List Grp) (j : Nat) (h : j < xs.length) : rd_T60 xs (j : Int) = xs[j] := by
 unfold rd_T60
 rw [Int.toNat_natCast]
 exact getD_get h
theorem rdg_at {L a : List Grp} {x : Grp} {b : List Grp} (h : a ++ x :: b = L) : rd_T60 L (a.length : Int) = x ∧ (a.length : Int) < (L.length : Int) ∧ (0 : Int) ≤ (a.length : Int) := by
 subst h
 refine ⟨?_, by rw [List.length_append, List.length_cons]; omega, by omega⟩
 rw [rd_grp _ _ (by rw [List.length_append, List.length_cons]; omega)]
 simp
theorem snocG_len {α : Type} (a : List α) (x : α) : (a ++ [x]).length = a.length + 1 := by simp
theorem snocG_eq {α : Type} {a : List α} {x : α} {b L : List α} (h : a ++ x :: b = L) : (a ++ [x]) ++ b = L := by rw [← h]; simp
theorem endG {α : Type} {L a : List α} (h : a ++ [] = L) : ¬ ((a.length : Int) < (L.length : Int)) := by rw [← h, List.append_nil]; omega
theorem imStep_len (S : List Grp) (g : Grp) : (imStep S g).length ≤ S.length + 1 := by
 unfold imStep
 split
 ·rw [List.length_set]; omega
 ·rw [List.length_append, List.length_singleton]; omega
theorem imStep_some {S : List Grp} {g : Grp} {i : Nat} (h : (keys S).findIdx? (· == g.f0) = some i) : imStep S g = S.set i (cmb (S.getD i z60) g) := by unfold imStep; rw [h]
theorem imStep_none {S : List Grp} {g : Grp} (h : (keys S).findIdx? (· == g.f0) = none) : imStep S g = S ++ [g] := by unfold imStep; rw [h]
theorem impl_Merge_l0 (L : List Grp) (hL : L.length ≤ 10000000) : ∀ (b a out : List Grp), a ++ b = L → (∀ x ∈ b, inR x.f0) → out.length + b.length ≤ 10000000 →
  Ev (fun k => impl_MergeGroups.l0 k out L (L.length : Int) (a.length : Int)) (b.foldl imStep out)
 | [], a, out, h, _, _ => by
  refine Ev.succ ?_
  simp only [impl_MergeGroups.l0, endG h, if_false]
  exact Ev.val rfl
 | g :: b, a, out, h, hk, hl => by
  obtain ⟨e, c1, c2⟩ := rdg_at h
  rw [List.length_cons] at hl
  have hs := imStep_len out g
  have ih := impl_Merge_l0 L hL b (a ++ [g]) (imStep out g) (snocG_eq h) (fun x hx => hk x (by simp [hx])) (by omega)
  rw [snocG_len] at ih
  have ha : a.length < L.length := by omega
  refine Ev.succ ?_
  simp only [impl_MergeGroups.l0, c1, c2, if_true, e, mgIdx, wf64 (hk g (by simp)), succ64 a.length (by omega), List.foldl_cons]
  cases q : (keys out).findIdx? (· == g.f0) with
  | none =>
   have q' : (out.map (·.f0)).findIdx? (· == g.f0) = none := q
   rw [imStep_none q] at ih ⊢
   have c3 : out.length < 3518437208883 := by omega
   simp only [q', Option.bind_some, Bool.false_eq_true, if_false, c3, if_true]
   exact ih
  | some i =>
   have q' : (out.map (·.f0)).findIdx? (· == g.f0) = some i := q
   rw [imStep_some q] at ih ⊢
   obtain ⟨hi, _, _⟩ := List.findIdx?_eq_some_iff_getElem.1 q
   have hi' : i < out.length := by simpa [keys] using hi
   have c3 : (0 : Int) ≤ (i : Int) := by omega
   have c4 : (i : Int) < (out.length : Int) := by omega
   simp only [q', Option.bind_some, if_true, c3, c4, rd_grp out i hi', impl_Combine_eq, Int.toNat_natCast]
   rw [getD_get hi'] at ih ⊢
   exact ih
theorem impl_Merge_ev (gs : List Grp) (hl : gs.length ≤ 10000000) (hk : ∀ x ∈ gs, inR x.f0) : Ev (fun k => impl_MergeGroups.f k gs) (mrg gs) := by
 have h := impl_Merge_l0 gs hl gs [] [] rfl hk (by simp; omega)
 unfold impl_MergeGroups.f
 refine Ev.then h ?_
 have hp := (both_mrg gs).perm.length_eq
 have hm := mrg_len gs
 rw [if_pos (by omega), sort_mrg]
 exact Ev.val rfl
theorem spec_Merge_l1 (L S : List Grp) (g : Grp) (j : Nat) (hj : j < L.length) (hg : L[j] = g) (hL : L.length ≤ 10000000) (hS : S.length ≤ 10000000) (r : List Grp) : ∀ (d p : Nat), d + p = S.length →
  Ev (fun k => spec_MergeGroups.l0 k L (smAt S g (smPos S g.f0 d p)) ((j + 1 : Nat) : Int)) r →
  Ev (fun k => spec_MergeGroups.l1 k L S (j : Int) (p : Int)) r := by
 have c2 : (0 : Int) ≤ (j : Int) := by omega
 have c3 : (j : Int) < (L.length : Int) := by omega
 have fin : ∀ p : Nat, p ≤ S.length → ([g] : List Grp).length + (S.drop p).length < 3518437208883 ∧ ([] : List Grp).length + (S.take p).length < 3518437208883 ∧ (S.take p).length + ([g] ++ S.drop p).length < 3518437208883 := by
  intro p hp
  refine ⟨by rw [List.length_drop, List.length_singleton]; omega, by rw [List.length_take, List.length_nil]; omega, by rw [List.length_append, List.length_take, List.length_drop, List.length_singleton]; omega⟩
 intro d
 induction d with
 | zero =>
  intro p hp H
  obtain rfl : p = S.length := by omega
  obtain ⟨f1, f2, f3⟩ := fin S.length (Nat.le_refl _)
  unfold smPos smAt at H
  rw [if_neg (by omega)] at H
  refine Ev.succ ?_
  have c5 : (0 : Int) ≤ (S.length : Int) := by omega
  simp only [spec_MergeGroups.l1, show ¬ ((S.length : Int) < (S.length : Int)) from by omega, if_false, c2, c3, c5, if_true, rd_grp L j hj, hg, Option.bind_some, Int.le_refl, Int.toNat_natCast, f1, f2, f3, List.nil_append, succ64 j (by omega)]
  exact H
 | succ d ih =>
  intro p hp H
  have hpl : p < S.length := by omega
  have c5 : (0 : Int) ≤ (p : Int) := by omega
  have c6 : (p : Int) < (S.length : Int) := by omega
  have c7 : (p : Int) ≤ (S.length : Int) := by omega
  obtain ⟨f1, f2, f3⟩ := fin p (by omega)
  unfold smPos at H
  rw [getD_get hpl] at H
  refine Ev.succ ?_
  simp only [spec_MergeGroups.l1, c2, c3, c5, c6, if_true, rd_grp L j hj, rd_grp S p hpl, hg]
  by_cases q : S[p].f0 < g.f0
  ·rw [if_pos q] at H
   simp only [q, if_true, succ64 p (by omega)]
   exact ih (p + 1) (by omega) H
  ·rw [if_neg q] at H
   unfold smAt at H
   rw [getD_get hpl] at H
   simp only [q, if_false]
   by_cases e : S[p].f0 = g.f0
   ·rw [if_pos ⟨hpl, e⟩] at H
    simp only [if_pos e, spec_Combine_eq, Option.bind_some, Int.toNat_natCast, succ64 j (by omega)]
    exact H
   ·rw [if_neg (fun x => e x.2)] at H
    simp only [if_neg e, Option.bind_some, c7, if_true, Int.toNat_natCast, f1, f2, f3, List.nil_append, succ64 j (by omega)]
    exact H
theorem spec_Merge_l0 (L : List Grp) (hL : L.length ≤ 10000000) : ∀ (b a S : List Grp), a ++ b = L → S.length + b.length ≤ 10000000 →
  Ev (fun k => spec_MergeGroups.l0 k L S (a.length : Int)) (b.foldl smStep S)
 | [], a, S, h, _ => by
  refine Ev.succ ?_
  simp only [spec_MergeGroups.l0, endG h, if_false]
  exact Ev.val rfl
 | g :: b, a, S, h, hl => by
  obtain ⟨e, c1, c2⟩ := rdg_at h
  rw [List.length_cons] at hl
  have hs := smStep_len S g
  have ih := spec_Merge_l0 L hL b (a ++ [g]) (smStep S g) (snocG_eq h) (by omega)
  rw [snocG_len] at ih
  have ha : a.length < L.length := by omega
  have hg : L[a.length] = g := by subst h; simp
  refine Ev.succ ?_
  simp only [spec_MergeGroups.l0, c1, if_true, List.foldl_cons]
  exact spec_Merge_l1 L S g a.length ha hg hL (by omega) _ S.length 0 (by omega) ih
theorem spec_Merge_ev (gs : List Grp) (hl : gs.length ≤ 10000000) : Ev (fun k => spec_MergeGroups.f k gs) (mrg gs) := by
 have h := spec_Merge_l0 gs hl gs [] [] rfl (by simp; omega)
 simpa [spec_MergeGroups.f, mrg] using h
end
open Plain Br
section
def rk (key lev : Int) : Int := if lev = 0 then key else if lev = 1 then wrap64 (Int.tdiv key 5) else 0
def rekey (lev : Int) (g : Grp) : Grp := ⟨rk g.f0 lev, g.f1, g.f2, g.f3, g.f4⟩
def lv (gs : List Grp) (v : Int) : List RR := (mrg (gs.map (rekey v))).map fun g => ⟨v, g⟩
def roll (gs : List Grp) : List RR := lv gs 0 ++ (lv gs 1 ++ lv gs 2)
def gfr (r : Row) : Grp := ⟨r.f0, 1, r.f1, r.f1, r.f1⟩
def refG (l : List Row) : List Grp := mrg (l.map gfr)
theorem impl_RollupKey_eq (a b : Int) : impl_RollupKey.f a b = some (rk a b) := by
 unfold impl_RollupKey.f rk
 by_cases h : b = 0
 ·simp only [h, if_true]
 ·by_cases h1 : b = 1 <;> simp only [h, h1, if_true, if_false, show ¬ ((1 : Int) = 0) from by decide]
theorem spec_RollupKey_eq (a b : Int) : spec_RollupKey.f a b = some (rk a b) := by
 unfold spec_RollupKey.f rk
 by_cases h : b = 0
 ·simp only [h, if_true]
 ·by_cases h1 : b = 1 <;> simp only [h, h1, if_true, if_false, show ¬ ((1 : Int) = 0) from by decide]
theorem rk_in {a b : Int} (h : inR a) : inR (rk a b) := by
 unfold rk
 split
 ·exact h
 ·split
  ·exact wrap_in _
  ·unfold inR; omega
theorem rekey_ok {v : Int} {g : Grp} (h : okG g) : okG (rekey v g) := ⟨rk_in h.1, h.2⟩
theorem lv_len (gs : List Grp) (v : Int) : (lv gs v).length ≤ gs.length := by
 have := mrg_len (gs.map (rekey v))
 unfold lv
 rw [List.length_map]
 rw [List.length_map] at this
 exact this
theorem impl_roll_l2 (gs M : List Grp) (v : Nat) (hM : M.length ≤ 10000000) (r : List RR) : ∀ (b a : List Grp) (out : List RR), a ++ b = M → out.length + b.length ≤ 1000000000 →
  Ev (fun k => impl_RollupGroups.l0 k gs (out ++ b.map fun g => ⟨(v : Int), g⟩) (wrap64 ((v : Int) + 1))) r →
  Ev (fun k => impl_RollupGroups.l2 k gs out (v : Int) (v : Int) M (M.length : Int) (a.length : Int)) r
 | [], a, out, h, _, H => by
  refine Ev.succ ?_
  simp only [impl_RollupGroups.l2, endG h, if_false]
  simpa using H
 | g :: b, a, out, h, hl, H => by
  obtain ⟨e, c1, c2⟩ := rdg_at h
  rw [List.length_cons] at hl
  have ha : a.length < M.length := by omega
  have ih := impl_roll_l2 gs M v hM r b (a ++ [g]) (out ++ [⟨(v : Int), g⟩]) (snocG_eq h) (by rw [snocG_len]; omega) (by rw [List.append_assoc]; exact H)
  rw [snocG_len] at ih
  refine Ev.succ ?_
  have c3 : out.length < 2932031007402 := by omega
  simp only [impl_RollupGroups.l2, c1, c2, c3, if_true, e, succ64 a.length (by omega)]
  exact ih
theorem impl_roll_l1 (gs : List Grp) (v : Nat) (out : List RR) (hl : gs.length ≤ 10000000) (r : List RR) : ∀ (b a acc : List Grp), a ++ b = gs → acc.length + b.length ≤ 10000000 →
  Ev (fun k => (impl_MergeGroups.f k (acc ++ b.map (rekey (v : Int)))).bind fun t => impl_RollupGroups.l2 k gs out (v : Int) (v : Int) t (t.length : Int) 0) r →
  Ev (fun k => impl_RollupGroups.l1 k gs out (v : Int) acc (v : Int) gs (gs.length : Int) (a.length : Int)) r
 | [], a, acc, h, _, H => by
  refine Ev.succ ?_
  simp only [impl_RollupGroups.l1, endG h, if_false]
  simpa using H
 | g :: b, a, acc, h, hb, H => by
  obtain ⟨e, c1, c2⟩ := rdg_at h
  rw [List.length_cons] at hb
  have ha : a.length < gs.length := by omega
  have ih := impl_roll_l1 gs v out hl r b (a ++ [g]) (acc ++ [rekey (v : Int) g]) (snocG_eq h) (by rw [snocG_len]; omega) (by rw [List.append_assoc]; exact H)
  rw [snocG_len] at ih
  refine Ev.succ ?_
  have c3 : acc.length < 3518437208883 := by omega
  simp only [impl_RollupGroups.l1, c1, c2, c3, if_true, e, impl_RollupKey_eq, Option.bind_some, succ64 a.length (by omega)]
  exact ih
theorem impl_roll_step (gs : List Grp) (hg : ∀ x ∈ gs, okG x) (hl : gs.length ≤ 10000000) (v : Nat) (hv : v < 3) (out : List RR) (ho : out.length ≤ 100000000) (r : List RR)
  (H : Ev (fun k => impl_RollupGroups.l0 k gs (out ++ lv gs (v : Int)) (wrap64 ((v : Int) + 1))) r) : Ev (fun k => impl_RollupGroups.l0 k gs out (v : Int)) r := by
 refine Ev.succ ?_
 simp only [impl_RollupGroups.l0, show (v : Int) < 3 from by omega, if_true]
 refine impl_roll_l1 gs v out hl r gs [] [] rfl (by simp; omega) ?_
 rw [List.nil_append]
 refine Ev.then (impl_Merge_ev _ (by rw [List.length_map]; exact hl) ?_) ?_
 ·intro x hx
  obtain ⟨y, hy, rfl⟩ := List.mem_map.1 hx
  exact (rekey_ok (hg y hy)).1
 ·have hm := mrg_len (gs.map (rekey (v : Int)))
  rw [List.length_map] at hm
  exact impl_roll_l2 gs _ v (by omega) r (mrg (gs.map (rekey (v : Int)))) [] out rfl (by omega) H
theorem impl_Rollup_ev (gs : List Grp) (hg : ∀ x ∈ gs, okG x) (hl : gs.length ≤ 10000000) : Ev (fun k => impl_RollupGroups.f k gs) (roll gs) := by
 have l0 := lv_len gs 0
 have l1 := lv_len gs 1
 unfold impl_RollupGroups.f
 refine impl_roll_step gs hg hl 0 (by omega) [] (by simp) _ ?_
 rw [List.nil_append, show wrap64 (((0 : Nat) : Int) + 1) = ((1 : Nat) : Int) from succ64 0 (by omega)]
 refine impl_roll_step gs hg hl 1 (by omega) _ (by show (lv gs 0).length ≤ _; omega) _ ?_
 rw [show wrap64 (((1 : Nat) : Int) + 1) = ((2 : Nat) : Int) from succ64 1 (by omega)]
 refine impl_roll_step gs hg hl 2 (by omega) _ (by rw [List.length_append]; show (lv gs 0).length + (lv gs 1).length ≤ _; omega) _ ?_
 rw [show wrap64 (((2 : Nat) : Int) + 1) = ((3 : Nat) : Int) from succ64 2 (by omega)]
 refine Ev.succ ?_
 simp only [impl_RollupGroups.l0, show ¬ (((3 : Nat) : Int) < 3) from by omega, if_false, List.append_assoc]
 exact Ev.val rfl
theorem spec_roll_l2 (gs M : List Grp) (v : Nat) (hM : M.length ≤ 10000000) (r : List RR) : ∀ (b a : List Grp) (out : List RR), a ++ b = M → out.length + b.length ≤ 1000000000 →
  Ev (fun k => spec_RollupGroups.l0 k gs (out ++ b.map fun g => ⟨(v : Int), g⟩) (wrap64 ((v : Int) + 1))) r →
  Ev (fun k => spec_RollupGroups.l2 k gs out (v : Int) M (a.length : Int)) r
 | [], a, out, h, _, H => by
  refine Ev.succ ?_
  simp only [spec_RollupGroups.l2, endG h, if_false]
  simpa using H
 | g :: b, a, out, h, hl, H => by
  obtain ⟨e, c1, c2⟩ := rdg_at h
  rw [List.length_cons] at hl
  have ha : a.length < M.length := by omega
  have ih := spec_roll_l2 gs M v hM r b (a ++ [g]) (out ++ [⟨(v : Int), g⟩]) (snocG_eq h) (by rw [snocG_len]; omega) (by rw [List.append_assoc]; exact H)
  rw [snocG_len] at ih
  refine Ev.succ ?_
  have c3 : out.length < 2932031007402 := by omega
  simp only [spec_RollupGroups.l2, c1, c2, c3, if_true, e, succ64 a.length (by omega)]
  exact ih
theorem spec_roll_l1 (gs : List Grp) (v : Nat) (out : List RR) (hl : gs.length ≤ 10000000) (r : List RR) : ∀ (b a acc : List Grp), a ++ b = gs → acc.length + b.length ≤ 10000000 →
  Ev (fun k => (spec_MergeGroups.f k (acc ++ b.map (rekey (v : Int)))).bind fun t => spec_RollupGroups.l2 k gs out (v : Int) t 0) r →
  Ev (fun k => spec_RollupGroups.l1 k gs out (v : Int) acc (a.length : Int)) r
 | [], a, acc, h, _, H => by
  refine Ev.succ ?_
  simp only [spec_RollupGroups.l1, endG h, if_false]
  simpa using H
 | g :: b, a, acc, h, hb, H => by
  obtain ⟨e, c1, c2⟩ := rdg_at h
  rw [List.length_cons] at hb
  have ha : a.length < gs.length := by omega
  have ih := spec_roll_l1 gs v out hl r b (a ++ [g]) (acc ++ [rekey (v : Int) g]) (snocG_eq h) (by rw [snocG_len]; omega) (by rw [List.append_assoc]; exact H)
  rw [snocG_len] at ih
  refine Ev.succ ?_
  have c3 : acc.length < 3518437208883 := by omega
  simp only [spec_RollupGroups.l1, c1, c2, c3, if_true, e, spec_RollupKey_eq, Option.bind_some, succ64 a.length (by omega)]
  exact ih
theorem spec_roll_step (gs : List Grp) (hl : gs.length ≤ 10000000) (v : Nat) (hv : v < 3) (out : List RR) (ho : out.length ≤ 100000000) (r : List RR)
  (H : Ev (fun k => spec_RollupGroups.l0 k gs (out ++ lv gs (v : Int)) (wrap64 ((v : Int) + 1))) r) : Ev (fun k => spec_RollupGroups.l0 k gs out (v : Int)) r := by
 refine Ev.succ ?_
 simp only [spec_RollupGroups.l0, show (v : Int) < 3 from by omega, if_true]
 refine spec_roll_l1 gs v out hl r gs [] [] rfl (by simp; omega) ?_
 rw [List.nil_append]
 refine Ev.then (spec_Merge_ev _ (by rw [List.length_map]; exact hl)) ?_
 have hm := mrg_len (gs.map (rekey (v : Int)))
 rw [List.length_map] at hm
 exact spec_roll_l2 gs _ v (by omega) r (mrg (gs.map (rekey (v : Int)))) [] out rfl (by omega) H
theorem spec_Rollup_ev (gs : List Grp) (hl : gs.length ≤ 10000000) : Ev (fun k => spec_RollupGroups.f k gs) (roll gs) := by
 have l0 := lv_len gs 0
 have l1 := lv_len gs 1
 unfold spec_RollupGroups.f
 refine spec_roll_step gs hl 0 (by omega) [] (by simp) _ ?_
 rw [List.nil_append, show wrap64 (((0 : Nat) : Int) + 1) = ((1 : Nat) : Int) from succ64 0 (by omega)]
 refine spec_roll_step gs hl 1 (by omega) _ (by show (lv gs 0).length ≤ _; omega) _ ?_
 rw [show wrap64 (((1 : Nat) : Int) + 1) = ((2 : Nat) : Int) from succ64 1 (by omega)]
 refine spec_roll_step gs hl 2 (by omega) _ (by rw [List.length_append]; show (lv gs 0).length + (lv gs 1).length ≤ _; omega) _ ?_
 rw [show wrap64 (((2 : Nat) : Int) + 1) = ((3 : Nat) : Int) from succ64 2 (by omega)]
 refine Ev.succ ?_
 simp only [spec_RollupGroups.l0, show ¬ (((3 : Nat) : Int) < 3) from by omega, if_false, List.append_assoc]
 exact Ev.val rfl
theorem gfr_ok {r : Row} (h : inR r.f0 ∧ inR r.f1) : okG (gfr r) := ⟨h.1, by unfold inR gfr; dsimp only; omega, h.2, h.2, h.2⟩
theorem rdr_at {L a : List Row} {x : Row} {b : List Row} (h : a ++ x :: b = L) : rd_T114 L (a.length : Int) = x ∧ (a.length : Int) < (L.length : Int) ∧ (0 : Int) ≤ (a.length : Int) := by
 subst h
 refine ⟨?_, by rw [List.length_append, List.length_cons]; omega, by omega⟩
 rw [rd_row _ _ (by rw [List.length_append, List.length_cons]; omega)]
 simp
theorem impl_Ref_l0 (L : List Row) (hL : L.length ≤ 10000000) (hr : ∀ r ∈ L, inR r.f0 ∧ inR r.f1) : ∀ (b a : List Row), a ++ b = L →
  Ev (fun k => impl_ReferenceGroups.l0 k (a.map gfr) L (L.length : Int) (a.length : Int)) (refG L)
 | [], a, h => by
  have e : a = L := by rw [← h, List.append_nil]
  refine Ev.succ ?_
  simp only [impl_ReferenceGroups.l0, endG h, if_false]
  refine Ev.one ?_
  rw [e]
  refine impl_Merge_ev _ (by rw [List.length_map]; exact hL) ?_
  intro x hx
  obtain ⟨y, hy, rfl⟩ := List.mem_map.1 hx
  exact (hr y hy).1
 | g :: b, a, h => by
  obtain ⟨e, c1, c2⟩ := rdr_at h
  have ha : a.length < L.length := by omega
  have ih := impl_Ref_l0 L hL hr b (a ++ [g]) (snocG_eq h)
  rw [snocG_len, List.map_append] at ih
  refine Ev.succ ?_
  have c3 : (a.map gfr).length < 3518437208883 := by rw [List.length_map]; omega
  simp only [impl_ReferenceGroups.l0, c1, c2, c3, if_true, e, impl_GroupFromRow.f, Option.bind_some, succ64 a.length (by omega)]
  exact ih
theorem impl_Ref_ev (L : List Row) (hL : L.length ≤ 10000000) (hr : ∀ r ∈ L, inR r.f0 ∧ inR r.f1) : Ev (fun k => impl_ReferenceGroups.f k L) (refG L) := impl_Ref_l0 L hL hr L [] rfl
theorem spec_Ref_l0 (L : List Row) (hL : L.length ≤ 10000000) : ∀ (b a : List Row), a ++ b = L →
  Ev (fun k => spec_ReferenceGroups.l0 k L (a.map gfr) (a.length : Int)) (refG L)
 | [], a, h => by
  have e : a = L := by rw [← h, List.append_nil]
  refine Ev.succ ?_
  simp only [spec_ReferenceGroups.l0, endG h, if_false]
  refine Ev.one ?_
  rw [e]
  exact spec_Merge_ev _ (by rw [List.length_map]; exact hL)
 | g :: b, a, h => by
  obtain ⟨e, c1, c2⟩ := rdr_at h
  have ha : a.length < L.length := by omega
  have ih := spec_Ref_l0 L hL b (a ++ [g]) (snocG_eq h)
  rw [snocG_len, List.map_append] at ih
  refine Ev.succ ?_
  have c3 : (a.map gfr).length < 3518437208883 := by rw [List.length_map]; omega
  simp only [spec_ReferenceGroups.l0, c1, c2, c3, if_true, e, spec_GroupFromRow.f, Option.bind_some, succ64 a.length (by omega)]
  exact ih
theorem spec_Ref_ev (L : List Row) (hL : L.length ≤ 10000000) : Ev (fun k => spec_ReferenceGroups.f k L) (refG L) := spec_Ref_l0 L hL L [] rfl
theorem refG_ok {L : List Row} (hr : ∀ r ∈ L, inR r.f0 ∧ inR r.f1) : ∀ x ∈ refG L, okG x := by
 refine mrg_ok ?_
 intro x hx
 obtain ⟨y, hy, rfl⟩ := List.mem_map.1 hx
 exact gfr_ok (hr y hy)
theorem refG_len (L : List Row) : (refG L).length ≤ L.length := by have := mrg_len (L.map gfr); rwa [List.length_map] at this
theorem impl_RollupRows_ev (L : List Row) (hL : L.length ≤ 10000000) (hr : ∀ r ∈ L, inR r.f0 ∧ inR r.f1) : Ev (fun k => impl_RollupRows.f k L) (roll (refG L)) := by
 unfold impl_RollupRows.f
 refine Ev.then (impl_Ref_ev L hL hr) ?_
 exact Ev.one (impl_Rollup_ev _ (refG_ok hr) (by have := refG_len L; omega))
theorem spec_RollupRows_ev (L : List Row) (hL : L.length ≤ 10000000) : Ev (fun k => spec_RollupRows.f k L) (roll (refG L)) := by
 unfold spec_RollupRows.f
 refine Ev.then (spec_Ref_ev L hL) ?_
 exact Ev.one (spec_Rollup_ev _ (by have := refG_len L; omega))
theorem roll_len (gs : List Grp) : (roll gs).length ≤ 3 * gs.length := by
 have l0 := lv_len gs 0
 have l1 := lv_len gs 1
 have l2 := lv_len gs 2
 unfold roll
 rw [List.length_append, List.length_append]
 omega
def okRR (x : RR) : Prop := 0 ≤ x.f0 ∧ x.f0 ≤ 2 ∧ okG x.f1
theorem lv_ok {gs : List Grp} (hg : ∀ x ∈ gs, okG x) {v : Int} (h0 : 0 ≤ v) (h2 : v ≤ 2) : ∀ x ∈ lv gs v, okRR x := by
 intro x hx
 obtain ⟨g, h, rfl⟩ := List.mem_map.1 hx
 refine ⟨h0, h2, mrg_ok ?_ g h⟩
 intro y hy
 obtain ⟨z, hz, rfl⟩ := List.mem_map.1 hy
 exact rekey_ok (hg z hz)
theorem roll_ok {gs : List Grp} (hg : ∀ x ∈ gs, okG x) : ∀ x ∈ roll gs, okRR x := by
 intro x hx
 unfold roll at hx
 rcases List.mem_append.1 hx with h | h
 ·exact lv_ok hg (by decide) (by decide) x h
 ·rcases List.mem_append.1 h with h | h
  ·exact lv_ok hg (by decide) (by decide) x h
  ·exact lv_ok hg (by decide) (by decide) x h
end
open Plain Br
section
theorem fmtI_l21 (n : Int) (h : inR n) : (fmtI n).length ≤ 21 := by
 have h3 := dec_len20 n.natAbs (by unfold inR at h; omega)
 by_cases q : n < 0
 ·rw [fmtI_neg q, List.length_cons]; omega
 ·rw [fmtI_pos q]; omega
def fG (g : Grp) : T := fmtI g.f0 ++ [58] ++ fmtI g.f1 ++ [44] ++ fmtI g.f2 ++ [44] ++ fmtI g.f3 ++ [44] ++ fmtI g.f4
def fRR (x : RR) : T := fmtI x.f0 ++ [47] ++ fG x.f1
theorem fG_len {g : Grp} (h : okG g) : (fG g).length ≤ 109 := by
 have h0 := fmtI_l21 g.f0 h.1
 have h1 := fmtI_l21 g.f1 h.2.1
 have h2 := fmtI_l21 g.f2 h.2.2.1
 have h3 := fmtI_l21 g.f3 h.2.2.2.1
 have h4 := fmtI_l21 g.f4 h.2.2.2.2
 unfold fG
 simp only [List.length_append, List.length_singleton]
 omega
theorem lev_in {x : RR} (h : okRR x) : inR x.f0 := by have h1 := h.1; have h2 := h.2.1; unfold inR; omega
theorem fRR_len {x : RR} (h : okRR x) : (fRR x).length ≤ 131 := by
 have h0 := fmtI_l21 x.f0 (lev_in h)
 have h1 := fG_len h.2.2
 unfold fRR
 simp only [List.length_append, List.length_singleton]
 omega
theorem impl_groupText_ev {g : Grp} (h : okG g) : Ev (fun k => impl_groupText.f k g.f0 g.f1 g.f2 g.f3 g.f4) (B (fG g)) := by
 have h0 := fmtI_l21 g.f0 h.1
 have h1 := fmtI_l21 g.f1 h.2.1
 have h2 := fmtI_l21 g.f2 h.2.2.1
 have h3 := fmtI_l21 g.f3 h.2.2.2.1
 have h4 := fmtI_l21 g.f4 h.2.2.2.2
 unfold impl_groupText.f
 refine Ev.then (impl_FormatInt_ev _ h.1.1 h.1.2) ?_
 have c1 : (B (fmtI g.f0)).size + 1 ≤ 9223372036854775807 := by rw [size_B]; omega
 simp only [c1, if_true, litL, B_append]
 refine Ev.then (impl_FormatInt_ev _ h.2.1.1 h.2.1.2) ?_
 have c2 : (B (fmtI g.f0 ++ [58])).size + (B (fmtI g.f1)).size ≤ 9223372036854775807 := by rw [size_B, size_B]; simp only [List.length_append, List.length_singleton]; omega
 have c3 : (B (fmtI g.f0 ++ [58] ++ fmtI g.f1)).size + 1 ≤ 9223372036854775807 := by rw [size_B]; simp only [List.length_append, List.length_singleton]; omega
 simp only [c2, c3, if_true, B_append]
 refine Ev.then (impl_FormatInt_ev _ h.2.2.1.1 h.2.2.1.2) ?_
 have c4 : (B (fmtI g.f0 ++ [58] ++ fmtI g.f1 ++ [44])).size + (B (fmtI g.f2)).size ≤ 9223372036854775807 := by rw [size_B, size_B]; simp only [List.length_append, List.length_singleton]; omega
 have c5 : (B (fmtI g.f0 ++ [58] ++ fmtI g.f1 ++ [44] ++ fmtI g.f2)).size + 1 ≤ 9223372036854775807 := by rw [size_B]; simp only [List.length_append, List.length_singleton]; omega
 simp only [c4, c5, if_true, B_append]
 refine Ev.then (impl_FormatInt_ev _ h.2.2.2.1.1 h.2.2.2.1.2) ?_
 have c6 : (B (fmtI g.f0 ++ [58] ++ fmtI g.f1 ++ [44] ++ fmtI g.f2 ++ [44])).size + (B (fmtI g.f3)).size ≤ 9223372036854775807 := by rw [size_B, size_B]; simp only [List.length_append, List.length_singleton]; omega
 have c7 : (B (fmtI g.f0 ++ [58] ++ fmtI g.f1 ++ [44] ++ fmtI g.f2 ++ [44] ++ fmtI g.f3)).size + 1 ≤ 9223372036854775807 := by rw [size_B]; simp only [List.length_append, List.length_singleton]; omega
 simp only [c6, c7, if_true, B_append]
 refine Ev.then (impl_FormatInt_ev _ h.2.2.2.2.1 h.2.2.2.2.2) ?_
 have c8 : (B (fmtI g.f0 ++ [58] ++ fmtI g.f1 ++ [44] ++ fmtI g.f2 ++ [44] ++ fmtI g.f3 ++ [44])).size + (B (fmtI g.f4)).size ≤ 9223372036854775807 := by rw [size_B, size_B]; simp only [List.length_append, List.length_singleton]; omega
 simp only [c8, if_true, B_append]
 exact Ev.val rfl
theorem spec_FormatGroups_ev {g : Grp} (h : okG g) : Ev (fun k => spec_FormatGroups.f k [g]) (B (fG g)) := by
 have h0 := fmtI_l21 g.f0 h.1
 have h1 := fmtI_l21 g.f1 h.2.1
 have h2 := fmtI_l21 g.f2 h.2.2.1
 have h3 := fmtI_l21 g.f3 h.2.2.2.1
 have h4 := fmtI_l21 g.f4 h.2.2.2.2
 have hr : rd_T60 [g] 0 = g := rfl
 unfold spec_FormatGroups.f
 refine Ev.succ ?_
 simp only [spec_FormatGroups.l0, show (0 : Int) < (([g] : List Grp).length : Int) from by simp, if_true, show ¬ ((0 : Int) > 0) from by omega, if_false, ← B_nil]
 refine Ev.succ ?_
 simp only [spec_FormatGroups.j1, show (0 : Int) < (([g] : List Grp).length : Int) from by simp, if_true, Int.le_refl, hr]
 refine Ev.then (spec_FormatInt_ev _ h.1.1 h.1.2) ?_
 have c0 : (B []).size + (B (fmtI g.f0)).size ≤ 9223372036854775807 := by rw [size_B, size_B]; simp only [List.length_nil]; omega
 have c1 : (B (fmtI g.f0)).size + 1 ≤ 9223372036854775807 := by rw [size_B]; omega
 simp only [c0, if_true, litL, B_append, List.nil_append, c1]
 refine Ev.then (spec_FormatInt_ev _ h.2.1.1 h.2.1.2) ?_
 have c2 : (B (fmtI g.f0 ++ [58])).size + (B (fmtI g.f1)).size ≤ 9223372036854775807 := by rw [size_B, size_B]; simp only [List.length_append, List.length_singleton]; omega
 have c3 : (B (fmtI g.f0 ++ [58] ++ fmtI g.f1)).size + 1 ≤ 9223372036854775807 := by rw [size_B]; simp only [List.length_append, List.length_singleton]; omega
 simp only [c2, c3, if_true, B_append]
 refine Ev.then (spec_FormatInt_ev _ h.2.2.1.1 h.2.2.1.2) ?_
 have c4 : (B (fmtI g.f0 ++ [58] ++ fmtI g.f1 ++ [44])).size + (B (fmtI g.f2)).size ≤ 9223372036854775807 := by rw [size_B, size_B]; simp only [List.length_append, List.length_singleton]; omega
 have c5 : (B (fmtI g.f0 ++ [58] ++ fmtI g.f1 ++ [44] ++ fmtI g.f2)).size + 1 ≤ 9223372036854775807 := by rw [size_B]; simp only [List.length_append, List.length_singleton]; omega
 simp only [c4, c5, if_true, B_append]
 refine Ev.then (spec_FormatInt_ev _ h.2.2.2.1.1 h.2.2.2.1.2) ?_
 have c6 : (B (fmtI g.f0 ++ [58] ++ fmtI g.f1 ++ [44] ++ fmtI g.f2 ++ [44])).size + (B (fmtI g.f3)).size ≤ 9223372036854775807 := by rw [size_B, size_B]; simp only [List.length_append, List.length_singleton]; omega
 have c7 : (B (fmtI g.f0 ++ [58] ++ fmtI g.f1 ++ [44] ++ fmtI g.f2 ++ [44] ++ fmtI g.f3)).size + 1 ≤ 9223372036854775807 := by rw [size_B]; simp only [List.length_append, List.length_singleton]; omega
 simp only [c6, c7, if_true, B_append]
 refine Ev.then (spec_FormatInt_ev _ h.2.2.2.2.1 h.2.2.2.2.2) ?_
 have c8 : (B (fmtI g.f0 ++ [58] ++ fmtI g.f1 ++ [44] ++ fmtI g.f2 ++ [44] ++ fmtI g.f3 ++ [44])).size + (B (fmtI g.f4)).size ≤ 9223372036854775807 := by rw [size_B, size_B]; simp only [List.length_append, List.length_singleton]; omega
 simp only [c8, if_true, B_append]
 refine Ev.succ ?_
 have w : wrap64 (0 + 1) = (1 : Int) := w64 (by decide) (by decide)
 simp only [spec_FormatGroups.l0, w, show ¬ ((1 : Int) < (([g] : List Grp).length : Int)) from by simp, if_false]
 exact Ev.val rfl
theorem rdx_at {L a : List RR} {x : RR} {b : List RR} (h : a ++ x :: b = L) : rd_T62 L (a.length : Int) = x ∧ (a.length : Int) < (L.length : Int) ∧ (0 : Int) ≤ (a.length : Int) := by
 subst h
 refine ⟨?_, by rw [List.length_append, List.length_cons]; omega, by omega⟩
 unfold rd_T62
 rw [Int.toNat_natCast, List.getD_eq_getElem?_getD, List.getElem?_append_right (Nat.le_refl _)]
 simp
def fRoll (L : List RR) : T := join [32] (L.map fRR)
theorem impl_FRoll_l0 (L : List RR) (hx : ∀ x ∈ L, okRR x) (hL : L.length ≤ 100000) : ∀ (b a : List RR), a ++ b = L →
  Ev (fun k => impl_FormatRollup.l0 k ((a.map fRR).map B) L (L.length : Int) (a.length : Int)) (B (fRoll L))
 | [], a, h => by
  have e : a = L := by rw [← h, List.append_nil]
  refine Ev.succ ?_
  simp only [impl_FormatRollup.l0, endG h, if_false]
  refine Ev.one ?_
  rw [e]
  refine impl_joined_ev [32] (L.map fRR) 131 (by omega) (by simp) (by rw [List.length_map]; omega) ?_
  intro t ht
  obtain ⟨x, h, rfl⟩ := List.mem_map.1 ht
  exact fRR_len (hx x h)
 | x :: b, a, h => by
  obtain ⟨e, c1, c2⟩ := rdx_at h
  have hm : x ∈ L := by rw [← h]; simp
  have ok := hx x hm
  have ih := impl_FRoll_l0 L hx hL b (a ++ [x]) (snocG_eq h)
  rw [snocG_len, List.map_append, List.map_append] at ih
  have ha : a.length < L.length := by omega
  have h0 := fmtI_l21 x.f0 (lev_in ok)
  have h1 := fG_len ok.2.2
  refine Ev.succ ?_
  simp only [impl_FormatRollup.l0, c1, c2, if_true, e, succ64 a.length (by omega)]
  refine Ev.then (impl_FormatInt_ev _ (lev_in ok).1 (lev_in ok).2) ?_
  have d1 : (B (fmtI x.f0)).size + 1 ≤ 9223372036854775807 := by rw [size_B]; omega
  simp only [d1, if_true, litL, B_append]
  refine Ev.then (impl_groupText_ev ok.2.2) ?_
  have d2 : (B (fmtI x.f0 ++ [47])).size + (B (fG x.f1)).size ≤ 9223372036854775807 := by rw [size_B, size_B]; simp only [List.length_append, List.length_singleton]; omega
  have d3 : ((a.map fRR).map B).length < 8796093022208 := by rw [List.length_map, List.length_map]; omega
  simp only [d2, d3, if_true, B_append]
  exact ih
theorem impl_FRoll_ev (L : List RR) (hx : ∀ x ∈ L, okRR x) (hL : L.length ≤ 100000) : Ev (fun k => impl_FormatRollup.f k L) (B (fRoll L)) := impl_FRoll_l0 L hx hL L [] rfl
theorem fRoll_snoc (a : List RR) (x : RR) (h : a ≠ []) : fRoll (a ++ [x]) = fRoll a ++ [32] ++ fRR x := by
 unfold fRoll
 rw [List.map_append]
 exact join_snoc [32] (show a.map fRR ≠ [] by simpa using h) (fRR x)
theorem fRoll_len {a : List RR} (hx : ∀ x ∈ a, okRR x) : (fRoll a).length ≤ a.length * 132 := by
 have := join_len [32] 131 (a.map fRR) (by
  intro t ht
  obtain ⟨x, h, rfl⟩ := List.mem_map.1 ht
  exact fRR_len (hx x h))
 rw [List.length_map] at this
 exact this
theorem spec_FRoll_l0 (L : List RR) (hx : ∀ x ∈ L, okRR x) (hL : L.length ≤ 100000) : ∀ (b a : List RR), a ++ b = L →
  Ev (fun k => spec_FormatRollup.l0 k L (B (fRoll a)) (a.length : Int)) (B (fRoll L))
 | [], a, h => by
  have e : a = L := by rw [← h, List.append_nil]
  refine Ev.succ ?_
  simp only [spec_FormatRollup.l0, endG h, if_false]
  exact Ev.val (by rw [e])
 | x :: b, a, h => by
  obtain ⟨e, c1, c2⟩ := rdx_at h
  have hm : x ∈ L := by rw [← h]; simp
  have ok := hx x hm
  have ih := spec_FRoll_l0 L hx hL b (a ++ [x]) (snocG_eq h)
  rw [snocG_len] at ih
  have ha : a.length < L.length := by omega
  have h0 := fmtI_l21 x.f0 (lev_in ok)
  have h1 := fG_len ok.2.2
  have hl := fRoll_len (a := a) (fun y hy => hx y (by rw [← h]; simp [hy]))
  have eg : ∀ g : Grp, (⟨g.f0, g.f1, g.f2, g.f3, g.f4⟩ : Grp) = g := fun _ => rfl
  refine Ev.succ ?_
  by_cases z : a = []
  ·subst z
   have z1 : ¬ ((([] : List RR).length : Int) > 0) := by simp
   simp only [spec_FormatRollup.l0, c1, c2, z1, if_true, if_false, e, succ64 ([] : List RR).length (by simp)]
   refine Ev.then (spec_FormatInt_ev _ (lev_in ok).1 (lev_in ok).2) ?_
   have d0 : (B (fRoll [])).size + (B (fmtI x.f0)).size ≤ 9223372036854775807 := by rw [size_B, size_B]; simp only [List.length_nil] at hl; omega
   have d1 : (B (fRoll [] ++ fmtI x.f0)).size + 1 ≤ 9223372036854775807 := by rw [size_B, List.length_append]; simp only [List.length_nil] at hl; omega
   simp only [d0, if_true, B_append, d1, litL]
   refine Ev.then (spec_FormatGroups_ev ok.2.2) ?_
   have d2 : (B (fRoll [] ++ fmtI x.f0 ++ [47])).size + (B (fG x.f1)).size ≤ 9223372036854775807 := by rw [size_B, size_B]; simp only [List.length_append, List.length_singleton]; simp only [List.length_nil] at hl; omega
   simp only [d2, if_true, B_append]
   have f0 : fRoll [] ++ fmtI x.f0 ++ [47] ++ fG x.f1 = fRoll ([] ++ [x]) := by simp [fRoll, join, fRR]
   rw [f0]
   exact ih
  ·have z1 : ((a.length : Nat) : Int) > 0 := by have := List.length_pos_iff.2 z; omega
   have d3 : (B (fRoll a)).size + 1 ≤ 9223372036854775807 := by rw [size_B]; omega
   simp only [spec_FormatRollup.l0, c1, c2, z1, d3, if_true, e, succ64 a.length (by omega), litL, B_append]
   refine Ev.then (spec_FormatInt_ev _ (lev_in ok).1 (lev_in ok).2) ?_
   have d0 : (B (fRoll a ++ [32])).size + (B (fmtI x.f0)).size ≤ 9223372036854775807 := by rw [size_B, size_B, List.length_append, List.length_singleton]; omega
   have d1 : (B (fRoll a ++ [32] ++ fmtI x.f0)).size + 1 ≤ 9223372036854775807 := by rw [size_B]; simp only [List.length_append, List.length_singleton]; omega
   simp only [d0, if_true, B_append, d1]
   refine Ev.then (spec_FormatGroups_ev ok.2.2) ?_
   have d2 : (B (fRoll a ++ [32] ++ fmtI x.f0 ++ [47])).size + (B (fG x.f1)).size ≤ 9223372036854775807 := by rw [size_B, size_B]; simp only [List.length_append, List.length_singleton]; omega
   simp only [d2, if_true, B_append]
   have f0 : fRoll a ++ [32] ++ fmtI x.f0 ++ [47] ++ fG x.f1 = fRoll (a ++ [x]) := by rw [fRoll_snoc a x z]; simp [fRR]
   rw [f0]
   exact ih
theorem spec_FRoll_ev (L : List RR) (hx : ∀ x ∈ L, okRR x) (hL : L.length ≤ 100000) : Ev (fun k => spec_FormatRollup.f k L) (B (fRoll L)) := spec_FRoll_l0 L hx hL L [] rfl

def tot : List Grp → Int
 | [] => 0
 | g :: l => g.f1 + tot l
theorem tot_append : ∀ a b : List Grp, tot (a ++ b) = tot a + tot b
 | [], b => by simp [tot]
 | g :: a, b => by
  have := tot_append a b
  show g.f1 + tot (a ++ b) = g.f1 + tot a + tot b
  omega
theorem tot_nn : ∀ {l : List Grp}, (∀ x ∈ l, 0 ≤ x.f1) → 0 ≤ tot l
 | [], _ => Int.le_refl _
 | g :: l, h => by
  have h1 := tot_nn (l := l) (fun x hx => h x (by simp [hx]))
  have h2 := h g (by simp)
  show 0 ≤ g.f1 + tot l
  omega
theorem split_at {S : List Grp} {p : Nat} (h : p < S.length) : S = S.take p ++ (S[p] :: S.drop (p + 1)) := by
 rw [← List.drop_eq_getElem_cons h, List.take_append_drop]
theorem smStep_tot {S : List Grp} {g : Grp} (hS : ∀ x ∈ S, 0 ≤ x.f1) (hg : 0 ≤ g.f1) (hb : tot S + g.f1 ≤ 1000000) : tot (smStep S g) = tot S + g.f1 ∧ ∀ x ∈ smStep S g, 0 ≤ x.f1 := by
 unfold smStep smAt
 generalize smPos S g.f0 S.length 0 = p
 by_cases q : p < S.length ∧ (S.getD p z60).f0 = g.f0
 ·rw [if_pos q]
  obtain ⟨q1, q2⟩ := q
  rw [getD_get q1] at q2 ⊢
  have e := split_at q1
  have t0 : tot S = tot (S.take p) + (S[p].f1 + tot (S.drop (p + 1))) := by
   conv => lhs; rw [e]
   rw [tot_append]; rfl
  have n1 := tot_nn (l := S.take p) (fun x hx => hS x (List.mem_of_mem_take hx))
  have n2 := tot_nn (l := S.drop (p + 1)) (fun x hx => hS x (List.mem_of_mem_drop hx))
  have n3 := hS S[p] (List.getElem_mem _)
  have c : (cmb S[p] g).f1 = S[p].f1 + g.f1 := by
   unfold cmb
   rw [if_pos q2]
   exact w64 (by omega) (by omega)
  constructor
  ·rw [List.set_eq_take_append_cons_drop, if_pos q1, tot_append]
   show tot (S.take p) + ((cmb S[p] g).f1 + tot (S.drop (p + 1))) = _
   omega
  ·intro x hx
   rcases List.mem_or_eq_of_mem_set hx with h | h
   ·exact hS x h
   ·rw [h, c]; omega
 ·rw [if_neg q]
  constructor
  ·rw [tot_append]
   have e : tot S = tot (S.take p) + tot (S.drop p) := by rw [← tot_append, List.take_append_drop]
   show tot (S.take p) + (g.f1 + tot (S.drop p)) = _
   omega
  ·intro x hx
   rcases List.mem_append.1 hx with h | h
   ·exact hS x (List.mem_of_mem_take h)
   ·rcases List.mem_cons.1 h with h | h
    ·rw [h]; exact hg
    ·exact hS x (List.mem_of_mem_drop h)
theorem fold_tot : ∀ (gs S : List Grp), (∀ x ∈ S, 0 ≤ x.f1) → (∀ x ∈ gs, 0 ≤ x.f1) → tot S + tot gs ≤ 1000000 → tot (gs.foldl smStep S) = tot S + tot gs ∧ ∀ x ∈ gs.foldl smStep S, 0 ≤ x.f1
 | [], S, hS, _, _ => ⟨by show tot S = tot S + 0; omega, hS⟩
 | g :: gs, S, hS, hg, hb => by
  have e : tot (g :: gs) = g.f1 + tot gs := rfl
  have n := tot_nn (l := gs) (fun x hx => hg x (by simp [hx]))
  obtain ⟨a, b⟩ := smStep_tot hS (hg g (by simp)) (by omega)
  obtain ⟨c, d⟩ := fold_tot gs (smStep S g) b (fun x hx => hg x (by simp [hx])) (by omega)
  rw [List.foldl_cons]
  exact ⟨by rw [c, a, e]; omega, d⟩
theorem mrg_tot {gs : List Grp} (hg : ∀ x ∈ gs, 0 ≤ x.f1) (hb : tot gs ≤ 1000000) : tot (mrg gs) = tot gs ∧ ∀ x ∈ mrg gs, 0 ≤ x.f1 := by
 have := fold_tot gs [] (by simp) hg (by show (0 : Int) + tot gs ≤ _; omega)
 exact ⟨by have h := this.1; show tot (gs.foldl smStep []) = _; rw [h]; show (0 : Int) + tot gs = _; omega, this.2⟩
theorem rekey_tot (v : Int) : ∀ gs : List Grp, tot (gs.map (rekey v)) = tot gs
 | [] => rfl
 | g :: gs => by
  have := rekey_tot v gs
  show (rekey v g).f1 + tot (gs.map (rekey v)) = g.f1 + tot gs
  rw [this]; rfl
theorem gfr_tot : ∀ l : List Row, tot (l.map gfr) = (l.length : Int)
 | [] => rfl
 | r :: l => by
  have := gfr_tot l
  show (1 : Int) + tot (l.map gfr) = ((l.length + 1 : Nat) : Int)
  omega
def cnt (v : Int) : List RR → Int
 | [] => 0
 | x :: l => (if x.f0 = v then x.f1.f1 else 0) + cnt v l
theorem cnt_append (v : Int) : ∀ a b : List RR, cnt v (a ++ b) = cnt v a + cnt v b
 | [], b => by simp [cnt]
 | x :: a, b => by
  have := cnt_append v a b
  show (if x.f0 = v then x.f1.f1 else 0) + cnt v (a ++ b) = (if x.f0 = v then x.f1.f1 else 0) + cnt v a + cnt v b
  omega
theorem cnt_level (v u : Int) : ∀ l : List Grp, cnt v (l.map fun g => (⟨u, g⟩ : RR)) = if u = v then tot l else 0
 | [] => by simp [cnt, tot]
 | g :: l => by
  have := cnt_level v u l
  show (if u = v then g.f1 else 0) + cnt v (l.map fun g => (⟨u, g⟩ : RR)) = if u = v then g.f1 + tot l else 0
  rw [this]
  split <;> omega
theorem cnt_roll {gs : List Grp} (hg : ∀ x ∈ gs, 0 ≤ x.f1) (hb : tot gs ≤ 1000000) {v : Int} (hv : v = 0 ∨ v = 1 ∨ v = 2) : cnt v (roll gs) = tot gs := by
 have h : ∀ u : Int, tot (mrg (gs.map (rekey u))) = tot gs := by
  intro u
  have := (mrg_tot (gs := gs.map (rekey u)) (by
   intro x hx
   obtain ⟨y, hy, rfl⟩ := List.mem_map.1 hx
   exact hg y hy) (by rw [rekey_tot]; exact hb)).1
  rw [this, rekey_tot]
 unfold roll lv
 rw [cnt_append, cnt_append, cnt_level, cnt_level, cnt_level, h, h, h]
 rcases hv with rfl | rfl | rfl <;> simp
theorem tot_le : ∀ {l : List Grp}, (∀ x ∈ l, 0 ≤ x.f1) → ∀ x ∈ l, x.f1 ≤ tot l
 | g :: l, h, x, hx => by
  have n := tot_nn (l := l) (fun y hy => h y (by simp [hy]))
  have n2 := h g (by simp)
  show x.f1 ≤ g.f1 + tot l
  rcases List.mem_cons.1 hx with rfl | hx
  ·omega
  ·have := tot_le (l := l) (fun y hy => h y (by simp [hy])) x hx
   omega
theorem roll_cnt {gs : List Grp} (hg : ∀ x ∈ gs, 0 ≤ x.f1) (hb : tot gs ≤ 1000000) : ∀ x ∈ roll gs, 0 ≤ x.f1.f1 ∧ x.f1.f1 ≤ 1000000 := by
 have h : ∀ u : Int, ∀ x ∈ lv gs u, 0 ≤ x.f1.f1 ∧ x.f1.f1 ≤ 1000000 := by
  intro u x hx
  obtain ⟨y, hy, rfl⟩ := List.mem_map.1 hx
  have := mrg_tot (gs := gs.map (rekey u)) (by
   intro x hx
   obtain ⟨y, hy, rfl⟩ := List.mem_map.1 hx
   exact hg y hy) (by rw [rekey_tot]; exact hb)
  have t := tot_le this.2 y hy
  rw [this.1, rekey_tot] at t
  exact ⟨this.2 y hy, by show y.f1 ≤ _; omega⟩
 intro x hx
 unfold roll at hx
 rcases List.mem_append.1 hx with k | k
 ·exact h 0 x k
 ·rcases List.mem_append.1 k with k | k
  ·exact h 1 x k
  ·exact h 2 x k
theorem cnt_bd (v : Int) : ∀ {l : List RR}, (∀ x ∈ l, 0 ≤ x.f1.f1 ∧ x.f1.f1 ≤ 1000000) → 0 ≤ cnt v l ∧ cnt v l ≤ 1000000 * (l.length : Int)
 | [], _ => ⟨Int.le_refl _, by simp [cnt]⟩
 | x :: l, h => by
  have h1 := cnt_bd v (l := l) (fun y hy => h y (by simp [hy]))
  have h2 := h x (by simp)
  rw [List.length_cons]
  show 0 ≤ (if x.f0 = v then x.f1.f1 else 0) + cnt v l ∧ (if x.f0 = v then x.f1.f1 else 0) + cnt v l ≤ _
  split <;> omega
theorem law_l0 (l : List Row) (R : List RR) (hR : R.length ≤ 100000) (ho : ∀ x ∈ R, okRR x) (hc : ∀ x ∈ R, 0 ≤ x.f1.f1 ∧ x.f1.f1 ≤ 1000000) (hv : ∀ v : Int, v = 0 ∨ v = 1 ∨ v = 2 → cnt v R = (l.length : Int)) : ∀ (b a : List RR), a ++ b = R →
  Ev (fun k => laws_FnRollup.l0 k l R R R [cnt 0 a, cnt 1 a, cnt 2 a] (a.length : Int)) true
 | [], a, h => by
  have e : a = R := by rw [← h, List.append_nil]
  rw [e]
  refine Ev.succ ?_
  have r0 : ∀ p q r : Int, rd [p, q, r] 0 = p := fun _ _ _ => rfl
  have r1 : ∀ p q r : Int, rd [p, q, r] 1 = q := fun _ _ _ => rfl
  have r2 : ∀ p q r : Int, rd [p, q, r] 2 = r := fun _ _ _ => rfl
  simp only [laws_FnRollup.l0, show ¬ ((R.length : Int) < (R.length : Int)) from by omega, if_false, r0, r1, r2, hv 0 (by simp), hv 1 (by simp), hv 2 (by simp), List.length_cons, List.length_nil, show (0 : Int) < ((0 + 1 + 1 + 1 : Nat) : Int) from by decide, show (1 : Int) < ((0 + 1 + 1 + 1 : Nat) : Int) from by decide, show (2 : Int) < ((0 + 1 + 1 + 1 : Nat) : Int) from by decide, if_true, beq_self_eq_true]
  exact Ev.val rfl
 | x :: b, a, h => by
  obtain ⟨e, c1, c2⟩ := rdx_at h
  have hm : x ∈ R := by rw [← h]; simp
  have ok := ho x hm
  have cx := hc x hm
  have ih := law_l0 l R hR ho hc hv b (a ++ [x]) (snocG_eq h)
  rw [snocG_len, cnt_append, cnt_append, cnt_append] at ih
  have ha : a.length < R.length := by omega
  have hca : ∀ y ∈ a, 0 ≤ y.f1.f1 ∧ y.f1.f1 ≤ 1000000 := fun y hy => hc y (by rw [← h]; simp [hy])
  have b0 := cnt_bd 0 hca
  have b1 := cnt_bd 1 hca
  have b2 := cnt_bd 2 hca
  have lo := ok.1
  have hi := ok.2.1
  refine Ev.succ ?_
  have n0 : ¬ (x.f0 < 0) := by omega
  have n2 : ¬ (x.f0 > 2) := by omega
  have l3 : x.f0 < (([cnt 0 a, cnt 1 a, cnt 2 a] : List Int).length : Int) := by show x.f0 < 3; omega
  simp only [laws_FnRollup.l0, c1, c2, if_true, e, beq_self_eq_true, Bool.not_true, Bool.or_self, Bool.false_eq_true, if_false, n0, n2, lo, l3, succ64 a.length (by omega)]
  have one : ∀ v : Int, cnt v [x] = if x.f0 = v then x.f1.f1 else 0 := fun v => by show (if x.f0 = v then x.f1.f1 else 0) + 0 = _; omega
  rw [one, one, one] at ih
  have h3 : x.f0 = 0 ∨ x.f0 = 1 ∨ x.f0 = 2 := by omega
  rcases h3 with q | q | q
  ·rw [q] at ih ⊢
   have w : wrap64 (rd [cnt 0 a, cnt 1 a, cnt 2 a] 0 + x.f1.f1) = cnt 0 a + x.f1.f1 := w64 (show -9223372036854775808 ≤ cnt 0 a + x.f1.f1 by omega) (show cnt 0 a + x.f1.f1 ≤ _ by omega)
   rw [w]
   simpa using ih
  ·rw [q] at ih ⊢
   have w : wrap64 (rd [cnt 0 a, cnt 1 a, cnt 2 a] 1 + x.f1.f1) = cnt 1 a + x.f1.f1 := w64 (show -9223372036854775808 ≤ cnt 1 a + x.f1.f1 by omega) (show cnt 1 a + x.f1.f1 ≤ _ by omega)
   rw [w]
   simpa using ih
  ·rw [q] at ih ⊢
   have w : wrap64 (rd [cnt 0 a, cnt 1 a, cnt 2 a] 2 + x.f1.f1) = cnt 2 a + x.f1.f1 := w64 (show -9223372036854775808 ≤ cnt 2 a + x.f1.f1 by omega) (show cnt 2 a + x.f1.f1 ≤ _ by omega)
   rw [w]
   simpa using ih

theorem small_in {r : Row} (h : smallRow r) : inR r.f0 ∧ inR r.f1 := by unfold smallRow at h; unfold inR; omega
theorem DrawRollupRows_ok (b : List Int) (hb : b.length ≤ 140737488355328) : ∃ ys, Ev (fun k => spec_DrawRollupRows.f k b) ys ∧ ys.length ≤ 13 ∧ ∀ r ∈ ys, smallRow r := by
 obtain ⟨h1, E1⟩ := l1New_ok b hb
 obtain ⟨ys, i2, h2, E2, c2, l2, s2⟩ := l2Bent_ok b 0 h1 12 (by omega) (cur0 hb)
 refine ⟨ys, ?_, l2, s2⟩
 unfold spec_DrawRollupRows.f
 refine Ev.then E1 ?_
 refine Ev.then E2 ?_
 exact Ev.val rfl
theorem DrawRollupKey_ok (b : List Int) (hb : b.length ≤ 140737488355328) : ∃ x y, Ev (fun k => spec_DrawRollupKey.f k b) (x, y) := by
 obtain ⟨h1, E1⟩ := l1New_ok b hb
 obtain ⟨x, i2, h2, e2, c2, _⟩ := l1Below_ok b 0 h1 12 (cur0 hb) (by omega)
 obtain ⟨y, i3, h3, e3, c3, _⟩ := l1Below_ok b i2 h2 5 c2 (by omega)
 refine ⟨wrap64 (x - 1), wrap64 (y - 1), ?_⟩
 unfold spec_DrawRollupKey.f
 refine Ev.then E1 ?_
 simp only [e2, e3, Option.bind_some]
 exact Ev.val rfl
theorem l8_l0 (b : List Int) : ∀ (n : Nat) (xs : List Grp) (i h : Int), Cur b i → xs.length + n * 3 ≤ 1000 → (∀ g ∈ xs, okG g) →
  ∃ ys i' h', Ev (fun k => spec_l8Groups.l0 k xs (n : Int) b i h) (ys, i', h') ∧ ys.length ≤ 1000 ∧ ∀ g ∈ ys, okG g
 | 0, xs, i, h, c, hl, hg => ⟨xs, i, h, by
   refine Ev.succ ?_
   simp only [spec_l8Groups.l0, show ¬ (((0 : Nat) : Int) > 0) from by omega, if_false]
   exact Ev.val rfl, by omega, hg⟩
 | n + 1, xs, i, h, c, hl, hg => by
  obtain ⟨rs, i1, h1, E1, c1, l1, v1⟩ := l2Rows_ok b i h 3 (by omega) c
  have hr := refG_len rs
  have ho : ∀ g ∈ refG rs, okG g := refG_ok (fun r hr => small_in (smallRow_of (v1 r hr)))
  obtain ⟨ys, i2, h2, E2, l2, g2⟩ := l8_l0 b n (xs ++ refG rs) i1 h1 c1 (by rw [List.length_append]; omega) (by
   intro g h
   rcases List.mem_append.1 h with h | h
   ·exact hg g h
   ·exact ho g h)
  refine ⟨ys, i2, h2, ?_, l2, g2⟩
  refine Ev.succ ?_
  have d1 : ((n + 1 : Nat) : Int) > 0 := by omega
  have d2 : wrap64 (((n + 1 : Nat) : Int) - 1) = (n : Int) := by rw [w64 (by omega) (by omega)]; omega
  have d3 : xs.length + (refG rs).length < 3518437208883 := by omega
  simp only [spec_l8Groups.l0, d1, d2, if_true]
  refine Ev.then E1 ?_
  refine Ev.then (spec_Ref_ev rs (by omega)) ?_
  simp only [d3, if_true]
  exact E2
theorem DrawRollupGroups_ok (b : List Int) (hb : b.length ≤ 140737488355328) : ∃ ys, Ev (fun k => spec_DrawRollupGroups.f k b) ys ∧ ys.length ≤ 1000 ∧ ∀ g ∈ ys, okG g := by
 obtain ⟨h1, E1⟩ := l1New_ok b hb
 obtain ⟨n, i2, h2, e2, c2, n0, n1, _⟩ := l1Below_ok b 0 h1 6 (cur0 hb) (by omega)
 have n1 := n1 (by omega)
 obtain ⟨q, rfl⟩ : ∃ q : Nat, n = (q : Int) := ⟨n.toNat, by omega⟩
 obtain ⟨ys, i3, h3, E3, l3, g3⟩ := l8_l0 b q [] i2 h2 c2 (by simp; omega) (by simp)
 refine ⟨ys, ?_, l3, g3⟩
 unfold spec_DrawRollupGroups.f
 refine Ev.then E1 ?_
 have E4 : Ev (fun k => spec_l8Groups.f k b 0 h1) (ys, i3, h3) := by
  unfold spec_l8Groups.f
  simp only [e2, Option.bind_some]
  exact E3
 refine Ev.then E4 ?_
 exact Ev.val rfl

theorem law_Rollup (b : List Int) (hb : b.length ≤ 140737488355328) : Ev (fun k => laws_FnRollup.f k b) true := by
 unfold laws_FnRollup.f
 simp only [laws_big.f, Option.bind_some]
 by_cases q : (b.length : Int) > 1048576
 ·simp only [q, decide_true, if_true]; exact Ev.val rfl
 ·simp only [q, decide_false, Bool.false_eq_true, if_false]
  obtain ⟨l, E1, hl, hs⟩ := DrawRollupRows_ok b hb
  obtain ⟨x, y, E2⟩ := DrawRollupKey_ok b hb
  obtain ⟨gs, E3, hgl, hgo⟩ := DrawRollupGroups_ok b hb
  have hr : ∀ r ∈ l, inR r.f0 ∧ inR r.f1 := fun r h => small_in (hs r h)
  have hrl := refG_len l
  have hro := refG_ok hr
  have hlen := roll_len (refG l)
  have hlen2 := roll_len gs
  have hok := roll_ok hro
  refine Ev.then E1 ?_
  refine Ev.then (impl_RollupRows_ev l (by omega) hr) ?_
  refine Ev.then (spec_RollupRows_ev l (by omega)) ?_
  refine Ev.then (impl_Ref_ev l (by omega) hr) ?_
  refine Ev.then (impl_Rollup_ev _ hro (by omega)) ?_
  refine Ev.then E2 ?_
  refine Ev.then E3 ?_
  simp only [if_true, impl_RollupKey_eq, spec_RollupKey_eq, Option.bind_some]
  refine Ev.then (impl_FRoll_ev _ hok (by omega)) ?_
  refine Ev.then (spec_FRoll_ev _ hok (by omega)) ?_
  simp only [if_true]
  refine Ev.then (impl_Rollup_ev gs hgo (by omega)) ?_
  refine Ev.then (impl_FRoll_ev _ (roll_ok hgo) (by omega)) ?_
  refine Ev.then (spec_Rollup_ev gs (by omega)) ?_
  refine Ev.then (spec_FRoll_ev _ (roll_ok hgo) (by omega)) ?_
  rw [bne_self_eq_false]
  refine Ev.succ ?_
  simp only [laws_FnRollup.j0, Bool.false_eq_true, if_false]
  have g0 : ∀ x ∈ l.map gfr, 0 ≤ x.f1 := by
   intro x hx
   obtain ⟨r, _, rfl⟩ := List.mem_map.1 hx
   show (0 : Int) ≤ 1
   omega
  have t0 : tot (l.map gfr) = (l.length : Int) := gfr_tot l
  obtain ⟨t1, g1⟩ := mrg_tot g0 (by rw [t0]; omega)
  have t2 : tot (refG l) = (l.length : Int) := by rw [← t0]; exact t1
  have g2 : ∀ x ∈ refG l, 0 ≤ x.f1 := g1
  exact law_l0 l (roll (refG l)) (by omega) hok (roll_cnt g2 (by rw [t2]; omega)) (fun v hv => by rw [cnt_roll g2 (by rw [t2]; omega) hv, t2]) _ [] rfl
theorem FnRollup_pure : laws_FnRollup.Pure := by
 intro l0 _ hl _
 obtain ⟨K, h⟩ := law_Rollup l0 (by omega)
 exact ⟨K, h K (Nat.le_refl _)⟩
end
end Go.Proofs.Ytphkghnppcfdpaa.P
