/- For every string the law FnExactParseJoiner of the given program returns true and leaves its argument as it was; no condition. -/
import Derived.Test.YtobndcjmjhehjaaPjf4
namespace Go.Proofs.Ytobndcjmjhehjaa.P
open Go.RowKit Go.Proofs.YtobndcjmjhehjaaW.PrintWords Go.Proofs.YtobndcjmjhehjaaW.PrintLast
set_option linter.unusedVariables false
set_option linter.unusedSimpArgs false
namespace Plain

abbrev T := List UInt8

def dec (n : Nat) : T := if n < 10 then [UInt8.ofNat (48 + n)] else dec (n / 10) ++ [UInt8.ofNat (48 + n % 10)]
 termination_by n
 decreasing_by omega

theorem dec_lt {n : Nat} (h : n < 10) : dec n = [UInt8.ofNat (48 + n)] := by rw [dec, if_pos h]
theorem dec_ge {n : Nat} (h : ¬ n < 10) : dec n = dec (n / 10) ++ [UInt8.ofNat (48 + n % 10)] := by rw [dec, if_neg h]

def isDig (c : UInt8) : Bool := 48 ≤ c.toNat && c.toNat ≤ 57
def dval (c : UInt8) : Nat := c.toNat - 48
def val (l : T) : Nat := l.foldl (fun n c => n * 10 + dval c) 0

theorem isDig_of {d : Nat} (h : d < 10) : isDig (UInt8.ofNat (48 + d)) = true := by
 have : (UInt8.ofNat (48 + d)).toNat = 48 + d := by rw [UInt8.toNat_ofNat']; omega
 unfold isDig
 rw [this, Bool.and_eq_true]
 exact ⟨decide_eq_true (by omega), decide_eq_true (by omega)⟩
theorem dval_of {d : Nat} (h : d < 10) : dval (UInt8.ofNat (48 + d)) = d := by
 have : (UInt8.ofNat (48 + d)).toNat = 48 + d := by rw [UInt8.toNat_ofNat']; omega
 unfold dval
 omega

theorem dec_dig (n : Nat) : ∀ c ∈ dec n, isDig c = true := by
 induction n using Nat.strongRecOn with
 | _ n ih =>
  by_cases h : n < 10
  ·rw [dec_lt h]; intro c hc; rw [List.mem_singleton] at hc; subst hc; exact isDig_of h
  ·rw [dec_ge h]; intro c hc
   rcases List.mem_append.1 hc with hc | hc
   ·exact ih _ (by omega) c hc
   ·rw [List.mem_singleton] at hc; subst hc; exact isDig_of (by omega)

theorem dec_ne (n : Nat) : dec n ≠ [] := by
 by_cases h : n < 10
 ·rw [dec_lt h]; simp
 ·rw [dec_ge h]; simp

theorem val_snoc (l : T) (c : UInt8) : val (l ++ [c]) = val l * 10 + dval c := by simp [val, List.foldl_append]

theorem val_dec (n : Nat) : val (dec n) = n := by
 induction n using Nat.strongRecOn with
 | _ n ih =>
  by_cases h : n < 10
  ·rw [dec_lt h, show [UInt8.ofNat (48 + n)] = [] ++ [UInt8.ofNat (48 + n)] from rfl, val_snoc, dval_of h]; simp [val]
  ·rw [dec_ge h, val_snoc, ih _ (by omega), dval_of (by omega)]; omega

theorem dec_len (n k : Nat) (hk : 0 < k) : (dec n).length ≤ k ↔ n < 10 ^ k := by
 induction n using Nat.strongRecOn generalizing k with
 | _ n ih =>
  by_cases h : n < 10
  ·rw [dec_lt h]
   simp only [List.length_singleton]
   constructor
   ·intro _
    calc n < 10 := h
     _ = 10 ^ 1 := rfl
     _ ≤ 10 ^ k := Nat.pow_le_pow_right (by omega) hk
   ·intro _; exact hk
  ·rw [dec_ge h]
   simp only [List.length_append, List.length_singleton]
   rcases Nat.lt_or_ge 1 k with h1 | h1
   ·have := ih (n / 10) (by omega) (k - 1) (by omega)
    have e : 10 ^ k = 10 * 10 ^ (k - 1) := by
     conv => lhs; rw [show k = (k - 1) + 1 by omega]
     rw [Nat.pow_succ, Nat.mul_comm]
    rw [e]
    constructor
    ·intro hl; have := this.1 (by omega); omega
    ·intro hn; have := this.2 (by omega); omega
   ·obtain rfl : k = 1 := by omega
    have hp : 0 < (dec (n / 10)).length := List.length_pos_iff.2 (dec_ne _)
    constructor
    ·intro hl; omega
    ·intro hn; omega

def fmtI (n : Int) : T := if n < 0 then 45 :: dec n.natAbs else dec n.toNat

def numSign (c : UInt8) : Bool := isDig c || c == 45
theorem fmtI_signs (n : Int) : ∀ c ∈ fmtI n, numSign c = true := by
 unfold fmtI; split
 ·intro c hc
  rcases List.mem_cons.1 hc with rfl | hc
  ·rfl
  ·simp [numSign, dec_dig _ c hc]
 ·intro c hc; simp [numSign, dec_dig _ c hc]

def digs (l : T) : T := l.filter isDig
def rawI (l : T) : Int := if l.head? = some 45 then -(val (digs l) : Int) else val (digs l)

theorem digs_all {l : T} (h : ∀ c ∈ l, isDig c = true) : digs l = l := by simpa [digs] using h

theorem rawI_fmt (n : Int) : rawI (fmtI n) = n := by
 unfold rawI fmtI
 split
 ·rename_i h
  have e : digs (45 :: dec n.natAbs) = dec n.natAbs := by
   have : isDig 45 = false := by decide
   simp only [digs, List.filter_cons, this]
   exact digs_all (dec_dig _)
  simp only [List.head?_cons, if_true, e, val_dec]
  omega
 ·rename_i h
  have e : digs (dec n.toNat) = dec n.toNat := digs_all (dec_dig _)
  have hne : (dec n.toNat).head? ≠ some 45 := by
   intro hh
   have := dec_dig n.toNat 45 (List.mem_of_mem_head? hh)
   exact absurd this (by decide)
  rw [if_neg hne, e, val_dec]
  omega

def pI (l : T) : Option Int := if fmtI (rawI l) = l ∧ -1000000000 < rawI l ∧ rawI l < 1000000000 then some (rawI l) else none
theorem pI_some {l : T} {n : Int} : pI l = some n ↔ fmtI n = l ∧ -1000000000 < n ∧ n < 1000000000 := by
 unfold pI
 split
 ·rename_i h
  simp only [Option.some.injEq]
  constructor
  ·rintro rfl; exact h
  ·rintro ⟨rfl, _⟩; exact rawI_fmt n
 ·rename_i h
  simp only [false_iff, reduceCtorEq]
  rintro ⟨rfl, h2⟩
  rw [rawI_fmt] at h
  exact h ⟨rfl, h2⟩

def split (s : UInt8) : T → List T
 | [] => [[]]
 | c :: r => if c = s then [] :: split s r else match split s r with
  | h :: t => (c :: h) :: t
  | [] => [[c]]
def join (s : T) : List T → T
 | [] => []
 | [a] => a
 | a :: b :: r => a ++ s ++ join s (b :: r)

theorem split_ne (s : UInt8) (l : T) : split s l ≠ [] := by
 cases l with
 | nil => simp [split]
 | cons c r => unfold split; split <;> (try split) <;> simp

theorem join_split (s : UInt8) (l : T) : join [s] (split s l) = l := by
 induction l with
 | nil => rfl
 | cons c r ih =>
  unfold split
  obtain ⟨h, t, e⟩ : ∃ h t, split s r = h :: t := by
   cases e : split s r with
   | nil => exact absurd e (split_ne s r)
   | cons h t => exact ⟨h, t, rfl⟩
  split
  ·rename_i hc
   subst hc
   rw [e] at ih ⊢
   show [] ++ [c] ++ join [c] (h :: t) = _
   rw [ih]; rfl
  ·rw [e] at ih ⊢
   show join [s] ((c :: h) :: t) = _
   cases t with
   | nil => show c :: h = _; rw [← ih]; rfl
   | cons h2 t2 => show (c :: h) ++ [s] ++ join [s] (h2 :: t2) = _; rw [← ih]; rfl

theorem split_free (s : UInt8) {l : T} (h : s ∉ l) : split s l = [l] := by
 induction l with
 | nil => rfl
 | cons c r ih =>
  unfold split
  rw [if_neg (fun e => h (by simp [e])), ih (fun e => h (by simp [e]))]

theorem split_app (s : UInt8) {a : T} (h : s ∉ a) (r : T) : split s (a ++ s :: r) = a :: split s r := by
 induction a with
 | nil => show split s (s :: r) = [] :: split s r; rw [split, if_pos rfl]
 | cons c a ih =>
  show split s (c :: (a ++ s :: r)) = _
  conv => lhs; unfold split
  rw [if_neg (fun e => h (by simp [e])), ih (fun e => h (by simp [e]))]

theorem split_join (s : UInt8) : ∀ {ls : List T}, ls ≠ [] → (∀ a ∈ ls, s ∉ a) → split s (join [s] ls) = ls
 | [], h, _ => absurd rfl h
 | [a], _, h => split_free s (h a (by simp))
 | a :: b :: r, _, h => by
  have ih := split_join s (ls := b :: r) (by simp) (fun x hx => h x (by simp at hx ⊢; right; exact hx))
  show split s (a ++ [s] ++ join [s] (b :: r)) = _
  rw [List.append_assoc]
  show split s (a ++ s :: join [s] (b :: r)) = _
  rw [split_app s (h a (by simp)), ih]

theorem join_snoc (s : T) : ∀ {l : List T}, l ≠ [] → ∀ a, join s (l ++ [a]) = join s l ++ s ++ a
 | [], h, _ => absurd rfl h
 | [b], _, a => rfl
 | b :: c :: r, _, a => by
  show b ++ s ++ join s ((c :: r) ++ [a]) = b ++ s ++ join s (c :: r) ++ s ++ a
  rw [join_snoc s (by simp) a]; simp [List.append_assoc]

end Plain
open Plain
namespace Br

theorem Ev.succ {α : Type} {g : Nat → Option α} {r : α} (h : Ev (fun k => g (k + 1)) r) : Ev g r := by
 obtain ⟨K, h⟩ := h
 refine ⟨K + 1, fun k hk => ?_⟩
 have := h (k - 1) (by omega)
 simpa [show k - 1 + 1 = k by omega] using this
theorem Ev.val {α : Type} {v r : α} (h : v = r) : Ev (fun _ => some v) r := ⟨0, fun _ _ => by rw [h]⟩
theorem Ev.then {α β : Type} {g : Nat → Option α} {f : Nat → α → Option β} {a : α} {r : β} (h : Ev g a) (k : Ev (fun n => f n a) r) : Ev (fun n => (g n).bind (f n)) r := Ev.bind h k
theorem Ev.one {α : Type} {g : Nat → Option α} {a : α} (h : Ev g a) : Ev (fun n => (g n).bind fun t => some t) a := Ev.bind h (Ev.val rfl)
def L (s : ByteArray) : T := s.data.toList
def B (l : T) : ByteArray := ⟨l.toArray⟩
theorem L_B (l : T) : L (B l) = l := by simp [L, B]
theorem B_L (s : ByteArray) : B (L s) = s := by cases s; simp [L, B]
theorem L_inj {a b : ByteArray} : L a = L b ↔ a = b := ⟨fun h => by rw [← B_L a, ← B_L b, h], fun h => by rw [h]⟩
theorem B_inj {a b : T} : B a = B b ↔ a = b := ⟨fun h => by rw [← L_B a, ← L_B b, h], fun h => by rw [h]⟩
theorem size_L (s : ByteArray) : s.size = (L s).length := by rw [L, Array.length_toList]; rfl
theorem size_B (l : T) : (B l).size = l.length := by rw [size_L, L_B]
theorem B_append (a b : T) : B a ++ B b = B (a ++ b) := by
 rw [← L_inj, L_B]; simp [L, B, ByteArray.data_append]
theorem toList_L (s : ByteArray) : s.toList = L s := ByteArray.toList_eq s
theorem toList_B (l : T) : (B l).toList = l := by rw [toList_L, L_B]
theorem lit_B (a : Array UInt8) : (⟨a⟩ : ByteArray) = B a.toList := by simp [B]
theorem B_nil : B [] = (⟨#[]⟩ : ByteArray) := rfl
theorem extract_B (l : T) (a b : Nat) : (B l).extract a b = B ((l.take b).drop a) := by
 rw [← L_inj, L_B]
 show ((B l).extract a b).data.toList = _
 rw [ByteArray.data_extract, Array.toList_extract]
 show (l.drop a).take (b - a) = _
 rw [List.drop_take]
theorem bt_B (l : T) (i : Int) (h : i.toNat < l.length) : bt (B l) i = ((l[i.toNat]'h).toNat : Int) := by
 unfold bt
 rw [dif_pos (by rw [size_B]; exact h)]
 rfl
theorem strOfNums_one (n : Int) : strOfNums [n] = B [UInt8.ofNat n.toNat] := rfl
theorem w64 {n : Int} (h1 : -9223372036854775808 ≤ n) (h2 : n ≤ 9223372036854775807) : wrap64 n = n := by unfold wrap64; omega
theorem wu64 {n : Int} (h1 : 0 ≤ n) (h2 : n ≤ 18446744073709551615) : IntKind.u64.wrap n = n := by
 unfold IntKind.wrap
 dsimp only
 rw [if_neg (by rw [show IntKind.u64.signed = false from rfl, Bool.false_and]; decide)]
 show n % 18446744073709551616 = n
 omega
end Br
open Plain Br
section
theorem tdiv_nat (m : Nat) : Int.tdiv (m : Int) 10 = ((m / 10 : Nat) : Int) := rfl
theorem tmod_nat (m : Nat) : Int.tmod (m : Int) 10 = ((m % 10 : Nat) : Int) := rfl
theorem dec_len20 (m : Nat) (h : m < 18446744073709551616) : (dec m).length ≤ 20 := (dec_len m 20 (by omega)).2 (by omega)
theorem dig_str (m : Nat) (h : m < 10) : strOfNums [(48 + (m : Int)) % 256] = B [UInt8.ofNat (48 + m)] := by
 rw [strOfNums_one, show ((48 + (m : Int)) % 256).toNat = 48 + m by omega]

theorem impl_decimal_ev : ∀ m : Nat, m < 18446744073709551616 → Ev (fun k => impl_decimal.f k (m : Int)) (B (dec m)) := by
 intro m
 induction m using Nat.strongRecOn with
 | _ m ih =>
  intro hm
  refine Ev.succ ?_
  by_cases h : m < 10
  ·have h1 : ((m : Int) < 10) := by omega
   simp only [impl_decimal.f, h1, if_true]
   rw [wu64 (by omega) (by omega), dig_str m h, dec_lt h]
   exact Ev.val rfl
  ·have h1 : ¬ ((m : Int) < 10) := by omega
   simp only [impl_decimal.f, h1, if_false, tdiv_nat, tmod_nat]
   rw [wu64 (by omega) (by omega)]
   refine Ev.then (ih (m / 10) (by omega) (by omega)) ?_
   simp only [Option.bind_some]
   rw [wu64 (by omega) (by omega), dig_str _ (by omega)]
   have hl := dec_len20 (m / 10) (by omega)
   have h2 : (B (dec (m / 10))).size + (B [UInt8.ofNat (48 + m % 10)]).size ≤ 9223372036854775807 := by rw [size_B, size_B]; simp only [List.length_singleton]; omega
   simp only [h2, if_true]
   rw [B_append, ← dec_ge h]
   exact Ev.val rfl

theorem impl_FormatInt_ev (n : Int) (h1 : -9223372036854775808 ≤ n) (h2 : n ≤ 9223372036854775807) : Ev (fun k => impl_FormatInt.f k n) (B (fmtI n)) := by
 simp only [impl_FormatInt.f]
 by_cases h : n < 0
 ·have e : IntKind.u64.wrap (-IntKind.u64.wrap n) = ((n.natAbs : Nat) : Int) := by
   have e1 : ∀ x : Int, IntKind.u64.wrap x = x % 18446744073709551616 := by
    intro x
    unfold IntKind.wrap
    dsimp only
    rw [if_neg (by rw [show IntKind.u64.signed = false from rfl, Bool.false_and]; decide)]
    rfl
   rw [e1, e1]; omega
  simp only [h, if_true, e]
  refine Ev.then (impl_decimal_ev _ (by omega)) ?_
  have hl := dec_len20 n.natAbs (by omega)
  have h3 : 1 + (B (dec n.natAbs)).size ≤ 9223372036854775807 := by rw [size_B]; omega
  simp only [h3, if_true]
  refine Ev.val ?_
  rw [lit_B, B_append]
  unfold fmtI
  rw [if_pos h]
  rfl
 ·have e : IntKind.u64.wrap n = ((n.toNat : Nat) : Int) := by rw [wu64 (by omega) (by omega)]; omega
  simp only [h, if_false, e]
  refine Ev.then (impl_decimal_ev _ (by omega)) (Ev.val ?_)
  unfold fmtI
  rw [if_neg h]

theorem spec_FormatInt_l0 (neg : Bool) : ∀ (m : Nat) (n : Int) (acc : T), n.natAbs = m → -9223372036854775808 ≤ n → n ≤ 9223372036854775807 → acc.length + (dec m).length ≤ 1000 → n ≠ 0 →
  Ev (fun k => spec_FormatInt.l0 k n (B acc) neg) (B ((if neg then [45] else []) ++ dec m ++ acc)) := by
 intro m
 induction m using Nat.strongRecOn with
 | _ m ih =>
  intro n acc hm h1 h2 hacc hn
  have hlast : ∀ (acc : T), acc.length < 9223372036854775100 → Ev (fun k => spec_FormatInt.l0 k 0 (B acc) neg) (B ((if neg then [45] else []) ++ acc)) := by
   intro acc ha
   refine Ev.succ ?_
   cases neg with
   | true =>
    have h3 : 1 + (B acc).size ≤ 9223372036854775807 := by rw [size_B]; omega
    simp only [spec_FormatInt.l0, if_true, h3]
    exact Ev.val (by rw [lit_B, B_append])
   | false =>
    simp only [spec_FormatInt.l0, if_true, Bool.false_eq_true, if_false]
    exact Ev.val rfl
  have key : Ev (fun k => spec_FormatInt.l0 k (Int.tdiv n 10) (B ([UInt8.ofNat (48 + m % 10)] ++ acc)) neg) (B ((if neg then [45] else []) ++ dec m ++ acc)) := by
   by_cases h10 : m < 10
   ·have e : Int.tdiv n 10 = 0 := by
     rcases Int.lt_or_le n 0 with hn0 | hn0
     ·obtain ⟨j, rfl⟩ : ∃ j : Nat, n = -(j : Int) := ⟨n.natAbs, by omega⟩
      rw [Int.neg_tdiv, tdiv_nat]; omega
     ·obtain ⟨j, rfl⟩ : ∃ j : Nat, n = (j : Int) := ⟨n.natAbs, by omega⟩
      rw [tdiv_nat]; omega
    rw [e]
    have := hlast ([UInt8.ofNat (48 + m % 10)] ++ acc) (by simp; omega)
    rw [dec_lt h10, List.append_assoc, show UInt8.ofNat (48 + m) = UInt8.ofNat (48 + m % 10) by rw [Nat.mod_eq_of_lt h10]]
    exact this
   ·have e : (Int.tdiv n 10).natAbs = m / 10 := by
     rcases Int.lt_or_le n 0 with hn0 | hn0
     ·obtain ⟨j, rfl⟩ : ∃ j : Nat, n = -(j : Int) := ⟨n.natAbs, by omega⟩
      rw [Int.neg_tdiv, tdiv_nat]; omega
     ·obtain ⟨j, rfl⟩ : ∃ j : Nat, n = (j : Int) := ⟨n.natAbs, by omega⟩
      rw [tdiv_nat]; omega
    obtain ⟨q, hq⟩ : ∃ q, q = Int.tdiv n 10 := ⟨_, rfl⟩
    rw [← hq] at e ⊢
    clear hq
    have := ih (m / 10) (by omega) q ([UInt8.ofNat (48 + m % 10)] ++ acc) e (by omega) (by omega) (by rw [dec_ge h10] at hacc; simp at hacc ⊢; omega) (by omega)
    rw [dec_ge h10]
    simpa [List.append_assoc] using this
  refine Ev.succ ?_
  have hn' : ¬ (n = 0) := hn
  have hsz : (B [UInt8.ofNat (48 + m % 10)]).size + (B acc).size ≤ 9223372036854775807 := by rw [size_B, size_B]; simp only [List.length_singleton]; omega
  have htd : wrap64 (Int.tdiv n 10) = Int.tdiv n 10 := by
   apply w64
   ·rcases Int.lt_or_le n 0 with hn0 | hn0
    ·obtain ⟨j, rfl⟩ : ∃ j : Nat, n = -(j : Int) := ⟨n.natAbs, by omega⟩
     rw [Int.neg_tdiv, tdiv_nat]; omega
    ·obtain ⟨j, rfl⟩ : ∃ j : Nat, n = (j : Int) := ⟨n.natAbs, by omega⟩
     rw [tdiv_nat]; omega
   ·rcases Int.lt_or_le n 0 with hn0 | hn0
    ·obtain ⟨j, rfl⟩ : ∃ j : Nat, n = -(j : Int) := ⟨n.natAbs, by omega⟩
     rw [Int.neg_tdiv, tdiv_nat]; omega
    ·obtain ⟨j, rfl⟩ : ∃ j : Nat, n = (j : Int) := ⟨n.natAbs, by omega⟩
     rw [tdiv_nat]; omega
  rcases Int.lt_or_le n 0 with hn0 | hn0
  ·have hmod : Int.tmod n 10 = -((m % 10 : Nat) : Int) := by
    obtain ⟨j, rfl⟩ : ∃ j : Nat, n = -(j : Int) := ⟨n.natAbs, by omega⟩
    rw [Int.neg_tmod, tmod_nat]; omega
   by_cases hz : m % 10 = 0
   ·have h3 : ¬ (Int.tmod n 10 < 0) := by rw [hmod]; omega
    have e1 : wrap64 (48 + Int.tmod n 10) = 48 + ((m % 10 : Nat) : Int) := by rw [hmod]; unfold wrap64; omega
    simp only [spec_FormatInt.l0, hn', h3, if_false, Option.bind_some, e1, dig_str _ (show m % 10 < 10 by omega), hsz, if_true, htd, B_append]
    exact key
   ·have h3 : Int.tmod n 10 < 0 := by rw [hmod]; omega
    have e1 : wrap64 (48 + wrap64 (-(Int.tmod n 10))) = 48 + ((m % 10 : Nat) : Int) := by rw [hmod]; unfold wrap64; omega
    simp only [spec_FormatInt.l0, hn', h3, if_false, Option.bind_some, e1, dig_str _ (show m % 10 < 10 by omega), hsz, if_true, htd, B_append]
    exact key
  ·have hmod : Int.tmod n 10 = ((m % 10 : Nat) : Int) := by
    obtain ⟨j, rfl⟩ : ∃ j : Nat, n = (j : Int) := ⟨n.natAbs, by omega⟩
    rw [tmod_nat]; omega
   have h3 : ¬ (Int.tmod n 10 < 0) := by rw [hmod]; omega
   have e1 : wrap64 (48 + Int.tmod n 10) = 48 + ((m % 10 : Nat) : Int) := by rw [hmod]; unfold wrap64; omega
   simp only [spec_FormatInt.l0, hn', h3, if_false, Option.bind_some, e1, dig_str _ (show m % 10 < 10 by omega), hsz, if_true, htd, B_append]
   exact key

theorem spec_FormatInt_ev (n : Int) (h1 : -9223372036854775808 ≤ n) (h2 : n ≤ 9223372036854775807) : Ev (fun k => spec_FormatInt.f k n) (B (fmtI n)) := by
 simp only [spec_FormatInt.f]
 by_cases h : n = 0
 ·subst h
  simp only [if_true]
  refine Ev.val ?_
  rw [lit_B]
  unfold fmtI
  rw [if_neg (by decide), show (0 : Int).toNat = 0 from rfl, dec_lt (by decide)]
  rfl
 ·simp only [h, if_false]
  have := spec_FormatInt_l0 (decide (n < 0)) n.natAbs n [] rfl h1 h2 (by have := dec_len20 n.natAbs (by omega); simp; omega) h
  rw [← B_nil]
  refine cast (congrArg _ ?_) this
  congr 1
  unfold fmtI
  by_cases hn : n < 0
  ·rw [if_pos hn]; simp [hn]
  ·rw [if_neg hn, show n.toNat = n.natAbs by omega]; simp [hn]

def cutAcc (l : T) (s : UInt8) (i j : Nat) : List T := ((l.drop i).take (j - i)) |> fun cur => match split s (l.drop j) with
 | h :: t => (cur ++ h) :: t
 | [] => [cur]
theorem cutAcc_end (l : T) (s : UInt8) (i : Nat) : cutAcc l s i l.length = [l.drop i] := by
 unfold cutAcc
 rw [List.drop_length]
 simp [split, List.take_of_length_le]
theorem take_snoc' (l : T) (i j : Nat) (h : i ≤ j) (hj : j < l.length) : (l.drop i).take (j + 1 - i) = (l.drop i).take (j - i) ++ [l[j]] := by
 rw [show j + 1 - i = (j - i) + 1 by omega, List.take_succ_eq_append_getElem (by simp; omega)]
 congr 2
 rw [List.getElem_drop]; congr 1; omega
theorem drop_cons' (l : T) (j : Nat) (hj : j < l.length) : l.drop j = l[j] :: l.drop (j + 1) := by rw [List.drop_eq_getElem_cons hj]
theorem cutAcc_hit (l : T) (s : UInt8) (i j : Nat) (hj : j < l.length) (h : l[j] = s) : cutAcc l s i j = ((l.drop i).take (j - i)) :: cutAcc l s (j + 1) (j + 1) := by
 unfold cutAcc
 rw [drop_cons' l j hj]
 simp only [split, h, if_true, List.append_nil]
 congr 1
 rw [Nat.sub_self, List.take_zero]
 cases hh : split s (l.drop (j + 1)) with
 | nil => exact absurd hh (split_ne _ _)
 | cons a t => rfl
theorem cutAcc_miss (l : T) (s : UInt8) (i j : Nat) (hij : i ≤ j) (hj : j < l.length) (h : l[j] ≠ s) : cutAcc l s i j = cutAcc l s i (j + 1) := by
 unfold cutAcc
 rw [drop_cons' l j hj, take_snoc' l i j hij hj]
 simp only [split, h, if_false]
 cases hh : split s (l.drop (j + 1)) with
 | nil => exact absurd hh (split_ne _ _)
 | cons a t => simp
theorem cutAcc_start (l : T) (s : UInt8) : cutAcc l s 0 0 = split s l := by
 unfold cutAcc
 simp only [List.drop_zero, Nat.sub_self, List.take_zero]
 cases hh : split s l with
 | nil => exact absurd hh (split_ne _ _)
 | cons a t => rfl

theorem extract_mid (l : T) (i j : Nat) (hij : i ≤ j) : (B l).extract ((i : Int).toNat) ((j : Int).toNat) = B ((l.drop i).take (j - i)) := by
 rw [extract_B, Int.toNat_natCast, Int.toNat_natCast, List.drop_take]
theorem bt_nat (l : T) (j : Nat) (h : j < l.length) : bt (B l) (j : Int) = ((l[j]'h).toNat : Int) := by
 rw [bt_B l (j : Int) (by simpa using h)]
 congr 1
theorem eq_sign (l : T) (j : Nat) (h : j < l.length) (s : UInt8) : (bt (B l) (j : Int) = (s.toNat : Int)) ↔ l[j] = s := by
 rw [bt_nat l j h]
 constructor
 ·intro e; exact UInt8.toNat_inj.1 (by omega)
 ·rintro rfl; rfl

theorem spec_l2Cut_l0 (l : T) (s : UInt8) (hl : l.length ≤ 4294967296) : ∀ (d i j : Nat) (acc : List ByteArray), l.length - j = d → i ≤ j → j ≤ l.length → acc.length ≤ j →
  Ev (fun k => spec_l2Cut.l0 k (B l) (s.toNat : Int) acc (i : Int) (j : Int)) (acc ++ (cutAcc l s i j).map B) := by
 intro d
 induction d with
 | zero =>
  intro i j acc hd hij hj ha
  refine Ev.succ ?_
  obtain rfl : j = l.length := by omega
  have c1 : ¬ ((l.length : Int) < ((B l).size : Int)) := by rw [size_B]; omega
  have c2 : (0 : Int) ≤ (i : Int) := by omega
  have c3 : (i : Int) ≤ ((B l).size : Int) := by rw [size_B]; omega
  have c4 : acc.length < 8796093022208 := by omega
  simp only [spec_l2Cut.l0, c1, if_false, c2, c3, c4, if_true]
  refine Ev.val ?_
  rw [cutAcc_end, List.map_singleton, extract_B, size_B, List.take_length, Int.toNat_natCast]
 | succ d ih =>
  intro i j acc hd hij hj ha
  refine Ev.succ ?_
  have hjl : j < l.length := by omega
  have c1 : (j : Int) < ((B l).size : Int) := by rw [size_B]; omega
  have c2 : (0 : Int) ≤ (j : Int) := by omega
  have e1 : wrap64 ((j : Int) + 1) = ((j + 1 : Nat) : Int) := by unfold wrap64; omega
  by_cases h : l[j] = s
  ·have c3 := (eq_sign l j hjl s).2 h
   have c4 : (0 : Int) ≤ (i : Int) := by omega
   have c5 : (i : Int) ≤ (j : Int) := by omega
   have c6 : (j : Int) ≤ ((B l).size : Int) := by omega
   have c7 : acc.length < 8796093022208 := by omega
   simp only [spec_l2Cut.l0, c1, c2, c3, c4, c5, c6, c7, if_true, e1, extract_mid l i j hij]
   have := ih (j + 1) (j + 1) (acc ++ [B ((l.drop i).take (j - i))]) (by omega) (by omega) (by omega) (by simp; omega)
   rw [cutAcc_hit l s i j hjl h, List.map_cons]
   simpa using this
  ·have c3 := (not_congr (eq_sign l j hjl s)).2 h
   simp only [spec_l2Cut.l0, c1, c2, c3, if_true, if_false, e1]
   rw [cutAcc_miss l s i j hij hjl h]
   exact ih i (j + 1) acc (by omega) (by omega) (by omega) (by omega)

theorem spec_l2Cut_ev (l : T) (s : UInt8) (hl : l.length ≤ 4294967296) : Ev (fun k => spec_l2Cut.f k (B l) (s.toNat : Int)) ((split s l).map B) := by
 have := spec_l2Cut_l0 l s hl l.length 0 0 [] (by omega) (by omega) (by omega) (by simp)
 rw [cutAcc_start] at this
 exact this

theorem impl_cut_l0 (l : T) (s : UInt8) (hl : l.length ≤ 4294967296) : ∀ (d i j : Nat) (acc : List ByteArray), l.length - j = d → i ≤ j → j ≤ l.length → acc.length ≤ j →
  Ev (fun k => impl_cut.l0 k (B l) (s.toNat : Int) acc (i : Int) (l.length : Int) (j : Int)) (acc ++ (cutAcc l s i j).map B) := by
 intro d
 induction d with
 | zero =>
  intro i j acc hd hij hj ha
  refine Ev.succ ?_
  obtain rfl : j = l.length := by omega
  have c1 : ¬ ((l.length : Int) < (l.length : Int)) := by omega
  have c2 : (0 : Int) ≤ (i : Int) := by omega
  have c3 : (i : Int) ≤ ((B l).size : Int) := by rw [size_B]; omega
  have c4 : acc.length < 8796093022208 := by omega
  simp only [impl_cut.l0, c1, if_false, c2, c3, c4, if_true]
  refine Ev.val ?_
  rw [cutAcc_end, List.map_singleton, extract_B, size_B, List.take_length, Int.toNat_natCast]
 | succ d ih =>
  intro i j acc hd hij hj ha
  refine Ev.succ ?_
  have hjl : j < l.length := by omega
  have c0 : (j : Int) < (l.length : Int) := by omega
  have c1 : (j : Int) < ((B l).size : Int) := by rw [size_B]; omega
  have c2 : (0 : Int) ≤ (j : Int) := by omega
  have e1 : wrap64 ((j : Int) + 1) = ((j + 1 : Nat) : Int) := by unfold wrap64; omega
  by_cases h : l[j] = s
  ·have c3 := (eq_sign l j hjl s).2 h
   have c4 : (0 : Int) ≤ (i : Int) := by omega
   have c5 : (i : Int) ≤ (j : Int) := by omega
   have c6 : (j : Int) ≤ ((B l).size : Int) := by omega
   have c7 : acc.length < 8796093022208 := by omega
   simp only [impl_cut.l0, c0, c1, c2, c3, c4, c5, c6, c7, if_true, e1, extract_mid l i j hij]
   have := ih (j + 1) (j + 1) (acc ++ [B ((l.drop i).take (j - i))]) (by omega) (by omega) (by omega) (by simp; omega)
   rw [cutAcc_hit l s i j hjl h, List.map_cons]
   simpa using this
  ·have c3 := (not_congr (eq_sign l j hjl s)).2 h
   simp only [impl_cut.l0, c0, c1, c2, c3, if_true, if_false, e1]
   rw [cutAcc_miss l s i j hij hjl h]
   exact ih i (j + 1) acc (by omega) (by omega) (by omega) (by omega)

theorem impl_cut_ev (l : T) (s : UInt8) (hl : l.length ≤ 4294967296) : Ev (fun k => impl_cut.f k (B l) (s.toNat : Int)) ((split s l).map B) := by
 have := impl_cut_l0 l s hl l.length 0 0 [] (by omega) (by omega) (by omega) (by simp)
 rw [cutAcc_start] at this
 simp only [impl_cut.f, size_B]
 exact this
end
open Plain Br
section
theorem snoc_ind {α : Type} {P : List α → Prop} (h0 : P []) (h1 : ∀ l c, P l → P (l ++ [c])) (l : List α) : P l := by
 rw [← l.reverse_reverse]
 induction l.reverse with
 | nil => exact h0
 | cons c r ih => rw [List.reverse_cons]; exact h1 _ _ ih
theorem dval_lt {c : UInt8} (hc : isDig c = true) : dval c < 10 := by
 unfold isDig at hc
 rw [Bool.and_eq_true] at hc
 have h1 := of_decide_eq_true hc.1
 have h2 := of_decide_eq_true hc.2
 unfold dval
 omega
theorem val_lt {l : T} (h : ∀ c ∈ l, isDig c = true) : val l < 10 ^ l.length := by
 induction l using snoc_ind with
 | h0 => simp [val]
 | h1 l c ih =>
  have hc := dval_lt (h c (by simp))
  have := ih (fun x hx => h x (by simp [hx]))
  rw [val_snoc, List.length_append, List.length_singleton, Nat.pow_succ]
  omega
theorem step64 (v d : Nat) (hv : v < 10000000000000) (hd : d < 10) : wrap64 (wrap64 (10 * (v : Int)) + (d : Int)) = ((v * 10 + d : Nat) : Int) := by unfold wrap64; omega
theorem step64' (v d : Nat) (hv : v < 10000000000000) (hd : d < 10) : wrap64 (wrap64 ((v : Int) * 10) + (d : Int)) = ((v * 10 + d : Nat) : Int) := by unfold wrap64; omega
theorem succ64 (j : Nat) (hj : j < 9223372036854775807) : wrap64 ((j : Int) + 1) = ((j + 1 : Nat) : Int) := by unfold wrap64; omega
theorem ten9 : (10 : Nat) ^ 9 = 1000000000 := rfl
theorem ten11 : (10 : Nat) ^ 11 = 100000000000 := rfl
theorem val_lt9 {l : T} (h : ∀ c ∈ l, isDig c = true) (hl : l.length ≤ 9) : val l < 1000000000 := by
 have h1 := val_lt h
 have h2 : 10 ^ l.length ≤ 10 ^ 9 := Nat.pow_le_pow_right (by omega) hl
 rw [ten9] at h2
 omega
theorem val_lt11 {l : T} (h : ∀ c ∈ l, isDig c = true) (hl : l.length ≤ 11) : val l < 100000000000 := by
 have h1 := val_lt h
 have h2 : 10 ^ l.length ≤ 10 ^ 11 := Nat.pow_le_pow_right (by omega) hl
 rw [ten11] at h2
 omega
def endI (l : T) (n : Int) : Int × Bool := if fmtI n = l then (n, true) else (0, false)
def sgn (b : Bool) (v : Nat) : Int := if b = true then -(v : Int) else v
theorem sgn_bd9 (b : Bool) (v : Nat) (h : v < 1000000000) : -1000000000 < sgn b v ∧ sgn b v < 1000000000 := by unfold sgn; split <;> omega
theorem wneg (v : Nat) (h : v < 100000000000) : wrap64 (-(v : Int)) = -(v : Int) := by unfold wrap64; omega
theorem digs_dig (l : T) : ∀ c ∈ digs l, isDig c = true := by
 intro c hc; exact (List.mem_filter.1 hc).2
theorem digs_len (l : T) : (digs l).length ≤ l.length := List.length_filter_le _ _
def pIr (l : T) : Int × Bool := match pI l with
 | some n => (n, true)
 | none => (0, false)
theorem pIr_some {l : T} {n : Int} (h : fmtI n = l) (h1 : -1000000000 < n) (h2 : n < 1000000000) : pIr l = (n, true) := by
 unfold pIr
 rw [pI_some.2 ⟨h, h1, h2⟩]
theorem pIr_none {l : T} (h : ∀ n, fmtI n = l → -1000000000 < n → n < 1000000000 → False) : pIr l = (0, false) := by
 unfold pIr
 cases e : pI l with
 | none => rfl
 | some n =>
  obtain ⟨h1, h2, h3⟩ := pI_some.1 e
  exact (h n h1 h2 h3).elim
theorem pIr_cases (l : T) : (∃ n, pIr l = (n, true) ∧ fmtI n = l ∧ -1000000000 < n ∧ n < 1000000000) ∨ pIr l = (0, false) := by
 unfold pIr
 cases e : pI l with
 | none => exact .inr rfl
 | some n => exact .inl ⟨n, rfl, pI_some.1 e⟩
theorem dec_head (m : Nat) : (dec m).head? ≠ some 45 := by
 intro h
 exact absurd (dec_dig m 45 (List.mem_of_mem_head? h)) (by decide)
theorem fmtI_neg {n : Int} (h : n < 0) : fmtI n = 45 :: dec n.natAbs := by unfold fmtI; rw [if_pos h]
theorem fmtI_pos {n : Int} (h : ¬ n < 0) : fmtI n = dec n.natAbs := by unfold fmtI; rw [if_neg h, show n.toNat = n.natAbs by omega]

def body (l : T) : T := if l.head? = some 45 then l.tail else l
theorem body_len (l : T) : (body l).length < l.length ↔ l.head? = some 45 := by
 unfold body
 cases l with
 | nil => simp
 | cons a r =>
  by_cases h : a = 45
  ·simp [h]
  ·simp [h]
theorem body_fmt (n : Int) : body (fmtI n) = dec n.natAbs := by
 unfold body
 by_cases h : n < 0
 ·rw [fmtI_neg h]; rfl
 ·rw [fmtI_pos h, if_neg (dec_head _)]
theorem sgn_fmt (n : Int) : sgn (decide ((body (fmtI n)).length < (fmtI n).length)) n.natAbs = n := by
 unfold sgn
 by_cases hn : n < 0
 ·rw [if_pos (decide_eq_true ((body_len _).2 (by rw [fmtI_neg hn]; rfl)))]; omega
 ·rw [if_neg (by rw [decide_eq_true_iff, body_len, fmtI_pos hn]; exact dec_head _)]; omega
theorem endI_eq {l : T} {n : Int} (h1 : -1000000000 < n) (h2 : n < 1000000000) (h : ∀ m, fmtI m = l → m = n) : pIr l = endI l n := by
 unfold endI
 by_cases e : fmtI n = l
 ·rw [if_pos e]; exact pIr_some e h1 h2
 ·rw [if_neg e]; exact pIr_none fun m em _ _ => e (h m em ▸ em)
theorem pIr_impl (l : T) : pIr l = if (body l).length < 1 ∨ 9 < (body l).length then (0, false) else if ∀ c ∈ body l, isDig c = true then
  endI l (sgn (decide ((body l).length < l.length)) (val (body l))) else (0, false) := by
 by_cases h : (body l).length < 1 ∨ 9 < (body l).length
 ·rw [if_pos h]
  refine pIr_none fun n e h1 h2 => ?_
  rw [← e, body_fmt] at h
  have h3 := (dec_len n.natAbs 9 (by omega)).2 (by rw [ten9]; omega)
  have h4 := List.length_pos_iff.2 (dec_ne n.natAbs)
  omega
 ·rw [if_neg h]
  by_cases hd : ∀ c ∈ body l, isDig c = true
  ·rw [if_pos hd]
   have hv := sgn_bd9 (decide ((body l).length < l.length)) _ (val_lt9 hd (by omega))
   refine endI_eq hv.1 hv.2 fun m em => ?_
   subst em
   rw [body_fmt, val_dec, ← body_fmt, sgn_fmt]
  ·rw [if_neg hd]
   refine pIr_none fun n e h1 h2 => hd ?_
   rw [← e, body_fmt]
   exact dec_dig _

theorem isDig_iff (c : UInt8) : isDig c = true ↔ 48 ≤ (c.toNat : Int) ∧ (c.toNat : Int) ≤ 57 := by
 unfold isDig
 rw [Bool.and_eq_true, decide_eq_true_iff, decide_eq_true_iff]
 omega
theorem val_take (l : T) (j : Nat) (hj : j < l.length) : val (l.take (j + 1)) = val (l.take j) * 10 + dval l[j] := by
 rw [List.take_succ_eq_append_getElem hj, val_snoc]
theorem dval_int (c : UInt8) (h : isDig c = true) : ((c.toNat : Int) - 48) % 256 = (dval c : Int) := by
 have := (isDig_iff c).1 h
 unfold dval
 omega
theorem take_dig {l : T} {j : Nat} (hj : j < l.length) (h : ∀ c ∈ l.take j, isDig c = true) (hc : isDig l[j] = true) : ∀ c ∈ l.take (j + 1), isDig c = true := by
 rw [List.take_succ_eq_append_getElem hj]
 intro c hm
 rcases List.mem_append.1 hm with hm | hm
 ·exact h c hm
 ·rw [List.mem_singleton] at hm; rw [hm]; exact hc

theorem impl_ParseInt_end (l ds : T) (hd : ds.length ≤ 9) (hall : ∀ c ∈ ds, isDig c = true) :
  Ev (fun k => impl_ParseInt.l0 k (B l) (B ds) (val ds : Int) (ds.length : Int) (ds.length : Int)) (endI l (sgn (decide (ds.length < l.length)) (val ds))) := by
 have hv := val_lt9 hall hd
 refine Ev.succ ?_
 have c1 : ¬ ((ds.length : Int) < (ds.length : Int)) := by omega
 by_cases hlt : ds.length < l.length
 ·have c2 : ((B ds).size : Int) < ((B l).size : Int) := by rw [size_B, size_B]; omega
  have e1 := wneg (val ds) (by omega)
  have e2 : sgn (decide (ds.length < l.length)) (val ds) = -(val ds : Int) := by unfold sgn; rw [if_pos (decide_eq_true hlt)]
  simp only [impl_ParseInt.l0, c1, if_false, c2, if_true, e1, e2]
  refine Ev.then (impl_FormatInt_ev _ (by omega) (by omega)) ?_
  simp only [toList_B]
  unfold endI
  by_cases h3 : fmtI (-(val ds : Int)) = l
  ·simp only [h3, if_true]; exact Ev.val rfl
  ·simp only [h3, if_false]; exact Ev.val rfl
 ·have c2 : ¬ (((B ds).size : Int) < ((B l).size : Int)) := by rw [size_B, size_B]; omega
  have e2 : sgn (decide (ds.length < l.length)) (val ds) = (val ds : Int) := by unfold sgn; rw [if_neg (by rw [decide_eq_true_iff]; exact hlt)]
  simp only [impl_ParseInt.l0, c1, if_false, c2, e2]
  refine Ev.then (impl_FormatInt_ev _ (by omega) (by omega)) ?_
  simp only [toList_B]
  unfold endI
  by_cases h3 : fmtI (val ds : Int) = l
  ·simp only [h3, if_true]; exact Ev.val rfl
  ·simp only [h3, if_false]; exact Ev.val rfl
theorem impl_ParseInt_l0 (l ds : T) (hds : ds.length ≤ 9) : ∀ (d j : Nat), ds.length - j = d → j ≤ ds.length → (∀ c ∈ ds.take j, isDig c = true) →
  Ev (fun k => impl_ParseInt.l0 k (B l) (B ds) (val (ds.take j) : Int) (ds.length : Int) (j : Int))
   (if ∀ c ∈ ds, isDig c = true then endI l (sgn (decide (ds.length < l.length)) (val ds)) else (0, false)) := by
 intro d
 induction d with
 | zero =>
  intro j hd hj hall
  obtain rfl : j = ds.length := by omega
  rw [List.take_length] at hall ⊢
  rw [if_pos hall]
  exact impl_ParseInt_end l ds hds hall
 | succ d ih =>
  intro j hd hj hall
  have hjl : j < ds.length := by omega
  refine Ev.succ ?_
  have c1 : (j : Int) < (ds.length : Int) := by omega
  have c2 : (0 : Int) ≤ (j : Int) := by omega
  have c3 : (j : Int) < ((B ds).size : Int) := by rw [size_B]; omega
  have e1 := succ64 j (by omega)
  by_cases hc : isDig ds[j] = true
  ·have hr := (isDig_iff _).1 hc
   have c4 : ¬ (((ds[j].toNat : Nat) : Int) < 48) := by omega
   have c5 : ¬ (((ds[j].toNat : Nat) : Int) > 57) := by omega
   have e2 : wrap64 (wrap64 (10 * (val (ds.take j) : Int)) + (((ds[j].toNat : Nat) : Int) - 48) % 256) = (val (ds.take (j + 1)) : Int) := by
    rw [dval_int _ hc, val_take ds j hjl]
    have hv := val_lt9 hall (by rw [List.length_take]; omega)
    exact step64 _ _ (by omega) (dval_lt hc)
   simp only [impl_ParseInt.l0, c1, c2, c3, if_true, bt_nat ds j hjl, c4, c5, if_false, e1, e2]
   exact ih (j + 1) (by omega) (by omega) (take_dig hjl hall hc)
  ·have hnot : ¬ ∀ c ∈ ds, isDig c = true := fun h => hc (h _ (List.getElem_mem _))
   rw [if_neg hnot]
   have hr := (not_congr (isDig_iff ds[j])).1 hc
   by_cases c4 : ((ds[j].toNat : Nat) : Int) < 48
   ·simp only [impl_ParseInt.l0, c1, c2, c3, if_true, bt_nat ds j hjl, c4]
    exact Ev.val rfl
   ·have c5 : ((ds[j].toNat : Nat) : Int) > 57 := by omega
    simp only [impl_ParseInt.l0, c1, c2, c3, if_true, bt_nat ds j hjl, c4, c5, if_false]
    exact Ev.val rfl

theorem impl_ParseInt_j1 (l ds : T) (h : ds = body l) : Ev (fun k => impl_ParseInt.j1 k (B l) (B ds)) (pIr l) := by
 subst h
 rw [pIr_impl]
 refine Ev.succ ?_
 by_cases h1 : (body l).length < 1
 ·have c1 : ((B (body l)).size : Int) < 1 := by rw [size_B]; omega
  simp only [impl_ParseInt.j1, c1, if_true, h1, true_or]
  refine Ev.succ ?_
  simp only [impl_ParseInt.j2, if_true]
  exact Ev.val rfl
 ·have c1 : ¬ (((B (body l)).size : Int) < 1) := by rw [size_B]; omega
  simp only [impl_ParseInt.j1, c1, if_false, h1, false_or]
  refine Ev.succ ?_
  by_cases h2 : 9 < (body l).length
  ·have c2 : decide (((B (body l)).size : Int) > 9) = true := decide_eq_true (by rw [size_B]; omega)
   simp only [impl_ParseInt.j2, c2, if_true, h2]
   exact Ev.val rfl
  ·have c2 : decide (((B (body l)).size : Int) > 9) = false := decide_eq_false (by rw [size_B]; omega)
   simp only [impl_ParseInt.j2, c2, Bool.false_eq_true, if_false, h2]
   simp only [size_B]
   have := impl_ParseInt_l0 l (body l) (by omega) (body l).length 0 (by omega) (by omega) (by simp)
   simpa [val] using this

theorem impl_ParseInt_ev (l : T) : Ev (fun k => impl_ParseInt.f k (B l)) (pIr l) := by
 unfold impl_ParseInt.f
 cases l with
 | nil =>
  have c1 : ¬ (((B []).size : Int) > 0) := by rw [size_B]; simp
  simp only [c1, if_false]
  refine Ev.succ ?_
  simp only [impl_ParseInt.j0, Bool.false_eq_true, if_false]
  exact impl_ParseInt_j1 [] [] rfl
 | cons a r =>
  have c1 : ((B (a :: r)).size : Int) > 0 := by rw [size_B]; simp only [List.length_cons]; omega
  have c2 : (0 : Int) < ((B (a :: r)).size : Int) := by omega
  have e0 : bt (B (a :: r)) 0 = (a.toNat : Int) := bt_nat (a :: r) 0 (by simp)
  simp only [c1, c2, if_true, e0]
  refine Ev.succ ?_
  by_cases h : a = 45
  ·have c3 : ((a.toNat : Int) == 45) = true := by subst h; rfl
   have c4 : (1 : Int) ≤ ((B (a :: r)).size : Int) := by omega
   have e5 : (B (a :: r)).extract 1 (B (a :: r)).size = B (body (a :: r)) := by
    rw [extract_B, size_B, List.take_length]; subst h; rfl
   simp only [impl_ParseInt.j0, c3, if_true, c4, e5]
   exact impl_ParseInt_j1 (a :: r) _ rfl
  ·have c3 : ((a.toNat : Int) == 45) = false := by
    rw [beq_eq_false_iff_ne]
    intro e
    exact h (UInt8.toNat_inj.1 (by have : (45 : UInt8).toNat = 45 := rfl; omega))
   simp only [impl_ParseInt.j0, c3, Bool.false_eq_true, if_false]
   exact impl_ParseInt_j1 (a :: r) _ (by unfold body; rw [if_neg (by simp [h])])

def sI (l : T) : Int × Bool := if 9 < (digs (l.take 11)).length ∨ 10 < l.length then (0, false) else endI l (sgn (decide (l.head? = some 45)) (val (digs (l.take 11))))
theorem fmtI_len (n : Int) (h1 : -1000000000 < n) (h2 : n < 1000000000) : (fmtI n).length ≤ 10 := by
 have h3 := (dec_len n.natAbs 9 (by omega)).2 (by rw [ten9]; omega)
 by_cases h : n < 0
 ·rw [fmtI_neg h, List.length_cons]; omega
 ·rw [fmtI_pos h]; omega
theorem digs_fmt (n : Int) : digs (fmtI n) = dec n.natAbs := by
 by_cases h : n < 0
 ·rw [fmtI_neg h]
  have : isDig 45 = false := by decide
  simp only [digs, List.filter_cons, this]
  exact digs_all (dec_dig _)
 ·rw [fmtI_pos h]; exact digs_all (dec_dig _)
theorem sgn_head (n : Int) : sgn (decide ((fmtI n).head? = some 45)) n.natAbs = n := by
 unfold sgn
 by_cases hn : n < 0
 ·rw [if_pos (decide_eq_true (by rw [fmtI_neg hn]; rfl))]; omega
 ·rw [if_neg (by rw [decide_eq_true_iff, fmtI_pos hn]; exact dec_head _)]; omega
theorem pIr_spec (l : T) : pIr l = sI l := by
 unfold sI
 by_cases h : 9 < (digs (l.take 11)).length ∨ 10 < l.length
 ·rw [if_pos h]
  refine pIr_none fun n e h1 h2 => ?_
  have hl := fmtI_len n h1 h2
  rw [e] at hl
  rw [List.take_of_length_le (by omega), ← e, digs_fmt] at h
  have h3 := (dec_len n.natAbs 9 (by omega)).2 (by rw [ten9]; omega)
  rw [e] at h
  omega
 ·rw [if_neg h, List.take_of_length_le (by omega)]
  have e1 : l.take 11 = l := List.take_of_length_le (by omega)
  rw [e1] at h
  have hv := sgn_bd9 (decide (l.head? = some 45)) _ (val_lt9 (digs_dig l) (by omega))
  refine endI_eq hv.1 hv.2 fun m em => ?_
  subst em
  rw [digs_fmt, val_dec, sgn_head]

theorem digs_take (l : T) (j : Nat) (hj : j < l.length) : digs (l.take (j + 1)) = if isDig l[j] = true then digs (l.take j) ++ [l[j]] else digs (l.take j) := by
 rw [List.take_succ_eq_append_getElem hj]
 unfold digs
 rw [List.filter_append]
 split <;> rename_i h
 ·simp [List.filter_cons, h]
 ·simp [List.filter_cons, h]

theorem spec_ParseInt_j2 (l : T) (b : Bool) (hb : b = decide (l.head? = some 45)) : Ev (fun k => spec_ParseInt.j2 k (B l) (val (digs (l.take 11)) : Int) ((digs (l.take 11)).length : Int) b) (pIr l) := by
 rw [pIr_spec]
 have hv := val_lt11 (digs_dig (l.take 11)) (by have := digs_len (l.take 11); rw [List.length_take] at this; omega)
 refine Ev.succ ?_
 unfold sI
 by_cases h1 : 9 < (digs (l.take 11)).length
 ·have c1 : ((digs (l.take 11)).length : Int) > 9 := by omega
  rw [if_pos (.inl h1)]
  cases b
  ·simp only [spec_ParseInt.j2, c1, if_true, Bool.false_eq_true, if_false]; exact Ev.val rfl
  ·simp only [spec_ParseInt.j2, c1, if_true]; exact Ev.val rfl
 ·have c1 : ¬ (((digs (l.take 11)).length : Int) > 9) := by omega
  by_cases h2 : 10 < l.length
  ·have c2 : ((B l).size : Int) > 10 := by rw [size_B]; omega
   rw [if_pos (.inr h2)]
   cases b
   ·simp only [spec_ParseInt.j2, c1, c2, if_true, Bool.false_eq_true, if_false]; exact Ev.val rfl
   ·simp only [spec_ParseInt.j2, c1, c2, if_true, if_false]; exact Ev.val rfl
  ·have c2 : ¬ (((B l).size : Int) > 10) := by rw [size_B]; omega
   rw [if_neg (by omega), ← hb]
   unfold endI
   cases b with
   | true =>
    have e1 := wneg (val (digs (l.take 11))) (by omega)
    have e2 : sgn true (val (digs (l.take 11))) = -(val (digs (l.take 11)) : Int) := rfl
    simp only [spec_ParseInt.j2, c1, c2, if_true, if_false, e1, e2]
    refine Ev.then (spec_FormatInt_ev _ (by omega) (by omega)) ?_
    simp only [toList_B]
    by_cases h3 : fmtI (-(val (digs (l.take 11)) : Int)) = l
    ·simp only [h3, if_true]; exact Ev.val rfl
    ·simp only [h3, if_false]; exact Ev.val rfl
   | false =>
    have e2 : sgn false (val (digs (l.take 11))) = (val (digs (l.take 11)) : Int) := rfl
    simp only [spec_ParseInt.j2, c1, c2, if_false, Bool.false_eq_true, e2]
    refine Ev.then (spec_FormatInt_ev _ (by omega) (by omega)) ?_
    simp only [toList_B]
    by_cases h3 : fmtI (val (digs (l.take 11)) : Int) = l
    ·simp only [h3, if_true]; exact Ev.val rfl
    ·simp only [h3, if_false]; exact Ev.val rfl
theorem spec_ParseInt_end (l : T) (j : Nat) (hj : 11 ≤ j ∨ j = l.length) (hj2 : j ≤ 11) (hj3 : j ≤ l.length) (x14 : Bool) (hx : x14 = false) :
  Ev (fun k => spec_ParseInt.j1 k (B l) (val (digs (l.take j)) : Int) ((digs (l.take j)).length : Int) (j : Int) x14) (pIr l) := by
 have e : l.take j = l.take 11 := by
  rcases hj with h | h
  ·rw [show j = 11 by omega]
  ·subst h; rw [List.take_length, List.take_of_length_le (by omega)]
 rw [e]
 subst hx
 refine Ev.succ ?_
 have key := spec_ParseInt_j2 l
 cases l with
 | nil =>
  have c1 : ¬ (((B []).size : Int) > 0) := by rw [size_B]; simp
  simp only [spec_ParseInt.j1, Bool.false_eq_true, if_false, c1]
  exact key false rfl
 | cons a r =>
  have c1 : ((B (a :: r)).size : Int) > 0 := by rw [size_B]; simp only [List.length_cons]; omega
  have c2 : (0 : Int) < ((B (a :: r)).size : Int) := by omega
  have e0 : bt (B (a :: r)) 0 = (a.toNat : Int) := bt_nat (a :: r) 0 (by simp)
  simp only [spec_ParseInt.j1, Bool.false_eq_true, if_false, c1, c2, if_true, e0]
  refine key _ ?_
  by_cases h : a = 45
  ·subst h; rfl
  ·have c3 : ((a.toNat : Int) == 45) = false := by
    rw [beq_eq_false_iff_ne]
    intro e
    exact h (UInt8.toNat_inj.1 (by have : (45 : UInt8).toNat = 45 := rfl; omega))
   rw [c3]; simp [h]

theorem spec_ParseInt_l0 (l : T) : ∀ (d j : Nat), 11 - j = d → j ≤ 11 → j ≤ l.length →
  Ev (fun k => spec_ParseInt.l0 k (B l) (val (digs (l.take j)) : Int) ((digs (l.take j)).length : Int) (j : Int)) (pIr l) := by
 intro d
 induction d with
 | zero =>
  intro j hd h1 h2
  refine Ev.succ ?_
  by_cases h : j < l.length
  ·have c1 : (j : Int) < ((B l).size : Int) := by rw [size_B]; omega
   simp only [spec_ParseInt.l0, c1, if_true]
   exact spec_ParseInt_end l j (.inl (by omega)) h1 h2 _ (decide_eq_false (by omega))
  ·have c1 : ¬ ((j : Int) < ((B l).size : Int)) := by rw [size_B]; omega
   simp only [spec_ParseInt.l0, c1, if_false]
   exact spec_ParseInt_end l j (.inr (by omega)) h1 h2 _ rfl
 | succ d ih =>
  intro j hd h1 h2
  refine Ev.succ ?_
  by_cases h : j < l.length
  ·have c1 : (j : Int) < ((B l).size : Int) := by rw [size_B]; omega
   have c2 : decide ((j : Int) < 11) = true := decide_eq_true (by omega)
   simp only [spec_ParseInt.l0, c1, if_true, c2]
   refine Ev.succ ?_
   have c3 : (0 : Int) ≤ (j : Int) := by omega
   have e1 := succ64 j (by omega)
   have hl := digs_len (l.take j)
   rw [List.length_take] at hl
   have hv := val_lt11 (digs_dig (l.take j)) (by omega)
   by_cases hc : isDig l[j] = true
   ·have hr := (isDig_iff _).1 hc
    have c4 : ((l[j].toNat : Nat) : Int) ≥ 48 := by omega
    have c5 : ((l[j].toNat : Nat) : Int) ≤ 57 := by omega
    have e2 : wrap64 (wrap64 ((val (digs (l.take j)) : Int) * 10) + (((l[j].toNat : Nat) : Int) - 48) % 256) = (val (digs (l.take (j + 1))) : Int) := by
     rw [dval_int _ hc, digs_take l j h, if_pos hc, val_snoc]
     exact step64' _ _ (by omega) (dval_lt hc)
    have e3 : wrap64 (((digs (l.take j)).length : Int) + 1) = ((digs (l.take (j + 1))).length : Int) := by
     rw [digs_take l j h, if_pos hc, List.length_append, List.length_singleton]
     exact succ64 _ (by omega)
    simp only [spec_ParseInt.j1, if_true, c3, c1, bt_nat l j h, c4, c5, e1, e2, e3]
    exact ih (j + 1) (by omega) (by omega) (by omega)
   ·have e2 : digs (l.take (j + 1)) = digs (l.take j) := by rw [digs_take l j h, if_neg hc]
    have := ih (j + 1) (by omega) (by omega) (by omega)
    rw [e2] at this
    have hr := (not_congr (isDig_iff l[j])).1 hc
    by_cases c4 : ((l[j].toNat : Nat) : Int) ≥ 48
    ·have c5 : ¬ (((l[j].toNat : Nat) : Int) ≤ 57) := by omega
     simp only [spec_ParseInt.j1, if_true, c3, c1, bt_nat l j h, c4, c5, if_false, e1]
     exact this
    ·simp only [spec_ParseInt.j1, if_true, c3, c1, bt_nat l j h, c4, if_false, e1]
     exact this
  ·have c1 : ¬ ((j : Int) < ((B l).size : Int)) := by rw [size_B]; omega
   simp only [spec_ParseInt.l0, c1, if_false]
   exact spec_ParseInt_end l j (.inr (by omega)) h1 h2 _ rfl

theorem spec_ParseInt_ev (l : T) : Ev (fun k => spec_ParseInt.f k (B l)) (pIr l) := by
 have := spec_ParseInt_l0 l 11 0 (by omega) (by omega) (by omega)
 simpa [spec_ParseInt.f, val, digs] using this
end
open Plain Br
section
abbrev Row := S60
theorem rd_row (xs : List Row) (j : Nat) (h : j < xs.length) : rd_T60 xs (j : Int) = xs[j] := by
 unfold rd_T60
 rw [Int.toNat_natCast, List.getD_eq_getElem?_getD, List.getElem?_eq_getElem h]
 rfl
theorem litL (l : List UInt8) : (⟨l.toArray⟩ : ByteArray) = B l := rfl
def vRow (r : Row) : Bool := decide (0 ≤ r.f0) && decide (r.f0 ≤ 9) && (decide (0 ≤ r.f1) && decide (r.f1 ≤ 99)) && (decide (0 ≤ r.f2) && decide (r.f2 ≤ 3))
theorem vRow_iff (r : Row) : vRow r = true ↔ (0 ≤ r.f0 ∧ r.f0 ≤ 9) ∧ (0 ≤ r.f1 ∧ r.f1 ≤ 99) ∧ 0 ≤ r.f2 ∧ r.f2 ≤ 3 := by
 unfold vRow
 simp only [Bool.and_eq_true, decide_eq_true_iff]
 constructor
 ·rintro ⟨⟨⟨a, b⟩, c, d⟩, e, f⟩; exact ⟨⟨a, b⟩, ⟨c, d⟩, e, f⟩
 ·rintro ⟨⟨a, b⟩, ⟨c, d⟩, e, f⟩; exact ⟨⟨⟨a, b⟩, c, d⟩, e, f⟩
def vRows (l : List Row) : Bool := decide (l.length ≤ 24) && l.all vRow
theorem vRows_iff (l : List Row) : vRows l = true ↔ l.length ≤ 24 ∧ ∀ r ∈ l, vRow r = true := by
 unfold vRows
 rw [Bool.and_eq_true, decide_eq_true_iff, List.all_eq_true]

theorem within_eq (a b c : Int) : impl_within.f a b c = some (decide (b ≤ a) && decide (a ≤ c)) := by
 unfold impl_within.f
 by_cases h : a ≥ b
 ·rw [if_pos h, decide_eq_true (show b ≤ a from h), Bool.true_and]
 ·rw [if_neg h, decide_eq_false (show ¬ b ≤ a from h), Bool.false_and]
theorem l1In_eq (a b c : Int) : spec_l1In.f a b c = some (decide (b ≤ a) && decide (a ≤ c)) := by
 unfold spec_l1In.f
 by_cases h : a ≥ b
 ·rw [if_pos h, decide_eq_true (show b ≤ a from h), Bool.true_and]
 ·rw [if_neg h, decide_eq_false (show ¬ b ≤ a from h), Bool.false_and]
theorem impl_IsValidRow_eq (x y z : Int) : impl_IsValidRow.f x y z = some (vRow ⟨x, y, z⟩) := by
 unfold impl_IsValidRow.f vRow
 simp only [within_eq, Option.bind_some]
 cases (decide (0 ≤ x) && decide (x ≤ 9)) <;> simp only [if_true, Bool.false_eq_true, if_false, Bool.true_and, Bool.false_and]
 cases (decide (0 ≤ y) && decide (y ≤ 99)) <;> simp only [if_true, Bool.false_eq_true, if_false, Bool.true_and, Bool.false_and]
theorem spec_IsValidRow_eq (x y z : Int) : spec_IsValidRow.f x y z = some (vRow ⟨x, y, z⟩) := by
 unfold spec_IsValidRow.f vRow
 simp only [l1In_eq, Option.bind_some]
 cases (decide (0 ≤ x) && decide (x ≤ 9)) <;> simp only [if_true, Bool.false_eq_true, if_false, Bool.true_and, Bool.false_and]
 cases (decide (0 ≤ y) && decide (y ≤ 99)) <;> simp only [if_true, Bool.false_eq_true, if_false, Bool.true_and, Bool.false_and]

theorem all_drop (xs : List Row) (j : Nat) (h : j < xs.length) : (xs.drop j).all vRow = (vRow xs[j] && (xs.drop (j + 1)).all vRow) := by
 rw [List.drop_eq_getElem_cons h, List.all_cons]
theorem impl_allValid_l0 (xs : List Row) (hl : xs.length ≤ 9223372036854775800) : ∀ (d j : Nat), xs.length - j = d → j ≤ xs.length →
  Ev (fun k => impl_allValid.l0 k xs (xs.length : Int) (j : Int)) ((xs.drop j).all vRow) := by
 intro d
 induction d with
 | zero =>
  intro j hd hj
  obtain rfl : j = xs.length := by omega
  refine Ev.succ ?_
  have c1 : ¬ ((xs.length : Int) < (xs.length : Int)) := by omega
  simp only [impl_allValid.l0, c1, if_false, List.drop_length, List.all_nil]
  exact Ev.val rfl
 | succ d ih =>
  intro j hd hj
  have h : j < xs.length := by omega
  refine Ev.succ ?_
  have c1 : (j : Int) < (xs.length : Int) := by omega
  have c2 : (0 : Int) ≤ (j : Int) := by omega
  simp only [impl_allValid.l0, c1, c2, if_true, rd_row xs j h, impl_IsValidRow_eq, Option.bind_some, succ64 j (by omega), all_drop xs j h]
  cases e : vRow xs[j]
  ·simp only [Bool.false_eq_true, if_false, Bool.false_and]; exact Ev.val rfl
  ·simp only [if_true, Bool.true_and]; exact ih (j + 1) (by omega) (by omega)
theorem impl_allValid_ev (xs : List Row) (hl : xs.length ≤ 9223372036854775800) : Ev (fun k => impl_allValid.f k xs) (xs.all vRow) := by
 have := impl_allValid_l0 xs hl xs.length 0 (by omega) (by omega)
 simpa [impl_allValid.f] using this
theorem impl_AreValidRows_ev (xs : List Row) : Ev (fun k => impl_AreValidRows.f k xs) (vRows xs) := by
 unfold impl_AreValidRows.f vRows
 by_cases h : xs.length ≤ 24
 ·have c1 : (xs.length : Int) ≤ 24 := by omega
  simp only [c1, if_true, h, decide_true, Bool.true_and]
  exact Ev.one (impl_allValid_ev xs (by omega))
 ·have c1 : ¬ ((xs.length : Int) ≤ 24) := by omega
  simp only [c1, if_false, h, decide_false, Bool.false_and]
  exact Ev.val rfl
theorem spec_AreValidRows_l0 (xs : List Row) (hl : xs.length ≤ 9223372036854775800) : ∀ (d j : Nat), xs.length - j = d → j ≤ xs.length →
  Ev (fun k => spec_AreValidRows.l0 k xs (j : Int)) (decide (xs.length ≤ 24) && (xs.drop j).all vRow) := by
 intro d
 induction d with
 | zero =>
  intro j hd hj
  obtain rfl : j = xs.length := by omega
  refine Ev.succ ?_
  have c1 : ¬ ((xs.length : Int) < (xs.length : Int)) := by omega
  simp only [spec_AreValidRows.l0, c1, if_false, List.drop_length, List.all_nil, Bool.and_true]
  refine Ev.val (by rw [decide_eq_decide]; omega)
 | succ d ih =>
  intro j hd hj
  have h : j < xs.length := by omega
  refine Ev.succ ?_
  have c1 : (j : Int) < (xs.length : Int) := by omega
  have c2 : (0 : Int) ≤ (j : Int) := by omega
  simp only [spec_AreValidRows.l0, c1, c2, if_true, rd_row xs j h, spec_IsValidRow_eq, Option.bind_some, succ64 j (by omega), all_drop xs j h]
  cases e : vRow xs[j]
  ·simp only [Bool.false_eq_true, if_false, Bool.false_and, Bool.and_false]; exact Ev.val rfl
  ·simp only [if_true, Bool.true_and]; exact ih (j + 1) (by omega) (by omega)
theorem spec_AreValidRows_ev (xs : List Row) (hl : xs.length ≤ 9223372036854775800) : Ev (fun k => spec_AreValidRows.f k xs) (vRows xs) := by
 have := spec_AreValidRows_l0 xs hl xs.length 0 (by omega) (by omega)
 simpa [spec_AreValidRows.f, vRows] using this

def fRowV (r : Row) : T := fmtI r.f0 ++ [46] ++ fmtI r.f1 ++ [46] ++ fmtI r.f2
def fRow (r : Row) : T := if vRow r = true then fRowV r else []
theorem fRow_len (r : Row) : (fRow r).length ≤ 32 := by
 unfold fRow
 split
 ·rename_i h
  have h := (vRow_iff r).1 h
  have h1 := fmtI_len r.f0 (by omega) (by omega)
  have h2 := fmtI_len r.f1 (by omega) (by omega)
  have h3 := fmtI_len r.f2 (by omega) (by omega)
  unfold fRowV
  simp only [List.length_append, List.length_singleton]
  omega
 ·simp
theorem impl_FormatRow_ev (x y z : Int) : Ev (fun k => impl_FormatRow.f k x y z) (B (fRow ⟨x, y, z⟩)) := by
 unfold impl_FormatRow.f fRow
 simp only [impl_IsValidRow_eq, Option.bind_some]
 cases e : vRow ⟨x, y, z⟩
 ·simp only [Bool.false_eq_true, if_false]; exact Ev.val rfl
 ·have h := (vRow_iff _).1 e
  dsimp only at h
  have h1 := fmtI_len x (by omega) (by omega)
  have h2 := fmtI_len y (by omega) (by omega)
  have h3 := fmtI_len z (by omega) (by omega)
  simp only [if_true]
  refine Ev.then (impl_FormatInt_ev x (by omega) (by omega)) ?_
  have c1 : (B (fmtI x)).size + 1 ≤ 9223372036854775807 := by rw [size_B]; omega
  simp only [c1, if_true, litL, B_append]
  refine Ev.then (impl_FormatInt_ev y (by omega) (by omega)) ?_
  have c2 : (B (fmtI x ++ [46])).size + (B (fmtI y)).size ≤ 9223372036854775807 := by rw [size_B, size_B]; simp only [List.length_append, List.length_singleton]; omega
  have c3 : (B (fmtI x ++ [46] ++ fmtI y)).size + 1 ≤ 9223372036854775807 := by rw [size_B]; simp only [List.length_append, List.length_singleton]; omega
  simp only [c2, c3, if_true, B_append]
  refine Ev.then (impl_FormatInt_ev z (by omega) (by omega)) ?_
  have c4 : (B (fmtI x ++ [46] ++ fmtI y ++ [46])).size + (B (fmtI z)).size ≤ 9223372036854775807 := by rw [size_B, size_B]; simp only [List.length_append, List.length_singleton]; omega
  simp only [c4, if_true, B_append]
  exact Ev.val rfl
theorem spec_FormatRow_ev (x y z : Int) : Ev (fun k => spec_FormatRow.f k x y z) (B (fRow ⟨x, y, z⟩)) := by
 unfold spec_FormatRow.f fRow
 simp only [spec_IsValidRow_eq, Option.bind_some]
 cases e : vRow ⟨x, y, z⟩
 ·simp only [Bool.false_eq_true, if_false]; exact Ev.val rfl
 ·have h := (vRow_iff _).1 e
  dsimp only at h
  have h1 := fmtI_len x (by omega) (by omega)
  have h2 := fmtI_len y (by omega) (by omega)
  have h3 := fmtI_len z (by omega) (by omega)
  simp only [if_true]
  refine Ev.then (spec_FormatInt_ev x (by omega) (by omega)) ?_
  have c1 : (B (fmtI x)).size + 1 ≤ 9223372036854775807 := by rw [size_B]; omega
  simp only [c1, if_true, litL, B_append]
  refine Ev.then (spec_FormatInt_ev y (by omega) (by omega)) ?_
  have c2 : (B (fmtI x ++ [46])).size + (B (fmtI y)).size ≤ 9223372036854775807 := by rw [size_B, size_B]; simp only [List.length_append, List.length_singleton]; omega
  have c3 : (B (fmtI x ++ [46] ++ fmtI y)).size + 1 ≤ 9223372036854775807 := by rw [size_B]; simp only [List.length_append, List.length_singleton]; omega
  simp only [c2, c3, if_true, B_append]
  refine Ev.then (spec_FormatInt_ev z (by omega) (by omega)) ?_
  have c4 : (B (fmtI x ++ [46] ++ fmtI y ++ [46])).size + (B (fmtI z)).size ≤ 9223372036854775807 := by rw [size_B, size_B]; simp only [List.length_append, List.length_singleton]; omega
  simp only [c4, if_true, B_append]
  exact Ev.val rfl

def pRow (s : T) : Option Row := match split 46 s with
 | [a, b, c] => match pI a, pI b, pI c with
  | some x, some y, some z => if vRow ⟨x, y, z⟩ = true then some ⟨x, y, z⟩ else none
  | _, _, _ => none
 | _ => none
theorem numFree {n : Int} {s : UInt8} (h : numSign s = false) : s ∉ fmtI n := by
 intro hm
 rw [fmtI_signs n s hm] at h
 cases h
theorem fRowV_join (r : Row) : fRowV r = join [46] [fmtI r.f0, fmtI r.f1, fmtI r.f2] := by simp [fRowV, join]
theorem split_fRow (r : Row) : split 46 (fRowV r) = [fmtI r.f0, fmtI r.f1, fmtI r.f2] := by
 rw [fRowV_join]
 refine split_join 46 (by simp) ?_
 intro a ha
 simp only [List.mem_cons, List.not_mem_nil, or_false] at ha
 rcases ha with rfl | rfl | rfl <;> exact numFree (by decide)
theorem pRow_some {s : T} {r : Row} : pRow s = some r ↔ vRow r = true ∧ fRow r = s := by
 constructor
 ·intro h
  unfold pRow at h
  split at h
  ·rename_i a b c hs
   split at h
   ·rename_i x y z hx hy hz
    split at h
    ·rename_i hv
     injection h with h
     subst h
     refine ⟨hv, ?_⟩
     unfold fRow
     rw [if_pos hv, fRowV_join]
     show join [46] [fmtI x, fmtI y, fmtI z] = s
     rw [(pI_some.1 hx).1, (pI_some.1 hy).1, (pI_some.1 hz).1, ← hs, join_split]
    ·cases h
   ·cases h
  ·cases h
 ·rintro ⟨hv, rfl⟩
  unfold fRow
  rw [if_pos hv]
  unfold pRow
  rw [split_fRow]
  have h := (vRow_iff r).1 hv
  have e0 : pI (fmtI r.f0) = some r.f0 := pI_some.2 ⟨rfl, by omega, by omega⟩
  have e1 : pI (fmtI r.f1) = some r.f1 := pI_some.2 ⟨rfl, by omega, by omega⟩
  have e2 : pI (fmtI r.f2) = some r.f2 := pI_some.2 ⟨rfl, by omega, by omega⟩
  simp only [e0, e1, e2]
  rw [if_pos (by cases r; exact hv)]
def rRow : Option Row → Int × Int × Int × Bool
 | some r => (r.f0, r.f1, r.f2, true)
 | none => (0, 0, 0, false)
theorem three (ls : List T) (h : ls.length = 3) : ∃ a b c, ls = [a, b, c] := by
 match ls, h with
 | [a, b, c], _ => exact ⟨a, b, c, rfl⟩
theorem impl_ParseRow_ev (s : T) (hl : s.length ≤ 4294967296) : Ev (fun k => impl_ParseRow.f k (B s)) (rRow (pRow s)) := by
 unfold impl_ParseRow.f
 refine Ev.then (impl_cut_ev s 46 hl) ?_
 by_cases h : (split 46 s).length = 3
 ·obtain ⟨a, b, c, e⟩ := three _ h
  rw [e]
  have c0 : (((([a, b, c] : List T).map B).length : Nat) : Int) = 3 := rfl
  simp only [c0, if_true, show (0 : Int) < 3 from by decide, show (1 : Int) < 3 from by decide, show (2 : Int) < 3 from by decide]
  refine Ev.then (impl_ParseInt_ev a) ?_
  refine Ev.then (impl_ParseInt_ev b) ?_
  refine Ev.then (impl_ParseInt_ev c) ?_
  unfold pRow
  rw [e]
  simp only []
  rcases pIr_cases a with ⟨x, h1, h2, h3, h4⟩ | h1
  ·have e1 := pI_some.2 ⟨h2, h3, h4⟩
   rcases pIr_cases b with ⟨y, g1, g2, g3, g4⟩ | g1
   ·have e2 := pI_some.2 ⟨g2, g3, g4⟩
    rcases pIr_cases c with ⟨z, f1, f2, f3, f4⟩ | f1
    ·have e3 := pI_some.2 ⟨f2, f3, f4⟩
     simp only [h1, g1, f1, e1, e2, e3, if_true, impl_IsValidRow_eq, Option.bind_some]
     cases hv : vRow ⟨x, y, z⟩
     ·simp only [Bool.false_eq_true, if_false]; exact Ev.val rfl
     ·simp only [if_true]; exact Ev.val rfl
    ·have e3 : pI c = none := by
      cases q : pI c with
      | none => rfl
      | some n => unfold pIr at f1; rw [q] at f1; cases f1
     simp only [h1, g1, f1, e1, e2, e3, if_true, Bool.false_eq_true, if_false]; exact Ev.val rfl
   ·have e2 : pI b = none := by
     cases q : pI b with
     | none => rfl
     | some n => unfold pIr at g1; rw [q] at g1; cases g1
    simp only [h1, g1, e1, e2, if_true, Bool.false_eq_true, if_false]; exact Ev.val rfl
  ·have e1 : pI a = none := by
    cases q : pI a with
    | none => rfl
    | some n => unfold pIr at h1; rw [q] at h1; cases h1
   simp only [h1, e1, Bool.false_eq_true, if_false]; exact Ev.val rfl
 ·have c0 : ¬ (((((split 46 s).map B).length : Nat) : Int) = 3) := by rw [List.length_map]; omega
  simp only [c0, if_false]
  refine Ev.val ?_
  unfold pRow
  split
  ·rename_i e; rw [e] at h; simp at h
  ·rfl
theorem pIr_fst (l : T) {n : Int} (h : fmtI n = l) (h1 : -1000000000 < n) (h2 : n < 1000000000) : (pIr l).1 = n := by rw [pIr_some h h1 h2]
theorem spec_ParseRow_ev (s : T) (hl : s.length ≤ 4294967296) : Ev (fun k => spec_ParseRow.f k (B s)) (rRow (pRow s)) := by
 unfold spec_ParseRow.f
 refine Ev.then (spec_l2Cut_ev s 46 hl) ?_
 by_cases h : (split 46 s).length = 3
 ·obtain ⟨a, b, c, e⟩ := three _ h
  have c0 : ((((split 46 s).map B).length : Nat) : Int) = 3 := by rw [e]; rfl
  have r0 : rdOf ByteArray.empty ((split 46 s).map B) 0 = B a := by rw [e]; rfl
  have r1 : rdOf ByteArray.empty ((split 46 s).map B) 1 = B b := by rw [e]; rfl
  have r2 : rdOf ByteArray.empty ((split 46 s).map B) 2 = B c := by rw [e]; rfl
  simp only [c0, if_true, show (0 : Int) < 3 from by decide, show (1 : Int) < 3 from by decide, show (2 : Int) < 3 from by decide, r0, r1, r2]
  refine Ev.then (spec_ParseInt_ev a) ?_
  refine Ev.then (spec_ParseInt_ev b) ?_
  refine Ev.then (spec_ParseInt_ev c) ?_
  refine Ev.then (spec_FormatRow_ev _ _ _) ?_
  simp only [toList_B]
  obtain ⟨r, hr⟩ : ∃ r : Row, r = ⟨(pIr a).1, (pIr b).1, (pIr c).1⟩ := ⟨_, rfl⟩
  rw [← hr]
  by_cases hf : fRow r = s
  ·have hv : vRow r = true := by
    cases q : vRow r with
    | true => rfl
    | false =>
     unfold fRow at hf
     rw [q] at hf
     simp only [Bool.false_eq_true, if_false] at hf
     rw [← hf] at h
     simp [split] at h
   rw [pRow_some.2 ⟨hv, hf⟩]
   simp only [hf, if_true]
   exact Ev.val (by rw [hr]; rfl)
  ·simp only [hf, if_false]
   refine Ev.val ?_
   cases q : pRow s with
   | none => rfl
   | some r' =>
    obtain ⟨hv, hf'⟩ := pRow_some.1 q
    exfalso
    apply hf
    rw [← hf']
    have hf2 : fRow r' = fRowV r' := by unfold fRow; rw [if_pos hv]
    have e' := split_fRow r'
    rw [← hf2, hf', e] at e'
    injection e' with ea e'
    injection e' with eb e'
    injection e' with ec _
    have hb := (vRow_iff r').1 hv
    rw [hr, pIr_fst a ea.symm (by omega) (by omega), pIr_fst b eb.symm (by omega) (by omega), pIr_fst c ec.symm (by omega) (by omega)]
 ·have c0 : ¬ (((((split 46 s).map B).length : Nat) : Int) = 3) := by rw [List.length_map]; omega
  simp only [c0, if_false]
  refine Ev.val ?_
  unfold pRow
  split
  ·rename_i e; rw [e] at h; simp at h
  ·rfl
end
open Plain Br
section
theorem join_len (s : T) (M : Nat) : ∀ ls : List T, (∀ a ∈ ls, a.length ≤ M) → (join s ls).length ≤ ls.length * (M + s.length)
 | [], _ => by simp [join]
 | [a], h => by have := h a (by simp); simp [join]; omega
 | a :: b :: r, h => by
  have h1 := h a (by simp)
  have h2 := join_len s M (b :: r) (fun x hx => h x (by simp at hx ⊢; right; exact hx))
  show (a ++ s ++ join s (b :: r)).length ≤ ((b :: r).length + 1) * (M + s.length)
  rw [List.length_append, List.length_append, Nat.add_mul]
  omega
theorem rdOf_B (ls : List T) (j : Nat) (h : j < ls.length) : rdOf ByteArray.empty (ls.map B) (j : Int) = B ls[j] := by
 unfold rdOf
 rw [Int.toNat_natCast, List.getD_eq_getElem?_getD, List.getElem?_map, List.getElem?_eq_getElem h]
 rfl
theorem join_take (s : T) (ls : List T) (j : Nat) (h : j < ls.length) : join s (ls.take (j + 1)) = if j = 0 then ls[j] else join s (ls.take j) ++ s ++ ls[j] := by
 rw [List.take_succ_eq_append_getElem h]
 split
 ·rename_i h0
  subst h0
  rfl
 ·rw [join_snoc s (by intro e; rw [List.take_eq_nil_iff] at e; rcases e with e | e; omega; rw [e] at h; simp at h)]
theorem impl_joined_l0 (s : T) (ls : List T) (M : Nat) (hM : M ≤ 1000000000) (hs : s.length ≤ 1000) (hl : ls.length ≤ 1000000) (h : ∀ a ∈ ls, a.length ≤ M) : ∀ (d j : Nat), ls.length - j = d → j ≤ ls.length →
  Ev (fun k => impl_joined.l0 k (B s) (B (join s (ls.take j))) (ls.map B) (ls.length : Int) (j : Int)) (B (join s ls)) := by
 intro d
 induction d with
 | zero =>
  intro j hd hj
  obtain rfl : j = ls.length := by omega
  refine Ev.succ ?_
  have c1 : ¬ ((ls.length : Int) < (ls.length : Int)) := by omega
  simp only [impl_joined.l0, c1, if_false, List.take_length]
  exact Ev.val rfl
 | succ d ih =>
  intro j hd hj
  have hj' : j < ls.length := by omega
  refine Ev.succ ?_
  have c1 : (j : Int) < (ls.length : Int) := by omega
  have c2 : (0 : Int) ≤ (j : Int) := by omega
  have c3 : (j : Int) < ((ls.map B).length : Int) := by rw [List.length_map]; omega
  have hb := join_len s M (ls.take j) (fun a ha => h a (List.mem_of_mem_take ha))
  have ha := h ls[j] (List.getElem_mem _)
  have hb2 : (join s (ls.take j)).length ≤ 1000000 * 1000001000 := Nat.le_trans hb (Nat.mul_le_mul (by rw [List.length_take]; omega) (by omega))
  have := ih (j + 1) (by omega) (by omega)
  rw [join_take s ls j hj'] at this
  by_cases h0 : j = 0
  ·subst h0
   have c4 : ¬ (((0 : Nat) : Int) > 0) := by omega
   have c5 : (B (join s (ls.take 0))).size + (B ls[0]).size ≤ 9223372036854775807 := by rw [size_B, size_B]; omega
   simp only [impl_joined.l0, c1, c2, c3, c4, if_true, if_false, rdOf_B ls 0 hj', c5, B_append, succ64 0 (by omega)]
   simpa [join] using this
  ·have c4 : ((j : Nat) : Int) > 0 := by omega
   have c5 : (B (join s (ls.take j))).size + (B s).size ≤ 9223372036854775807 := by rw [size_B, size_B]; omega
   have c6 : (B (join s (ls.take j) ++ s)).size + (B ls[j]).size ≤ 9223372036854775807 := by rw [size_B, size_B, List.length_append]; omega
   simp only [impl_joined.l0, c1, c2, c3, c4, if_true, rdOf_B ls j hj', c5, B_append, c6, succ64 j (by omega)]
   rw [if_neg h0] at this
   exact this
theorem impl_joined_ev (s : T) (ls : List T) (M : Nat) (hM : M ≤ 1000000000) (hs : s.length ≤ 1000) (hl : ls.length ≤ 1000000) (h : ∀ a ∈ ls, a.length ≤ M) :
  Ev (fun k => impl_joined.f k (ls.map B) (B s)) (B (join s ls)) := by
 have := impl_joined_l0 s ls M hM hs hl h ls.length 0 (by omega) (by omega)
 simpa [impl_joined.f, join, B_nil] using this

def jRows (l : List Row) : T := join [32] (l.map fRow)
def fRows (l : List Row) : T := if vRows l = true then jRows l else []
theorem jRows_len (l : List Row) : (jRows l).length ≤ l.length * 33 := by
 have := join_len [32] 32 (l.map fRow) (fun a ha => by obtain ⟨r, _, rfl⟩ := List.mem_map.1 ha; exact fRow_len r)
 simpa [jRows] using this
theorem fRows_len (l : List Row) : (fRows l).length ≤ 800 := by
 unfold fRows
 split
 ·rename_i h
  have := jRows_len l
  have := ((vRows_iff l).1 h).1
  omega
 ·simp
theorem impl_rowTexts_l0 (xs : List Row) (hl : xs.length ≤ 1000000) : ∀ (d j : Nat), xs.length - j = d → j ≤ xs.length →
  Ev (fun k => impl_rowTexts.l0 k (((xs.take j).map fRow).map B) xs (xs.length : Int) (j : Int)) (B (jRows xs)) := by
 intro d
 induction d with
 | zero =>
  intro j hd hj
  obtain rfl : j = xs.length := by omega
  refine Ev.succ ?_
  have c1 : ¬ ((xs.length : Int) < (xs.length : Int)) := by omega
  simp only [impl_rowTexts.l0, c1, if_false, List.take_length]
  exact Ev.one (impl_joined_ev [32] (xs.map fRow) 32 (by omega) (by simp) (by simpa using hl) (fun a ha => by obtain ⟨r, _, rfl⟩ := List.mem_map.1 ha; exact fRow_len r))
 | succ d ih =>
  intro j hd hj
  have h : j < xs.length := by omega
  refine Ev.succ ?_
  have c1 : (j : Int) < (xs.length : Int) := by omega
  have c2 : (0 : Int) ≤ (j : Int) := by omega
  simp only [impl_rowTexts.l0, c1, c2, if_true, rd_row xs j h]
  refine Ev.then (impl_FormatRow_ev _ _ _) ?_
  have c3 : (((xs.take j).map fRow).map B).length < 8796093022208 := by rw [List.length_map, List.length_map, List.length_take]; omega
  have := ih (j + 1) (by omega) (by omega)
  rw [List.take_succ_eq_append_getElem h, List.map_append, List.map_append] at this
  simp only [c3, if_true, succ64 j (by omega)]
  exact this
theorem impl_rowTexts_ev (xs : List Row) (hl : xs.length ≤ 1000000) : Ev (fun k => impl_rowTexts.f k xs) (B (jRows xs)) := by
 have := impl_rowTexts_l0 xs hl xs.length 0 (by omega) (by omega)
 simpa [impl_rowTexts.f] using this
theorem impl_FormatRows_ev (xs : List Row) : Ev (fun k => impl_FormatRows.f k xs) (B (fRows xs)) := by
 unfold impl_FormatRows.f fRows
 refine Ev.then (impl_AreValidRows_ev xs) ?_
 cases h : vRows xs
 ·simp only [Bool.false_eq_true, if_false]; exact Ev.val rfl
 ·simp only [if_true]
  exact Ev.one (impl_rowTexts_ev xs (by have := ((vRows_iff xs).1 h).1; omega))
theorem spec_FormatRows_l0 (xs : List Row) (hv : vRows xs = true) : ∀ (d j : Nat), xs.length - j = d → j ≤ xs.length →
  Ev (fun k => spec_FormatRows.l0 k xs (B (jRows (xs.take j))) (j : Int)) (B (jRows xs)) := by
 have hl := ((vRows_iff xs).1 hv).1
 intro d
 induction d with
 | zero =>
  intro j hd hj
  obtain rfl : j = xs.length := by omega
  refine Ev.succ ?_
  have c1 : ¬ ((xs.length : Int) < (xs.length : Int)) := by omega
  simp only [spec_FormatRows.l0, c1, if_false, List.take_length]
  refine Ev.succ ?_
  simp only [spec_FormatRows.j1, Bool.false_eq_true, if_false]
  exact Ev.val rfl
 | succ d ih =>
  intro j hd hj
  have h : j < xs.length := by omega
  refine Ev.succ ?_
  have c1 : (j : Int) < (xs.length : Int) := by omega
  have c2 : (0 : Int) ≤ (j : Int) := by omega
  simp only [spec_FormatRows.l0, c1, if_true]
  refine Ev.then (spec_AreValidRows_ev xs (by omega)) ?_
  refine Ev.succ ?_
  have hlen := jRows_len (xs.take j)
  rw [List.length_take] at hlen
  have hrow := fRow_len xs[j]
  have := ih (j + 1) (by omega) (by omega)
  unfold jRows at this
  rw [List.map_take, join_take [32] (xs.map fRow) j (by simpa using h), List.getElem_map, ← List.map_take] at this
  by_cases h0 : j = 0
  ·subst h0
   have c3 : ¬ (((0 : Nat) : Int) > 0) := by omega
   simp only [spec_FormatRows.j1, hv, if_true, c3, if_false, c2, c1, rd_row xs 0 h]
   refine Ev.then (spec_FormatRow_ev _ _ _) ?_
   have c4 : (B (jRows (xs.take 0))).size + (B (fRow xs[0])).size ≤ 9223372036854775807 := by rw [size_B, size_B]; omega
   simp only [c4, if_true, B_append, succ64 0 (by omega)]
   simpa [jRows, join] using this
  ·have c3 : ((j : Nat) : Int) > 0 := by omega
   have c4 : (B (jRows (xs.take j))).size + 1 ≤ 9223372036854775807 := by rw [size_B]; omega
   simp only [spec_FormatRows.j1, hv, if_true, c3, c4, c2, c1, rd_row xs j h, litL, B_append]
   refine Ev.then (spec_FormatRow_ev _ _ _) ?_
   have c5 : (B (jRows (xs.take j) ++ [32])).size + (B (fRow xs[j])).size ≤ 9223372036854775807 := by rw [size_B, size_B, List.length_append, List.length_singleton]; omega
   simp only [c5, if_true, B_append, succ64 j (by omega)]
   rw [if_neg h0] at this
   exact this
theorem spec_FormatRows_ev (xs : List Row) (hl : xs.length ≤ 9223372036854775800) : Ev (fun k => spec_FormatRows.f k xs) (B (fRows xs)) := by
 unfold spec_FormatRows.f fRows
 cases h : vRows xs
 ·simp only [Bool.false_eq_true, if_false]
  refine Ev.succ ?_
  by_cases c : (0 : Int) < (xs.length : Int)
  ·simp only [spec_FormatRows.l0, c, if_true]
   refine Ev.then (spec_AreValidRows_ev xs hl) ?_
   refine Ev.succ ?_
   simp only [spec_FormatRows.j1, h, Bool.false_eq_true, if_false]
   exact Ev.val rfl
  ·simp only [spec_FormatRows.l0, c, if_false]
   refine Ev.succ ?_
   simp only [spec_FormatRows.j1, Bool.false_eq_true, if_false]
   exact Ev.val rfl
 ·simp only [if_true]
  have := spec_FormatRows_l0 xs h xs.length 0 (by omega) (by omega)
  simpa [jRows, join, B_nil] using this

def pRowL : List T → Option (List Row)
 | [] => some []
 | a :: r => match pRow a with
  | none => none
  | some x => match pRowL r with
   | none => none
   | some xs => some (x :: xs)
theorem pRowL_some : ∀ {ls : List T} {l : List Row}, pRowL ls = some l ↔ (∀ r ∈ l, vRow r = true) ∧ l.map fRow = ls
 | [], l => by
  simp only [pRowL, Option.some.injEq]
  constructor
  ·rintro rfl; simp
  ·rintro ⟨_, h⟩; exact (List.map_eq_nil_iff.1 h).symm
 | a :: r, l => by
  unfold pRowL
  constructor
  ·intro h
   cases e : pRow a with
   | none => rw [e] at h; cases h
   | some x =>
    rw [e] at h
    cases e2 : pRowL r with
    | none => rw [e2] at h; cases h
    | some xs =>
     rw [e2] at h
     injection h with h
     subst h
     obtain ⟨h1, h2⟩ := pRow_some.1 e
     obtain ⟨h3, h4⟩ := pRowL_some.1 e2
     refine ⟨?_, by rw [List.map_cons, h2, h4]⟩
     intro y hy
     rcases List.mem_cons.1 hy with rfl | hy
     ·exact h1
     ·exact h3 y hy
  ·rintro ⟨h1, h2⟩
   cases l with
   | nil => cases h2
   | cons x xs =>
    rw [List.map_cons] at h2
    injection h2 with h2 h3
    rw [pRow_some.2 ⟨h1 x (by simp), h2⟩, pRowL_some.2 ⟨fun y hy => h1 y (by simp [hy]), h3⟩]
def pRows (s : T) : Option (List Row) := if s = [] then some [] else match pRowL (split 32 s) with
 | some l => if vRows l = true then some l else none
 | none => none
theorem fRow_free {r : Row} {s : UInt8} (h : numSign s = false) (h2 : s ≠ 46) : s ∉ fRow r := by
 unfold fRow
 split
 ·unfold fRowV
  simp only [List.mem_append, List.mem_singleton, not_or]
  exact ⟨⟨⟨⟨numFree h, h2⟩, numFree h⟩, h2⟩, numFree h⟩
 ·simp
theorem fRow_ne {r : Row} (h : vRow r = true) : fRow r ≠ [] := by
 unfold fRow
 rw [if_pos h]
 unfold fRowV
 simp
theorem join_free {s : T} {c : UInt8} (hs : c ∉ s) : ∀ {ls : List T}, (∀ a ∈ ls, c ∉ a) → c ∉ join s ls
 | [], _ => by simp [join]
 | [a], h => h a (by simp)
 | a :: b :: r, h => by
  show c ∉ a ++ s ++ join s (b :: r)
  simp only [List.mem_append, not_or]
  exact ⟨⟨h a (by simp), hs⟩, join_free hs (fun x hx => h x (by simp at hx ⊢; right; exact hx))⟩
theorem fRows_free {l : List Row} {c : UInt8} (h : numSign c = false) (h2 : c ≠ 46) (h3 : c ≠ 32) : c ∉ fRows l := by
 unfold fRows
 split
 ·refine join_free (by simpa using h3) ?_
  intro a ha
  obtain ⟨r, _, rfl⟩ := List.mem_map.1 ha
  exact fRow_free h h2
 ·simp
theorem split_jRows {l : List Row} (h : l ≠ []) : split 32 (jRows l) = l.map fRow := by
 refine split_join 32 (by simpa using h) ?_
 intro a ha
 obtain ⟨r, _, rfl⟩ := List.mem_map.1 ha
 exact fRow_free (by decide) (by decide)
theorem jRows_ne {l : List Row} (h : ∀ r ∈ l, vRow r = true) (hl : l ≠ []) : jRows l ≠ [] := by
 cases l with
 | nil => exact absurd rfl hl
 | cons r t =>
  have hr := fRow_ne (h r (by simp))
  unfold jRows
  rw [List.map_cons]
  cases t with
  | nil => exact hr
  | cons r2 t2 =>
   rw [List.map_cons]
   show fRow r ++ [32] ++ join [32] (fRow r2 :: t2.map fRow) ≠ []
   simp
theorem pRows_some {s : T} {l : List Row} : pRows s = some l ↔ vRows l = true ∧ fRows l = s := by
 unfold pRows
 constructor
 ·intro h
  split at h
  ·rename_i hs
   injection h with h
   subst h
   exact ⟨rfl, hs ▸ rfl⟩
  ·rename_i hs
   cases e : pRowL (split 32 s) with
   | none => rw [e] at h; cases h
   | some l' =>
    rw [e] at h
    simp only at h
    split at h
    ·rename_i hv
     injection h with h
     subst h
     refine ⟨hv, ?_⟩
     unfold fRows
     rw [if_pos hv]
     unfold jRows
     rw [(pRowL_some.1 e).2, join_split]
    ·cases h
 ·rintro ⟨hv, rfl⟩
  unfold fRows
  rw [if_pos hv]
  have hall := ((vRows_iff l).1 hv).2
  by_cases hl : l = []
  ·subst hl
   rfl
  ·rw [if_neg (jRows_ne hall hl), split_jRows hl, pRowL_some.2 ⟨hall, rfl⟩]
   simp only [hv, if_true]
def rRows : Option (List Row) → List Row × Bool
 | some l => (l, true)
 | none => ([], false)
def pRest (acc : List Row) (ls : List T) : Option (List Row) := match pRowL ls with
 | some xs => if vRows (acc ++ xs) = true then some (acc ++ xs) else none
 | none => none
theorem pRest_cons (acc : List Row) (ls : List T) (j : Nat) (h : j < ls.length) : pRest acc (ls.drop j) = match pRow ls[j] with
  | none => none
  | some x => pRest (acc ++ [x]) (ls.drop (j + 1)) := by
 unfold pRest
 rw [List.drop_eq_getElem_cons h, pRowL]
 cases pRow ls[j] with
 | none => rfl
 | some x =>
  cases pRowL (ls.drop (j + 1)) with
  | none => rfl
  | some xs => simp
theorem impl_ParseRows_l0 (ls : List T) (hl : ls.length ≤ 4294967297) (hs : ∀ a ∈ ls, a.length ≤ 4294967296) : ∀ (d j : Nat) (acc : List Row), ls.length - j = d → j ≤ ls.length → acc.length = j →
  Ev (fun k => impl_ParseRows.l0 k acc (ls.map B) (ls.length : Int) (j : Int)) (rRows (pRest acc (ls.drop j))) := by
 intro d
 induction d with
 | zero =>
  intro j acc hd hj ha
  obtain rfl : j = ls.length := by omega
  refine Ev.succ ?_
  have c1 : ¬ ((ls.length : Int) < (ls.length : Int)) := by omega
  simp only [impl_ParseRows.l0, c1, if_false, List.drop_length]
  refine Ev.then (impl_AreValidRows_ev acc) ?_
  unfold pRest
  simp only [pRowL, List.append_nil]
  cases vRows acc
  ·simp only [Bool.false_eq_true, if_false]; exact Ev.val rfl
  ·simp only [if_true]; exact Ev.val rfl
 | succ d ih =>
  intro j acc hd hj ha
  have h : j < ls.length := by omega
  refine Ev.succ ?_
  have c1 : (j : Int) < (ls.length : Int) := by omega
  have c2 : (0 : Int) ≤ (j : Int) := by omega
  have c3 : (j : Int) < ((ls.map B).length : Int) := by rw [List.length_map]; omega
  simp only [impl_ParseRows.l0, c1, c2, c3, if_true, rdOf_B ls j h]
  refine Ev.then (impl_ParseRow_ev _ (hs _ (List.getElem_mem _))) ?_
  rw [pRest_cons acc ls j h]
  cases pRow ls[j] with
  | none => simp only [rRow, Bool.false_eq_true, if_false]; exact Ev.val rfl
  | some x =>
   have c4 : acc.length < 5864062014805 := by omega
   simp only [rRow, if_true, c4, succ64 j (by omega)]
   exact ih (j + 1) (acc ++ [x]) (by omega) (by omega) (by simp; omega)
theorem split_len (c : UInt8) (s : T) : (split c s).length ≤ s.length + 1 := by
 induction s with
 | nil => simp [split]
 | cons a r ih =>
  unfold split
  split
  ·simp; omega
  ·cases e : split c r with
   | nil => exact absurd e (split_ne _ _)
   | cons h t => rw [e] at ih; simp at ih ⊢; omega
theorem split_part (c : UInt8) (s a : T) (h : a ∈ split c s) : a.length ≤ s.length := by
 induction s generalizing a with
 | nil => simp [split] at h; subst h; simp
 | cons x r ih =>
  unfold split at h
  obtain ⟨h0, t, e⟩ : ∃ h t, split c r = h :: t := by
   cases e : split c r with
   | nil => exact absurd e (split_ne c r)
   | cons h t => exact ⟨h, t, rfl⟩
  split at h
  ·rcases List.mem_cons.1 h with rfl | h
   ·simp
   ·have := ih a h; simp; omega
  ·rw [e] at h ih
   rcases List.mem_cons.1 h with rfl | h
   ·have := ih h0 (List.mem_cons_self ..); simp; omega
   ·have := ih a (List.mem_cons_of_mem _ h); simp; omega
theorem pRows_rest {s : T} (h : s ≠ []) : pRows s = pRest [] (split 32 s) := by
 unfold pRows pRest
 rw [if_neg h]
 cases pRowL (split 32 s) <;> rfl
theorem impl_ParseRows_ev (s : T) (hl : s.length ≤ 4294967296) : Ev (fun k => impl_ParseRows.f k (B s)) (rRows (pRows s)) := by
 unfold impl_ParseRows.f
 simp only [toList_B]
 by_cases h : s = []
 ·subst h
  simp only [if_true]
  exact Ev.val rfl
 ·simp only [h, if_false]
  refine Ev.then (impl_cut_ev s 32 hl) ?_
  simp only [List.length_map]
  rw [pRows_rest h]
  exact impl_ParseRows_l0 (split 32 s) (by have := split_len 32 s; omega) (fun a ha => by have := split_part 32 s a ha; omega) _ 0 [] rfl (by omega) rfl
theorem spec_ParseRows_l0 (s : T) (hne : s ≠ []) (ls : List T) (hl : ls.length ≤ 4294967297) (hs : ∀ a ∈ ls, a.length ≤ 4294967296) : ∀ (d j : Nat) (acc : List Row), ls.length - j = d → j ≤ ls.length → acc.length = j →
  Ev (fun k => spec_ParseRows.l0 k (B s) acc (ls.map B) (j : Int)) (rRows (pRest acc (ls.drop j))) := by
 have hb : ((B s).toList != ([] : List UInt8)) = true := by rw [toList_B]; simpa using hne
 intro d
 induction d with
 | zero =>
  intro j acc hd hj ha
  obtain rfl : j = ls.length := by omega
  refine Ev.succ ?_
  have c1 : ¬ ((ls.length : Int) < ((ls.map B).length : Int)) := by rw [List.length_map]; omega
  simp only [spec_ParseRows.l0, c1, if_false, List.drop_length]
  refine Ev.succ ?_
  simp only [spec_ParseRows.j1, Bool.false_eq_true, if_false]
  refine Ev.then (spec_AreValidRows_ev acc (by omega)) ?_
  unfold pRest
  simp only [pRowL, List.append_nil]
  cases vRows acc
  ·simp only [Bool.false_eq_true, if_false]; exact Ev.val rfl
  ·simp only [if_true]; exact Ev.val rfl
 | succ d ih =>
  intro j acc hd hj ha
  have h : j < ls.length := by omega
  refine Ev.succ ?_
  have c2 : (0 : Int) ≤ (j : Int) := by omega
  have c3 : (j : Int) < ((ls.map B).length : Int) := by rw [List.length_map]; omega
  simp only [spec_ParseRows.l0, c3, if_true, hb]
  refine Ev.succ ?_
  simp only [spec_ParseRows.j1, c3, c2, if_true, rdOf_B ls j h]
  refine Ev.then (spec_ParseRow_ev _ (hs _ (List.getElem_mem _))) ?_
  rw [pRest_cons acc ls j h]
  cases pRow ls[j] with
  | none => simp only [rRow, Bool.false_eq_true, if_false]; exact Ev.val rfl
  | some x =>
   have c4 : acc.length < 5864062014805 := by omega
   simp only [rRow, if_true, c4, succ64 j (by omega)]
   exact ih (j + 1) (acc ++ [x]) (by omega) (by omega) (by simp; omega)
theorem spec_ParseRows_ev (s : T) (hl : s.length ≤ 4294967296) : Ev (fun k => spec_ParseRows.f k (B s)) (rRows (pRows s)) := by
 unfold spec_ParseRows.f
 refine Ev.then (spec_l2Cut_ev s 32 hl) ?_
 by_cases h : s = []
 ·subst h
  refine Ev.succ ?_
  have c1 : (0 : Int) < (((split 32 []).map B).length : Int) := by decide
  have hb : ((B []).toList != ([] : List UInt8)) = false := by rw [toList_B]; rfl
  simp only [spec_ParseRows.l0, c1, if_true, hb]
  refine Ev.succ ?_
  simp only [spec_ParseRows.j1, Bool.false_eq_true, if_false]
  refine Ev.then (spec_AreValidRows_ev [] (by simp)) ?_
  exact Ev.val rfl
 ·rw [pRows_rest h]
  exact spec_ParseRows_l0 s h (split 32 s) (by have := split_len 32 s; omega) (fun a ha => by have := split_part 32 s a ha; omega) _ 0 [] rfl (by omega) rfl
end
open Plain Br
section
abbrev Task := S40
def inB (x a b : Int) : Bool := decide (a ≤ x) && decide (x ≤ b)
theorem inB_iff (x a b : Int) : inB x a b = true ↔ a ≤ x ∧ x ≤ b := by
 unfold inB; rw [Bool.and_eq_true, decide_eq_true_iff, decide_eq_true_iff]
def vTask (t : Task) : Bool := inB t.f0 1 4 && (vRows t.f1 && (vRows t.f2 && (decide (t.f3.length = t.f1.length) && inB t.f4 0 4)))
theorem impl_IsValidTask_ev (k0 : Int) (l r : List Row) (m : List Bool) (v : Int) : Ev (fun k => impl_IsValidTask.f k k0 l r m v) (vTask ⟨k0, l, r, m, v⟩) := by
 unfold impl_IsValidTask.f vTask impl_IsValidJoinKind.f
 simp only [within_eq, Option.bind_some]
 rw [show (decide (1 ≤ k0) && decide (k0 ≤ 4)) = inB k0 1 4 from rfl, show (decide (0 ≤ v) && decide (v ≤ 4)) = inB v 0 4 from rfl]
 cases inB k0 1 4
 ·simp only [Bool.false_eq_true, if_false, Bool.false_and]; exact Ev.val rfl
 ·simp only [if_true, Bool.true_and]
  refine Ev.then (impl_AreValidRows_ev l) ?_
  cases vRows l
  ·simp only [Bool.false_eq_true, if_false, Bool.false_and]; exact Ev.val rfl
  ·simp only [if_true, Bool.true_and]
   refine Ev.then (impl_AreValidRows_ev r) ?_
   cases vRows r
   ·simp only [Bool.false_eq_true, if_false, Bool.false_and]; exact Ev.val rfl
   ·simp only [if_true, Bool.true_and]
    by_cases h : m.length = l.length
    ·have c : (m.length : Int) = (l.length : Int) := by omega
     simp only [c, h, if_true, decide_true, Bool.true_and]; exact Ev.val rfl
    ·have c : ¬ ((m.length : Int) = (l.length : Int)) := by omega
     simp only [c, h, if_false, decide_false, Bool.false_and]; exact Ev.val rfl
theorem spec_IsValidTask_ev (k0 : Int) (l r : List Row) (m : List Bool) (v : Int) (hl : l.length ≤ 9223372036854775800) (hr : r.length ≤ 9223372036854775800) : Ev (fun k => spec_IsValidTask.f k k0 l r m v) (vTask ⟨k0, l, r, m, v⟩) := by
 unfold spec_IsValidTask.f vTask spec_IsValidJoinKind.f
 simp only [l1In_eq, Option.bind_some]
 rw [show (decide (1 ≤ k0) && decide (k0 ≤ 4)) = inB k0 1 4 from rfl, show (decide (0 ≤ v) && decide (v ≤ 4)) = inB v 0 4 from rfl]
 cases inB k0 1 4
 ·simp only [Bool.false_eq_true, if_false, Bool.false_and]; exact Ev.val rfl
 ·simp only [if_true, Bool.true_and]
  refine Ev.then (spec_AreValidRows_ev l hl) ?_
  cases vRows l
  ·simp only [Bool.false_eq_true, if_false, Bool.false_and]; exact Ev.val rfl
  ·simp only [if_true, Bool.true_and]
   refine Ev.then (spec_AreValidRows_ev r hr) ?_
   cases vRows r
   ·simp only [Bool.false_eq_true, if_false, Bool.false_and]; exact Ev.val rfl
   ·simp only [if_true, Bool.true_and]
    by_cases h : m.length = l.length
    ·have c : (m.length : Int) = (l.length : Int) := by omega
     simp only [c, h, if_true, decide_true, Bool.true_and]; exact Ev.val rfl
    ·have c : ¬ ((m.length : Int) = (l.length : Int)) := by omega
     simp only [c, h, if_false, decide_false, Bool.false_and]; exact Ev.val rfl
structure VTask (t : Task) : Prop where
 kind : 1 ≤ t.f0 ∧ t.f0 ≤ 4
 left : vRows t.f1 = true
 right : vRows t.f2 = true
 marks : t.f3.length = t.f1.length
 level : 0 ≤ t.f4 ∧ t.f4 ≤ 4
theorem vTask_iff (t : Task) : vTask t = true ↔ VTask t := by
 unfold vTask
 rw [Bool.and_eq_true, Bool.and_eq_true, Bool.and_eq_true, Bool.and_eq_true, decide_eq_true_iff, inB_iff, inB_iff]
 exact ⟨fun ⟨a, b, c, d, e⟩ => ⟨a, b, c, d, e⟩, fun h => ⟨h.kind, h.left, h.right, h.marks, h.level⟩⟩
def mk1 (b : Bool) : UInt8 := if b = true then 49 else 48
def marksT (m : List Bool) : T := m.map mk1
def unmark (s : T) : List Bool := s.map fun c => decide (c = 49)
theorem unmark_marks (m : List Bool) : unmark (marksT m) = m := by
 unfold unmark marksT
 rw [List.map_map]
 conv => rhs; rw [← List.map_id m]
 apply List.map_congr_left
 intro b _
 cases b <;> rfl
def fTaskV (t : Task) : T := join [59] [fmtI t.f0, fRows t.f1, fRows t.f2, marksT t.f3, fmtI t.f4]
def fTask (t : Task) : T := if vTask t = true then fTaskV t else []
theorem marks_take (m : List Bool) (j : Nat) (h : j < m.length) : marksT (m.take (j + 1)) = marksT (m.take j) ++ [mk1 m[j]] := by
 unfold marksT
 rw [List.take_succ_eq_append_getElem h, List.map_append]
 rfl
theorem rdOf_bool (m : List Bool) (j : Nat) (h : j < m.length) : rdOf false m (j : Int) = m[j] := by
 unfold rdOf
 rw [Int.toNat_natCast, List.getD_eq_getElem?_getD, List.getElem?_eq_getElem h]
 rfl
theorem impl_FormatTask_l0 (t : Task) (hv : VTask t) : ∀ (d j : Nat), t.f3.length - j = d → j ≤ t.f3.length →
  Ev (fun k => impl_FormatTask.l0 k (B (marksT (t.f3.take j))) t.f3 (t.f3.length : Int) (j : Int) t.f0 t.f1 t.f2 t.f3 t.f4) (B (fTaskV t)) := by
 have hlen : t.f3.length ≤ 24 := by have := ((vRows_iff _).1 hv.left).1; rw [hv.marks]; exact this
 have hk := hv.kind
 have hlv := hv.level
 intro d
 induction d with
 | zero =>
  intro j hd hj
  obtain rfl : j = t.f3.length := by omega
  refine Ev.succ ?_
  have c1 : ¬ ((t.f3.length : Int) < (t.f3.length : Int)) := by omega
  simp only [impl_FormatTask.l0, c1, if_false, List.take_length]
  refine Ev.then (impl_FormatInt_ev _ (by omega) (by omega)) ?_
  refine Ev.then (impl_FormatRows_ev _) ?_
  refine Ev.then (impl_FormatRows_ev _) ?_
  refine Ev.then (impl_FormatInt_ev _ (by omega) (by omega)) ?_
  refine Ev.one ?_
  refine impl_joined_ev [59] [fmtI t.f0, fRows t.f1, fRows t.f2, marksT t.f3, fmtI t.f4] 900 (by omega) (by simp) (by simp) ?_
  intro a ha
  have h1 := fmtI_len t.f0 (by omega) (by omega)
  have h2 := fmtI_len t.f4 (by omega) (by omega)
  have h3 := fRows_len t.f1
  have h4 := fRows_len t.f2
  have h5 : (marksT t.f3).length ≤ 24 := by unfold marksT; rw [List.length_map]; exact hlen
  simp only [List.mem_cons, List.not_mem_nil, or_false] at ha
  rcases ha with rfl | rfl | rfl | rfl | rfl <;> omega
 | succ d ih =>
  intro j hd hj
  have h : j < t.f3.length := by omega
  refine Ev.succ ?_
  have c1 : (j : Int) < (t.f3.length : Int) := by omega
  have c2 : (0 : Int) ≤ (j : Int) := by omega
  have c3 : (B (marksT (t.f3.take j))).size + 1 ≤ 9223372036854775807 := by rw [size_B]; unfold marksT; rw [List.length_map, List.length_take]; omega
  have := ih (j + 1) (by omega) (by omega)
  rw [marks_take t.f3 j h] at this
  simp only [impl_FormatTask.l0, c1, c2, if_true, rdOf_bool t.f3 j h, c3, litL, B_append, succ64 j (by omega)]
  cases e : t.f3[j]
  ·rw [e] at this; simp only [Bool.false_eq_true, if_false]; exact this
  ·rw [e] at this; simp only [if_true]; exact this
theorem impl_FormatTask_ev (t : Task) : Ev (fun k => impl_FormatTask.f k t.f0 t.f1 t.f2 t.f3 t.f4) (B (fTask t)) := by
 unfold impl_FormatTask.f fTask
 refine Ev.then (impl_IsValidTask_ev _ _ _ _ _) ?_
 cases h : vTask t
 ·simp only [show vTask ⟨t.f0, t.f1, t.f2, t.f3, t.f4⟩ = vTask t from rfl, h, Bool.false_eq_true, if_false]; exact Ev.val rfl
 ·simp only [show vTask ⟨t.f0, t.f1, t.f2, t.f3, t.f4⟩ = vTask t from rfl, h, if_true]
  have := impl_FormatTask_l0 t ((vTask_iff t).1 h) t.f3.length 0 (by omega) (by omega)
  simpa [marksT, B_nil] using this
theorem spec_FormatTask_l0 (t : Task) (hv : VTask t) : ∀ (d j : Nat), t.f3.length - j = d → j ≤ t.f3.length →
  Ev (fun k => spec_FormatTask.l0 k (B (marksT (t.f3.take j))) (j : Int) t.f0 t.f1 t.f2 t.f3 t.f4) (B (fTaskV t)) := by
 have hlen : t.f3.length ≤ 24 := by have := ((vRows_iff _).1 hv.left).1; rw [hv.marks]; exact this
 have hll := ((vRows_iff _).1 hv.left).1
 have hrl := ((vRows_iff _).1 hv.right).1
 have hk := hv.kind
 have hlv := hv.level
 intro d
 induction d with
 | zero =>
  intro j hd hj
  obtain rfl : j = t.f3.length := by omega
  refine Ev.succ ?_
  have c1 : ¬ ((t.f3.length : Int) < (t.f3.length : Int)) := by omega
  have h1 := fmtI_len t.f0 (by omega) (by omega)
  have h2 := fmtI_len t.f4 (by omega) (by omega)
  have h3 := fRows_len t.f1
  have h4 := fRows_len t.f2
  have h5 : (marksT t.f3).length ≤ 24 := by unfold marksT; rw [List.length_map]; exact hlen
  simp only [spec_FormatTask.l0, c1, if_false, List.take_length]
  refine Ev.then (spec_FormatInt_ev _ (by omega) (by omega)) ?_
  have d1 : (B (fmtI t.f0)).size + 1 ≤ 9223372036854775807 := by rw [size_B]; omega
  simp only [d1, if_true, litL, B_append]
  refine Ev.then (spec_FormatRows_ev _ (by omega)) ?_
  have d2 : (B (fmtI t.f0 ++ [59])).size + (B (fRows t.f1)).size ≤ 9223372036854775807 := by rw [size_B, size_B]; simp only [List.length_append, List.length_singleton]; omega
  have d3 : (B (fmtI t.f0 ++ [59] ++ fRows t.f1)).size + 1 ≤ 9223372036854775807 := by rw [size_B]; simp only [List.length_append, List.length_singleton]; omega
  simp only [d2, d3, if_true, B_append]
  refine Ev.then (spec_FormatRows_ev _ (by omega)) ?_
  have d4 : (B (fmtI t.f0 ++ [59] ++ fRows t.f1 ++ [59])).size + (B (fRows t.f2)).size ≤ 9223372036854775807 := by rw [size_B, size_B]; simp only [List.length_append, List.length_singleton]; omega
  have d5 : (B (fmtI t.f0 ++ [59] ++ fRows t.f1 ++ [59] ++ fRows t.f2)).size + 1 ≤ 9223372036854775807 := by rw [size_B]; simp only [List.length_append, List.length_singleton]; omega
  have d6 : (B (fmtI t.f0 ++ [59] ++ fRows t.f1 ++ [59] ++ fRows t.f2 ++ [59])).size + (B (marksT t.f3)).size ≤ 9223372036854775807 := by rw [size_B, size_B]; simp only [List.length_append, List.length_singleton]; omega
  have d7 : (B (fmtI t.f0 ++ [59] ++ fRows t.f1 ++ [59] ++ fRows t.f2 ++ [59] ++ marksT t.f3)).size + 1 ≤ 9223372036854775807 := by rw [size_B]; simp only [List.length_append, List.length_singleton]; omega
  simp only [d4, d5, d6, d7, if_true, B_append]
  refine Ev.then (spec_FormatInt_ev _ (by omega) (by omega)) ?_
  have d8 : (B (fmtI t.f0 ++ [59] ++ fRows t.f1 ++ [59] ++ fRows t.f2 ++ [59] ++ marksT t.f3 ++ [59])).size + (B (fmtI t.f4)).size ≤ 9223372036854775807 := by rw [size_B, size_B]; simp only [List.length_append, List.length_singleton]; omega
  simp only [d8, if_true, B_append]
  refine Ev.val ?_
  rw [B_inj]
  simp [fTaskV, join]
 | succ d ih =>
  intro j hd hj
  have h : j < t.f3.length := by omega
  refine Ev.succ ?_
  have c1 : (j : Int) < (t.f3.length : Int) := by omega
  have c2 : (0 : Int) ≤ (j : Int) := by omega
  have c3 : (B (marksT (t.f3.take j))).size + 1 ≤ 9223372036854775807 := by rw [size_B]; unfold marksT; rw [List.length_map, List.length_take]; omega
  have := ih (j + 1) (by omega) (by omega)
  rw [marks_take t.f3 j h] at this
  simp only [spec_FormatTask.l0, c1, c2, if_true, rdOf_bool t.f3 j h, c3, litL, B_append, succ64 j (by omega)]
  cases e : t.f3[j]
  ·rw [e] at this; simp only [Bool.false_eq_true, if_false]; exact this
  ·rw [e] at this; simp only [if_true]; exact this
theorem spec_FormatTask_ev (t : Task) (hl : t.f1.length ≤ 9223372036854775800) (hr : t.f2.length ≤ 9223372036854775800) : Ev (fun k => spec_FormatTask.f k t.f0 t.f1 t.f2 t.f3 t.f4) (B (fTask t)) := by
 unfold spec_FormatTask.f fTask
 refine Ev.then (spec_IsValidTask_ev _ _ _ _ _ hl hr) ?_
 cases h : vTask t
 ·simp only [show vTask ⟨t.f0, t.f1, t.f2, t.f3, t.f4⟩ = vTask t from rfl, h, Bool.false_eq_true, if_false]; exact Ev.val rfl
 ·simp only [show vTask ⟨t.f0, t.f1, t.f2, t.f3, t.f4⟩ = vTask t from rfl, h, if_true]
  have := spec_FormatTask_l0 t ((vTask_iff t).1 h) t.f3.length 0 (by omega) (by omega)
  simpa [marksT, B_nil] using this

def mTask (a b c d e : T) : Task := ⟨(pIr a).1, (rRows (pRows b)).1, (rRows (pRows c)).1, unmark d, (pIr e).1⟩
def pTask (s : T) : Option Task := match split 59 s with
 | [a, b, c, d, e] => if vTask (mTask a b c d e) = true ∧ fTask (mTask a b c d e) = s then some (mTask a b c d e) else none
 | _ => none
theorem mk1_free (m : List Bool) {c : UInt8} (h : numSign c = false) : c ∉ marksT m := by
 unfold marksT
 intro hm
 obtain ⟨b, _, rfl⟩ := List.mem_map.1 hm
 cases b <;> cases h
theorem split_fTask (t : Task) : split 59 (fTaskV t) = [fmtI t.f0, fRows t.f1, fRows t.f2, marksT t.f3, fmtI t.f4] := by
 refine split_join 59 (by simp) ?_
 intro a ha
 simp only [List.mem_cons, List.not_mem_nil, or_false] at ha
 rcases ha with rfl | rfl | rfl | rfl | rfl
 ·exact numFree (by decide)
 ·exact fRows_free (by decide) (by decide) (by decide)
 ·exact fRows_free (by decide) (by decide) (by decide)
 ·exact mk1_free _ (by decide)
 ·exact numFree (by decide)
theorem mTask_fmt {t : Task} (h : VTask t) : mTask (fmtI t.f0) (fRows t.f1) (fRows t.f2) (marksT t.f3) (fmtI t.f4) = t := by
 have hk := h.kind
 have hl := h.level
 unfold mTask
 rw [pIr_some rfl (by omega) (by omega), pIr_some rfl (by omega) (by omega), pRows_some.2 ⟨h.left, rfl⟩, pRows_some.2 ⟨h.right, rfl⟩, unmark_marks]
 rfl
theorem pTask_some {s : T} {t : Task} : pTask s = some t ↔ vTask t = true ∧ fTask t = s := by
 unfold pTask
 constructor
 ·intro h
  split at h
  ·split at h
   ·rename_i hc
    injection h with h
    subst h
    exact hc
   ·cases h
  ·cases h
 ·rintro ⟨hv, rfl⟩
  have e : fTask t = fTaskV t := by unfold fTask; rw [if_pos hv]
  rw [e, split_fTask]
  simp only [mTask_fmt ((vTask_iff t).1 hv), hv, e, true_and, if_true]
def rTask : Option Task → Int × List Row × List Row × List Bool × Int × Bool
 | some t => (t.f0, t.f1, t.f2, t.f3, t.f4, true)
 | none => (0, [], [], [], 0, false)
theorem five (ls : List T) (h : ls.length = 5) : ∃ a b c d e, ls = [a, b, c, d, e] := by
 match ls, h with
 | [a, b, c, d, e], _ => exact ⟨a, b, c, d, e, rfl⟩
theorem fTask_ne {t : Task} {s : T} (h : fTask t = s) (h5 : (split 59 s).length = 5) : vTask t = true := by
 cases q : vTask t with
 | true => rfl
 | false =>
  unfold fTask at h
  rw [q] at h
  simp only [Bool.false_eq_true, if_false] at h
  rw [← h] at h5
  simp [split] at h5
theorem pTask_mk {s a b c d e : T} (hs : split 59 s = [a, b, c, d, e]) : pTask s = if fTask (mTask a b c d e) = s then some (mTask a b c d e) else none := by
 unfold pTask
 rw [hs]
 simp only
 by_cases h : fTask (mTask a b c d e) = s
 ·have := fTask_ne h (by rw [hs]; rfl)
  rw [if_pos h, if_pos ⟨this, h⟩]
 ·rw [if_neg h, if_neg (fun x => h x.2)]
theorem pRows_len {s : T} : ((rRows (pRows s)).1).length ≤ 24 := by
 cases h : pRows s with
 | none => simp [rRows]
 | some l => exact ((vRows_iff l).1 (pRows_some.1 h).1).1
theorem unmark_take (d : T) (j : Nat) (h : j < d.length) : unmark (d.take (j + 1)) = unmark (d.take j) ++ [((d[j].toNat : Int) == 49)] := by
 unfold unmark
 rw [List.take_succ_eq_append_getElem h, List.map_append]
 congr 1
 rw [List.map_singleton]
 congr 1
 have : (d[j] = 49) ↔ ((d[j].toNat : Int) = 49) := by
  constructor
  ·intro e; rw [e]; rfl
  ·intro e; exact UInt8.toNat_inj.1 (by have : (49 : UInt8).toNat = 49 := rfl; omega)
 by_cases e : d[j] = 49
 ·rw [decide_eq_true e, beq_iff_eq.2 (this.1 e)]
 ·rw [decide_eq_false e, beq_eq_false_iff_ne.2 (fun x => e (this.2 x))]
theorem spec_ParseTask_l0 (s a b c d e : T) (hs : split 59 s = [a, b, c, d, e]) (hl : s.length ≤ 4294967296) : ∀ (q j : Nat), d.length - j = q → j ≤ d.length →
  Ev (fun k => spec_ParseTask.l0 k (B s) ([a, b, c, d, e].map B) (j : Int) (pIr a).1 (rRows (pRows b)).1 (rRows (pRows c)).1 (unmark (d.take j)) 0) (rTask (pTask s)) := by
 have hd : d.length ≤ s.length := split_part 59 s d (by rw [hs]; simp)
 have r3 : rdOf ByteArray.empty ([a, b, c, d, e].map B) 3 = B d := rfl
 have r4 : rdOf ByteArray.empty ([a, b, c, d, e].map B) 4 = B e := rfl
 have c0 : (3 : Int) < (([a, b, c, d, e].map B).length : Int) := by simp
 have c00 : (4 : Int) < (([a, b, c, d, e].map B).length : Int) := by simp
 intro q
 induction q with
 | zero =>
  intro j hd hj
  obtain rfl : j = d.length := by omega
  refine Ev.succ ?_
  have c1 : ¬ ((d.length : Int) < ((B d).size : Int)) := by rw [size_B]; omega
  simp only [spec_ParseTask.l0, c0, c00, if_true, r3, r4, c1, if_false, List.take_length]
  refine Ev.then (spec_ParseInt_ev e) ?_
  refine Ev.then (spec_FormatTask_ev (mTask a b c d e) (by have := @pRows_len b; show ((rRows (pRows b)).1).length ≤ _; omega) (by have := @pRows_len c; show ((rRows (pRows c)).1).length ≤ _; omega)) ?_
  simp only [toList_B]
  rw [pTask_mk hs]
  by_cases h : fTask (mTask a b c d e) = s
  ·simp only [h, if_true]; exact Ev.val rfl
  ·simp only [h, if_false]; exact Ev.val rfl
 | succ q ih =>
  intro j hq hj
  have h : j < d.length := by omega
  refine Ev.succ ?_
  have c1 : (j : Int) < ((B d).size : Int) := by rw [size_B]; omega
  have c2 : (0 : Int) ≤ (j : Int) := by omega
  have c3 : (unmark (d.take j)).length < 140737488355328 := by unfold unmark; rw [List.length_map, List.length_take]; omega
  have := ih (j + 1) (by omega) (by omega)
  rw [unmark_take d j h] at this
  simp only [spec_ParseTask.l0, c0, c1, c2, c3, if_true, r3, bt_nat d j h, succ64 j (by omega)]
  exact this
theorem pTask_none {s : T} (h : (split 59 s).length ≠ 5) : pTask s = none := by
 unfold pTask
 split
 ·rename_i e; rw [e] at h; simp at h
 ·rfl
theorem spec_ParseTask_ev (s : T) (hl : s.length ≤ 4294967296) : Ev (fun k => spec_ParseTask.f k (B s)) (rTask (pTask s)) := by
 unfold spec_ParseTask.f
 refine Ev.then (spec_l2Cut_ev s 59 hl) ?_
 have hp : ∀ x ∈ split 59 s, x.length ≤ 4294967296 := fun x hx => by have := split_part 59 s x hx; omega
 by_cases h : (split 59 s).length = 5
 ·obtain ⟨a, b, c, d, e, hs⟩ := five _ h
  rw [hs] at hp
  have c0 : ((((split 59 s).map B).length : Nat) : Int) = 5 := by rw [hs]; rfl
  have r0 : rdOf ByteArray.empty ((split 59 s).map B) 0 = B a := by rw [hs]; rfl
  have r1 : rdOf ByteArray.empty ((split 59 s).map B) 1 = B b := by rw [hs]; rfl
  have r2 : rdOf ByteArray.empty ((split 59 s).map B) 2 = B c := by rw [hs]; rfl
  simp only [c0, if_true, show (0 : Int) < 5 from by decide, show (1 : Int) < 5 from by decide, show (2 : Int) < 5 from by decide, r0, r1, r2]
  refine Ev.then (spec_ParseInt_ev a) ?_
  refine Ev.then (spec_ParseRows_ev b (hp b (by simp))) ?_
  refine Ev.then (spec_ParseRows_ev c (hp c (by simp))) ?_
  rw [hs]
  exact spec_ParseTask_l0 s a b c d e hs hl d.length 0 rfl (by omega)
 ·have c0 : ¬ (((((split 59 s).map B).length : Nat) : Int) = 5) := by rw [List.length_map]; omega
  simp only [c0, if_false]
  rw [pTask_none h]
  exact Ev.val rfl
theorem pTask_tests {s a b c d e : T} (hs : split 59 s = [a, b, c, d, e]) (h : ¬ ((pIr a).2 = true ∧ (rRows (pRows b)).2 = true ∧ (rRows (pRows c)).2 = true ∧ (pIr e).2 = true)) : pTask s = none := by
 cases q : pTask s with
 | none => rfl
 | some t =>
  obtain ⟨hv, hf⟩ := pTask_some.1 q
  have h' := (vTask_iff t).1 hv
  have e0 : fTask t = fTaskV t := by unfold fTask; rw [if_pos hv]
  have e1 := split_fTask t
  rw [← e0, hf, hs] at e1
  injection e1 with ea e1
  injection e1 with eb e1
  injection e1 with ec e1
  injection e1 with ed e1
  injection e1 with ee _
  have hk := h'.kind
  have hlv := h'.level
  exfalso
  apply h
  rw [ea, eb, ec, ee, pIr_some rfl (by omega) (by omega), pIr_some rfl (by omega) (by omega), pRows_some.2 ⟨h'.left, rfl⟩, pRows_some.2 ⟨h'.right, rfl⟩]
  exact ⟨rfl, rfl, rfl, rfl⟩
theorem impl_ParseTask_l0 (s a b c d e : T) (hs : split 59 s = [a, b, c, d, e]) (hl : s.length ≤ 4294967296) : ∀ (q j : Nat), d.length - j = q → j ≤ d.length →
  Ev (fun k => impl_ParseTask.l0 k (B s) ([a, b, c, d, e].map B) (pIr a).2 (rRows (pRows b)).2 (rRows (pRows c)).2 (pIr e).2 (d.length : Int) (j : Int) (pIr a).1 (rRows (pRows b)).1 (rRows (pRows c)).1 (unmark (d.take j)) (pIr e).1) (rTask (pTask s)) := by
 have hd : d.length ≤ s.length := split_part 59 s d (by rw [hs]; simp)
 have r3 : rdOf ByteArray.empty ([a, b, c, d, e].map B) 3 = B d := rfl
 have c0 : (3 : Int) < (([a, b, c, d, e].map B).length : Int) := by simp
 intro q
 induction q with
 | zero =>
  intro j hd hj
  obtain rfl : j = d.length := by omega
  refine Ev.succ ?_
  have c1 : ¬ ((d.length : Int) < (d.length : Int)) := by omega
  simp only [impl_ParseTask.l0, c1, if_false, List.take_length]
  by_cases hall : (pIr a).2 = true ∧ (rRows (pRows b)).2 = true ∧ (rRows (pRows c)).2 = true ∧ (pIr e).2 = true
  ·obtain ⟨h1, h2, h3, h4⟩ := hall
   simp only [h1, h2, h3, h4, if_true]
   refine Ev.then (impl_IsValidTask_ev _ _ _ _ _) ?_
   show Ev (fun n => if vTask (mTask a b c d e) = true then _ else _) _
   rw [pTask_mk hs]
   by_cases hv : vTask (mTask a b c d e) = true
   ·simp only [hv, if_true]
    refine Ev.then (impl_FormatTask_ev (mTask a b c d e)) ?_
    simp only [toList_B]
    by_cases h : fTask (mTask a b c d e) = s
    ·simp only [h, if_true]; exact Ev.val rfl
    ·simp only [h, if_false]; exact Ev.val rfl
   ·simp only [hv, Bool.false_eq_true, if_false]
    rw [if_neg (fun h => hv (fTask_ne h (by rw [hs]; rfl)))]
    exact Ev.val rfl
  ·rw [pTask_tests hs hall]
   cases h1 : (pIr a).2
   ·simp only [Bool.false_eq_true, if_false]; exact Ev.val rfl
   ·cases h2 : (rRows (pRows b)).2
    ·simp only [if_true, Bool.false_eq_true, if_false]; exact Ev.val rfl
    ·cases h3 : (rRows (pRows c)).2
     ·simp only [if_true, Bool.false_eq_true, if_false]; exact Ev.val rfl
     ·cases h4 : (pIr e).2
      ·simp only [if_true, Bool.false_eq_true, if_false]; exact Ev.val rfl
      ·exact absurd ⟨h1, h2, h3, h4⟩ hall
 | succ q ih =>
  intro j hq hj
  have h : j < d.length := by omega
  refine Ev.succ ?_
  have c1 : (j : Int) < (d.length : Int) := by omega
  have c4 : (j : Int) < ((B d).size : Int) := by rw [size_B]; omega
  have c2 : (0 : Int) ≤ (j : Int) := by omega
  have c3 : (unmark (d.take j)).length < 140737488355328 := by unfold unmark; rw [List.length_map, List.length_take]; omega
  have := ih (j + 1) (by omega) (by omega)
  rw [unmark_take d j h] at this
  simp only [impl_ParseTask.l0, c0, c1, c2, c3, c4, if_true, r3, bt_nat d j h, succ64 j (by omega)]
  exact this
theorem impl_ParseTask_ev (s : T) (hl : s.length ≤ 4294967296) : Ev (fun k => impl_ParseTask.f k (B s)) (rTask (pTask s)) := by
 unfold impl_ParseTask.f
 refine Ev.then (impl_cut_ev s 59 hl) ?_
 have hp : ∀ x ∈ split 59 s, x.length ≤ 4294967296 := fun x hx => by have := split_part 59 s x hx; omega
 by_cases h : (split 59 s).length = 5
 ·obtain ⟨a, b, c, d, e, hs⟩ := five _ h
  rw [hs] at hp
  have c0 : ((((split 59 s).map B).length : Nat) : Int) = 5 := by rw [hs]; rfl
  have r0 : rdOf ByteArray.empty ((split 59 s).map B) 0 = B a := by rw [hs]; rfl
  have r1 : rdOf ByteArray.empty ((split 59 s).map B) 1 = B b := by rw [hs]; rfl
  have r2 : rdOf ByteArray.empty ((split 59 s).map B) 2 = B c := by rw [hs]; rfl
  have r3 : rdOf ByteArray.empty ((split 59 s).map B) 3 = B d := by rw [hs]; rfl
  have r4 : rdOf ByteArray.empty ((split 59 s).map B) 4 = B e := by rw [hs]; rfl
  simp only [c0, if_true, show (0 : Int) < 5 from by decide, show (1 : Int) < 5 from by decide, show (2 : Int) < 5 from by decide, show (3 : Int) < 5 from by decide, show (4 : Int) < 5 from by decide, r0, r1, r2, r3, r4]
  refine Ev.then (impl_ParseInt_ev a) ?_
  refine Ev.then (impl_ParseRows_ev b (hp b (by simp))) ?_
  refine Ev.then (impl_ParseRows_ev c (hp c (by simp))) ?_
  refine Ev.then (impl_ParseInt_ev e) ?_
  rw [hs, size_B]
  exact impl_ParseTask_l0 s a b c d e hs hl d.length 0 rfl (by omega)
 ·have c0 : ¬ (((((split 59 s).map B).length : Nat) : Int) = 5) := by rw [List.length_map]; omega
  simp only [c0, if_false]
  rw [pTask_none h]
  exact Ev.val rfl
end
open Plain Br
section
def mkRows : Nat → Int → List Row
 | 0, _ => []
 | n + 1, m => ⟨m, m + 1, m + 2⟩ :: mkRows n (m + 3)
theorem mkRows_len : ∀ n m, (mkRows n m).length = n
 | 0, _ => rfl
 | n + 1, m => by rw [mkRows, List.length_cons, mkRows_len]
theorem mkRows_get : ∀ (n : Nat) (m : Int) (j : Nat) (h : j < (mkRows n m).length), (mkRows n m)[j] = ⟨m + 3 * j, m + 3 * j + 1, m + 3 * j + 2⟩
 | 0, _, j, h => by simp [mkRows] at h
 | n + 1, m, 0, _ => by simp [mkRows]
 | n + 1, m, j + 1, h => by
  have h' : j < (mkRows n (m + 3)).length := by rw [mkRows] at h; simpa using h
  have := mkRows_get n (m + 3) j h'
  show (mkRows n (m + 3))[j]'h' = _
  rw [this]
  have e : m + 3 + 3 * (j : Int) = m + 3 * ((j + 1 : Nat) : Int) := by omega
  rw [e]
theorem mkRows_snoc : ∀ (n : Nat) (m : Int), mkRows (n + 1) m = mkRows n m ++ [⟨m + 3 * n, m + 3 * n + 1, m + 3 * n + 2⟩]
 | 0, m => by simp [mkRows]
 | n + 1, m => by
  rw [mkRows, mkRows_snoc n (m + 3)]
  have e : m + 3 + 3 * (n : Int) = m + 3 * ((n + 1 : Nat) : Int) := by omega
  rw [e]
  rfl
theorem wr1 {x : Int} (h : -4611686018427387904 ≤ x) (h2 : x ≤ 4611686018427387904) : wrap64 (x + 1) = x + 1 := by unfold wrap64; omega
theorem set_mid {α : Type} (a : List α) (x y : α) (b : List α) (j : Nat) (h : a.length = j) : (a ++ x :: b).set j y = a ++ y :: b := by
 subst h; simp
theorem laws_markRowS_l0 (xs : List Row) (m0 : Int) (h0 : 0 ≤ m0) (hb : m0 + 3 * (xs.length : Int) ≤ 4611686018427387000) : ∀ (d j : Nat), xs.length - j = d → j ≤ xs.length →
  Ev (fun k => laws_markRowS.l0 k (mkRows j m0 ++ xs.drop j) (m0 + 3 * j) (j : Int)) (m0 + 3 * xs.length, mkRows xs.length m0) := by
 intro d
 induction d with
 | zero =>
  intro j hd hj
  obtain rfl : j = xs.length := by omega
  refine Ev.succ ?_
  have c1 : ¬ ((xs.length : Int) < ((mkRows xs.length m0 ++ xs.drop xs.length).length : Int)) := by rw [List.length_append, mkRows_len, List.drop_length]; simp
  simp only [laws_markRowS.l0, c1, if_false]
  refine Ev.val ?_
  rw [List.drop_length, List.append_nil]
 | succ d ih =>
  intro j hd hj
  have h : j < xs.length := by omega
  refine Ev.succ ?_
  have hlen : (mkRows j m0 ++ xs.drop j).length = xs.length := by rw [List.length_append, mkRows_len, List.length_drop]; omega
  have c1 : (j : Int) < ((mkRows j m0 ++ xs.drop j).length : Int) := by rw [hlen]; omega
  have c2 : (0 : Int) ≤ (j : Int) := by omega
  have e0 : mkRows j m0 ++ xs.drop j = mkRows j m0 ++ xs[j] :: xs.drop (j + 1) := by rw [List.drop_eq_getElem_cons h]
  have e1 := wr1 (x := m0 + 3 * (j : Int)) (by omega) (by omega)
  have e2 := wr1 (x := m0 + 3 * (j : Int) + 1) (by omega) (by omega)
  have e3 := wr1 (x := m0 + 3 * (j : Int) + 1 + 1) (by omega) (by omega)
  have rdj : ∀ y : Row, rd_T60 (mkRows j m0 ++ y :: xs.drop (j + 1)) (j : Int) = y := by
   intro y
   rw [rd_row _ j (by rw [List.length_append, mkRows_len]; simp)]
   rw [List.getElem_append_right (by rw [mkRows_len]; exact Nat.le_refl _)]
   simp [mkRows_len]
  simp only [laws_markRowS.l0, c1, c2, if_true, e1, e2, e3, Int.toNat_natCast, Option.bind_some, succ64 j (by omega)]
  simp only [e0, set_mid _ _ _ _ j (mkRows_len j m0), rdj]
  have := ih (j + 1) (by omega) (by omega)
  rw [mkRows_snoc, List.append_assoc] at this
  have e4 : m0 + 3 * (j : Int) + 1 + 1 + 1 = m0 + 3 * ((j + 1 : Nat) : Int) := by omega
  have e5 : m0 + 3 * (j : Int) + 1 + 1 = m0 + 3 * (j : Int) + 2 := by omega
  rw [e4, e5]
  exact this
theorem laws_markRowS_ev (xs : List Row) (m0 : Int) (h0 : 0 ≤ m0) (hb : m0 + 3 * (xs.length : Int) ≤ 4611686018427387000) : Ev (fun k => laws_markRowS.f k xs m0) (m0 + 3 * xs.length, mkRows xs.length m0) := by
 have := laws_markRowS_l0 xs m0 h0 hb xs.length 0 (by omega) (by omega)
 simpa [laws_markRowS.f, mkRows] using this
theorem laws_heldRowS_l0 (n : Nat) (m0 : Int) (h0 : 0 ≤ m0) (hb : m0 + 3 * (n : Int) ≤ 4611686018427387000) : ∀ (d j : Nat), n - j = d → j ≤ n →
  Ev (fun k => laws_heldRowS.l0 k (mkRows n m0) (m0 + 3 * j) (j : Int)) (m0 + 3 * n) := by
 intro d
 induction d with
 | zero =>
  intro j hd hj
  obtain rfl : j = n := by omega
  refine Ev.succ ?_
  have c1 : ¬ ((j : Int) < ((mkRows j m0).length : Int)) := by rw [mkRows_len]; omega
  simp only [laws_heldRowS.l0, c1, if_false]
  exact Ev.val rfl
 | succ d ih =>
  intro j hd hj
  have h : j < (mkRows n m0).length := by rw [mkRows_len]; omega
  refine Ev.succ ?_
  have c1 : (j : Int) < ((mkRows n m0).length : Int) := by omega
  have c2 : (0 : Int) ≤ (j : Int) := by omega
  have e1 := wr1 (x := m0 + 3 * (j : Int)) (by omega) (by omega)
  have e2 := wr1 (x := m0 + 3 * (j : Int) + 1) (by omega) (by omega)
  have e3 := wr1 (x := m0 + 3 * (j : Int) + 1 + 1) (by omega) (by omega)
  have e4 : m0 + 3 * (j : Int) + 1 + 1 + 1 = m0 + 3 * ((j + 1 : Nat) : Int) := by omega
  have e5 : m0 + 3 * (j : Int) + 2 = m0 + 3 * (j : Int) + 1 + 1 := by omega
  simp only [laws_heldRowS.l0, c1, c2, if_true, rd_row _ j h, mkRows_get n m0 j h, e1, e2, e3, e5, succ64 j (by omega)]
  rw [e4]
  exact ih (j + 1) (by omega) (by omega)
theorem laws_heldRowS_ev (n : Nat) (m0 : Int) (h0 : 0 ≤ m0) (hb : m0 + 3 * (n : Int) ≤ 4611686018427387000) : Ev (fun k => laws_heldRowS.f k (mkRows n m0) m0) (m0 + 3 * n) := by
 have := laws_heldRowS_l0 n m0 h0 hb n 0 (by omega) (by omega)
 simpa [laws_heldRowS.f] using this
def mkBools : Nat → Int → List Bool
 | 0, _ => []
 | n + 1, m => (Int.tmod m 3 == 0) :: mkBools n (m + 1)
theorem mkBools_len : ∀ n m, (mkBools n m).length = n
 | 0, _ => rfl
 | n + 1, m => by rw [mkBools, List.length_cons, mkBools_len]
theorem mkBools_get : ∀ (n : Nat) (m : Int) (j : Nat) (h : j < (mkBools n m).length), (mkBools n m)[j] = (Int.tmod (m + j) 3 == 0)
 | 0, _, j, h => by simp [mkBools] at h
 | n + 1, m, 0, _ => by simp [mkBools]
 | n + 1, m, j + 1, h => by
  have h' : j < (mkBools n (m + 1)).length := by rw [mkBools] at h; simpa using h
  have := mkBools_get n (m + 1) j h'
  show (mkBools n (m + 1))[j]'h' = _
  rw [this]
  have e : m + 1 + (j : Int) = m + ((j + 1 : Nat) : Int) := by omega
  rw [e]
theorem mkBools_snoc : ∀ (n : Nat) (m : Int), mkBools (n + 1) m = mkBools n m ++ [(Int.tmod (m + n) 3 == 0)]
 | 0, m => by simp [mkBools]
 | n + 1, m => by
  rw [mkBools, mkBools_snoc n (m + 1)]
  have e : m + 1 + (n : Int) = m + ((n + 1 : Nat) : Int) := by omega
  rw [e]
  rfl
theorem laws_markBoolS_l0 (xs : List Bool) (m0 : Int) (h0 : 0 ≤ m0) (hb : m0 + (xs.length : Int) ≤ 4611686018427387000) : ∀ (d j : Nat), xs.length - j = d → j ≤ xs.length →
  Ev (fun k => laws_markBoolS.l0 k (mkBools j m0 ++ xs.drop j) (m0 + j) (j : Int)) (m0 + xs.length, mkBools xs.length m0) := by
 intro d
 induction d with
 | zero =>
  intro j hd hj
  obtain rfl : j = xs.length := by omega
  refine Ev.succ ?_
  have c1 : ¬ ((xs.length : Int) < ((mkBools xs.length m0 ++ xs.drop xs.length).length : Int)) := by rw [List.length_append, mkBools_len, List.drop_length]; simp
  simp only [laws_markBoolS.l0, c1, if_false]
  refine Ev.val ?_
  rw [List.drop_length, List.append_nil]
 | succ d ih =>
  intro j hd hj
  have h : j < xs.length := by omega
  refine Ev.succ ?_
  have hlen : (mkBools j m0 ++ xs.drop j).length = xs.length := by rw [List.length_append, mkBools_len, List.length_drop]; omega
  have c1 : (j : Int) < ((mkBools j m0 ++ xs.drop j).length : Int) := by rw [hlen]; omega
  have c2 : (0 : Int) ≤ (j : Int) := by omega
  have e0 : mkBools j m0 ++ xs.drop j = mkBools j m0 ++ xs[j] :: xs.drop (j + 1) := by rw [List.drop_eq_getElem_cons h]
  have e1 := wr1 (x := m0 + (j : Int)) (by omega) (by omega)
  simp only [laws_markBoolS.l0, c1, c2, if_true, e1, Int.toNat_natCast, succ64 j (by omega)]
  simp only [e0, set_mid _ _ _ _ j (mkBools_len j m0)]
  have := ih (j + 1) (by omega) (by omega)
  rw [mkBools_snoc, List.append_assoc] at this
  have e4 : m0 + (j : Int) + 1 = m0 + ((j + 1 : Nat) : Int) := by omega
  rw [e4]
  exact this
theorem laws_markBoolS_ev (xs : List Bool) (m0 : Int) (h0 : 0 ≤ m0) (hb : m0 + (xs.length : Int) ≤ 4611686018427387000) : Ev (fun k => laws_markBoolS.f k xs m0) (m0 + xs.length, mkBools xs.length m0) := by
 have := laws_markBoolS_l0 xs m0 h0 hb xs.length 0 (by omega) (by omega)
 simpa [laws_markBoolS.f, mkBools] using this
theorem laws_heldBoolS_l0 (n : Nat) (m0 : Int) (h0 : 0 ≤ m0) (hb : m0 + (n : Int) ≤ 4611686018427387000) : ∀ (d j : Nat), n - j = d → j ≤ n →
  Ev (fun k => laws_heldBoolS.l0 k (mkBools n m0) (m0 + j) (j : Int)) (m0 + n) := by
 intro d
 induction d with
 | zero =>
  intro j hd hj
  obtain rfl : j = n := by omega
  refine Ev.succ ?_
  have c1 : ¬ ((j : Int) < ((mkBools j m0).length : Int)) := by rw [mkBools_len]; omega
  simp only [laws_heldBoolS.l0, c1, if_false]
  exact Ev.val rfl
 | succ d ih =>
  intro j hd hj
  have h : j < (mkBools n m0).length := by rw [mkBools_len]; omega
  refine Ev.succ ?_
  have c1 : (j : Int) < ((mkBools n m0).length : Int) := by omega
  have c2 : (0 : Int) ≤ (j : Int) := by omega
  have e1 := wr1 (x := m0 + (j : Int)) (by omega) (by omega)
  have e4 : m0 + (j : Int) + 1 = m0 + ((j + 1 : Nat) : Int) := by omega
  simp only [laws_heldBoolS.l0, c1, c2, if_true, rdOf_bool _ j h, mkBools_get n m0 j h, bne_self_eq_false, Bool.false_eq_true, if_false, e1, succ64 j (by omega)]
  rw [e4]
  exact ih (j + 1) (by omega) (by omega)
theorem laws_heldBoolS_ev (n : Nat) (m0 : Int) (h0 : 0 ≤ m0) (hb : m0 + (n : Int) ≤ 4611686018427387000) : Ev (fun k => laws_heldBoolS.f k (mkBools n m0) m0) (m0 + n) := by
 have := laws_heldBoolS_l0 n m0 h0 hb n 0 (by omega) (by omega)
 simpa [laws_heldBoolS.f] using this
theorem laws_eqRowS_l0 (xs : List Row) (hl : xs.length ≤ 4611686018427387000) : ∀ (d j : Nat), xs.length - j = d → j ≤ xs.length → Ev (fun k => laws_eqRowS.l0 k xs xs (j : Int)) true := by
 intro d
 induction d with
 | zero =>
  intro j hd hj
  obtain rfl : j = xs.length := by omega
  refine Ev.succ ?_
  have c1 : ¬ ((xs.length : Int) < (xs.length : Int)) := by omega
  simp only [laws_eqRowS.l0, c1, if_false]
  exact Ev.val rfl
 | succ d ih =>
  intro j hd hj
  have h : j < xs.length := by omega
  refine Ev.succ ?_
  have c1 : (j : Int) < (xs.length : Int) := by omega
  have c2 : (0 : Int) ≤ (j : Int) := by omega
  simp only [laws_eqRowS.l0, c1, c2, if_true, laws_eqRow.f, Option.bind_some, succ64 j (by omega)]
  exact ih (j + 1) (by omega) (by omega)
theorem laws_eqRowS_self (xs : List Row) (hl : xs.length ≤ 4611686018427387000) : Ev (fun k => laws_eqRowS.f k xs xs) true := by
 have := laws_eqRowS_l0 xs hl xs.length 0 (by omega) (by omega)
 simpa [laws_eqRowS.f] using this
theorem laws_eqBoolS_l0 (xs : List Bool) (hl : xs.length ≤ 4611686018427387000) : ∀ (d j : Nat), xs.length - j = d → j ≤ xs.length → Ev (fun k => laws_eqBoolS.l0 k xs xs (j : Int)) true := by
 intro d
 induction d with
 | zero =>
  intro j hd hj
  obtain rfl : j = xs.length := by omega
  refine Ev.succ ?_
  have c1 : ¬ ((xs.length : Int) < (xs.length : Int)) := by omega
  simp only [laws_eqBoolS.l0, c1, if_false]
  exact Ev.val rfl
 | succ d ih =>
  intro j hd hj
  have h : j < xs.length := by omega
  refine Ev.succ ?_
  have c1 : (j : Int) < (xs.length : Int) := by omega
  have c2 : (0 : Int) ≤ (j : Int) := by omega
  simp only [laws_eqBoolS.l0, c1, c2, if_true, bne_self_eq_false, Bool.false_eq_true, if_false, succ64 j (by omega)]
  exact ih (j + 1) (by omega) (by omega)
theorem laws_eqBoolS_self (xs : List Bool) (hl : xs.length ≤ 4611686018427387000) : Ev (fun k => laws_eqBoolS.f k xs xs) true := by
 have := laws_eqBoolS_l0 xs hl xs.length 0 (by omega) (by omega)
 simpa [laws_eqBoolS.f] using this
end
open Plain Br
section
theorem laws_eqTask_self (x : Int) (l r : List Row) (m : List Bool) (v : Int) (h1 : l.length ≤ 4611686018427387000) (h2 : r.length ≤ 4611686018427387000) (h3 : m.length ≤ 4611686018427387000) : Ev (fun k => laws_eqTask.f k x l r m v x l r m v) true := by
 unfold laws_eqTask.f
 simp only [if_true]
 refine Ev.then (laws_eqRowS_self l h1) ?_
 simp only [if_true]
 refine Ev.then (laws_eqRowS_self r h2) ?_
 simp only [if_true]
 refine Ev.then (laws_eqBoolS_self m h3) ?_
 simp only [if_true]
 exact Ev.val rfl
end
open Plain Br
section
theorem rd_task (xs : List Task) (j : Nat) (h : j < xs.length) : rd_T40 xs (j : Int) = xs[j] := by
 unfold rd_T40
 rw [Int.toNat_natCast, List.getD_eq_getElem?_getD, List.getElem?_eq_getElem h]
 rfl
def hk (l : List Task) : Int := (rd_T40 l 0).f0
def gT (c : Int) (t : Task) : Bool := vTask t && decide (t.f0 = c)
def sumL (l : List Task) : Nat := (l.map fun t => t.f1.length).sum
def sumR (l : List Task) : Nat := (l.map fun t => t.f2.length).sum
def vJoin (l : List Task) (a b : Int) : Bool := l.all (gT (hk l)) && (decide (sumL l ≤ 24) && (decide (sumR l ≤ 24) && (decide (l.length ≤ 40) && (inB a 0 100000 && inB b 0 1000))))
theorem sumL_take (l : List Task) (j : Nat) (h : j < l.length) : sumL (l.take (j + 1)) = sumL (l.take j) + l[j].f1.length := by
 unfold sumL
 rw [List.take_succ_eq_append_getElem h, List.map_append, List.sum_append]
 simp only [List.map_cons, List.map_nil, List.sum_cons, List.sum_nil, Nat.add_zero]
theorem sumR_take (l : List Task) (j : Nat) (h : j < l.length) : sumR (l.take (j + 1)) = sumR (l.take j) + l[j].f2.length := by
 unfold sumR
 rw [List.take_succ_eq_append_getElem h, List.map_append, List.sum_append]
 simp only [List.map_cons, List.map_nil, List.sum_cons, List.sum_nil, Nat.add_zero]
theorem sumL_le (l : List Task) (h : ∀ t ∈ l, t.f1.length ≤ 24) : sumL l ≤ 24 * l.length := by
 induction l with
 | nil => simp [sumL]
 | cons a r ih =>
  have := ih (fun t ht => h t (List.mem_cons_of_mem _ ht))
  have h2 := h a List.mem_cons_self
  unfold sumL at *
  simp only [List.map_cons, List.sum_cons, List.length_cons]
  omega
theorem sumR_le (l : List Task) (h : ∀ t ∈ l, t.f2.length ≤ 24) : sumR l ≤ 24 * l.length := by
 induction l with
 | nil => simp [sumR]
 | cons a r ih =>
  have := ih (fun t ht => h t (List.mem_cons_of_mem _ ht))
  have h2 := h a List.mem_cons_self
  unfold sumR at *
  simp only [List.map_cons, List.sum_cons, List.length_cons]
  omega
theorem vJoin_bad {l : List Task} {a b : Int} (j : Nat) (h : j < l.length) (hv : gT (hk l) l[j] = false) : vJoin l a b = false := by
 have : l.all (gT (hk l)) = false := by
  rw [List.all_eq_false]
  exact ⟨l[j], List.getElem_mem h, by rw [hv]; simp⟩
 unfold vJoin
 rw [this, Bool.false_and]
structure Sm (l : List Task) : Prop where
 n : l.length ≤ 100000000
 a : ∀ t ∈ l, t.f1.length ≤ 24
 b : ∀ t ∈ l, t.f2.length ≤ 24
theorem spec_IsValidJoiner_l0 (l : List Task) (a b : Int) (hs : Sm l) : ∀ (d j : Nat), l.length - j = d → j ≤ l.length → (l.take j).all (gT (hk l)) = true →
  Ev (fun k => spec_IsValidJoiner.l0 k (sumL (l.take j) : Int) (sumR (l.take j) : Int) (j : Int) l a b) (vJoin l a b) := by
 have hl := hs.n
 intro d
 induction d with
 | zero =>
  intro j hd hj hv
  obtain rfl : j = l.length := by omega
  refine Ev.succ ?_
  rw [List.take_length] at hv ⊢
  have c1 : ¬ ((l.length : Int) < (l.length : Int)) := by omega
  simp only [spec_IsValidJoiner.l0, c1, if_false, l1In_eq, Option.bind_some]
  unfold vJoin
  rw [hv, Bool.true_and, show (decide (0 ≤ a) && decide (a ≤ 100000)) = inB a 0 100000 from rfl, show (decide (0 ≤ b) && decide (b ≤ 1000)) = inB b 0 1000 from rfl]
  by_cases h1 : sumL l ≤ 24
  ·have c2 : (sumL l : Int) ≤ 24 := by omega
   by_cases h2 : sumR l ≤ 24
   ·have c3 : (sumR l : Int) ≤ 24 := by omega
    by_cases h3 : l.length ≤ 40
    ·have c4 : (l.length : Int) ≤ 40 := by omega
     cases q : inB a 0 100000
     ·simp only [c2, c3, c4, h1, h2, h3, if_true, decide_true, Bool.true_and, Bool.false_eq_true, if_false, Bool.false_and]; exact Ev.val rfl
     ·simp only [c2, c3, c4, h1, h2, h3, if_true, decide_true, Bool.true_and]; exact Ev.val rfl
    ·have c4 : ¬ ((l.length : Int) ≤ 40) := by omega
     simp only [c2, c3, c4, h1, h2, h3, if_true, if_false, decide_true, decide_false, Bool.true_and, Bool.false_and]; exact Ev.val rfl
   ·have c3 : ¬ ((sumR l : Int) ≤ 24) := by omega
    simp only [c2, c3, h1, h2, if_true, if_false, decide_true, decide_false, Bool.true_and, Bool.false_and]; exact Ev.val rfl
  ·have c2 : ¬ ((sumL l : Int) ≤ 24) := by omega
   simp only [c2, h1, if_false, decide_false, Bool.false_and]; exact Ev.val rfl
 | succ d ih =>
  intro j hd hj hv
  have h : j < l.length := by omega
  have hm : l[j] ∈ l := List.getElem_mem h
  refine Ev.succ ?_
  have c1 : (j : Int) < (l.length : Int) := by omega
  have c2 : (0 : Int) ≤ (j : Int) := by omega
  have c3 : (0 : Int) < (l.length : Int) := by omega
  have hA := sumL_le (l.take j) (fun t ht => hs.a t (List.mem_of_mem_take ht))
  have hB := sumR_le (l.take j) (fun t ht => hs.b t (List.mem_of_mem_take ht))
  have hs2 : (l.take j).length ≤ l.length := by rw [List.length_take]; omega
  have ha := hs.a _ hm
  have hb := hs.b _ hm
  have e1 : wrap64 ((sumL (l.take j) : Int) + (l[j].f1.length : Int)) = ((sumL (l.take (j + 1)) : Nat) : Int) := by rw [sumL_take l j h]; unfold wrap64; omega
  have e2 : wrap64 ((sumR (l.take j) : Int) + (l[j].f2.length : Int)) = ((sumR (l.take (j + 1)) : Nat) : Int) := by rw [sumR_take l j h]; unfold wrap64; omega
  simp only [spec_IsValidJoiner.l0, c1, c2, c3, if_true, rd_task l j h, e1, e2, succ64 j (by omega)]
  refine Ev.then (spec_IsValidTask_ev _ _ _ _ _ (by omega) (by omega)) ?_
  rw [show vTask ⟨l[j].f0, l[j].f1, l[j].f2, l[j].f3, l[j].f4⟩ = vTask l[j] from rfl]
  cases q : vTask l[j]
  ·simp only [Bool.false_eq_true, if_false]
   rw [vJoin_bad j h (by unfold gT; rw [q, Bool.false_and])]
   exact Ev.val rfl
  ·simp only [if_true]
   by_cases q2 : l[j].f0 = hk l
   ·simp only [show (rd_T40 l 0).f0 = hk l from rfl, q2, if_true]
    refine ih (j + 1) (by omega) (by omega) ?_
    rw [List.take_succ_eq_append_getElem h, List.all_append, hv]
    simp [gT, q, q2]
   ·simp only [show (rd_T40 l 0).f0 = hk l from rfl, q2, if_false]
    rw [vJoin_bad j h (by unfold gT; rw [decide_eq_false q2, Bool.and_false])]
    exact Ev.val rfl
theorem spec_IsValidJoiner_ev (l : List Task) (a b : Int) (hs : Sm l) : Ev (fun k => spec_IsValidJoiner.f k l a b) (vJoin l a b) := by
 have := spec_IsValidJoiner_l0 l a b hs l.length 0 (by omega) (by omega) rfl
 show Ev (fun k => spec_IsValidJoiner.l0 k 0 0 0 l a b) _
 simpa [sumL, sumR] using this
theorem impl_IsValidJoiner_l0 (l : List Task) (a b : Int) (hs : Sm l) (h40 : l.length ≤ 40) (ha0 : inB a 0 100000 = true) (hb0 : inB b 0 1000 = true) : ∀ (d j : Nat), l.length - j = d → j ≤ l.length → (l.take j).all (gT (hk l)) = true →
  Ev (fun k => impl_IsValidJoiner.l0 k (sumL (l.take j) : Int) (sumR (l.take j) : Int) l (l.length : Int) (j : Int) l a b) (vJoin l a b) := by
 have hl := hs.n
 intro d
 induction d with
 | zero =>
  intro j hd hj hv
  obtain rfl : j = l.length := by omega
  refine Ev.succ ?_
  rw [List.take_length] at hv ⊢
  have c1 : ¬ ((l.length : Int) < (l.length : Int)) := by omega
  simp only [impl_IsValidJoiner.l0, c1, if_false]
  unfold vJoin
  rw [hv, ha0, hb0]
  simp only [h40, decide_true, Bool.true_and, Bool.and_true]
  by_cases h1 : sumL l ≤ 24
  ·have c2 : (sumL l : Int) ≤ 24 := by omega
   simp only [c2, h1, if_true, decide_true, Bool.true_and]
   refine Ev.val ?_
   by_cases h2 : sumR l ≤ 24
   ·rw [decide_eq_true h2, decide_eq_true (by omega)]
   ·rw [decide_eq_false h2, decide_eq_false (by omega)]
  ·have c2 : ¬ ((sumL l : Int) ≤ 24) := by omega
   simp only [c2, h1, if_false, decide_false, Bool.false_and]; exact Ev.val rfl
 | succ d ih =>
  intro j hd hj hv
  have h : j < l.length := by omega
  have hm : l[j] ∈ l := List.getElem_mem h
  refine Ev.succ ?_
  have c1 : (j : Int) < (l.length : Int) := by omega
  have c2 : (0 : Int) ≤ (j : Int) := by omega
  have c3 : (0 : Int) < (l.length : Int) := by omega
  have hA := sumL_le (l.take j) (fun t ht => hs.a t (List.mem_of_mem_take ht))
  have hB := sumR_le (l.take j) (fun t ht => hs.b t (List.mem_of_mem_take ht))
  have hs2 : (l.take j).length ≤ l.length := by rw [List.length_take]; omega
  have ha := hs.a _ hm
  have hb := hs.b _ hm
  have e1 : wrap64 ((sumL (l.take j) : Int) + (l[j].f1.length : Int)) = ((sumL (l.take (j + 1)) : Nat) : Int) := by rw [sumL_take l j h]; unfold wrap64; omega
  have e2 : wrap64 ((sumR (l.take j) : Int) + (l[j].f2.length : Int)) = ((sumR (l.take (j + 1)) : Nat) : Int) := by rw [sumR_take l j h]; unfold wrap64; omega
  simp only [impl_IsValidJoiner.l0, c1, c2, c3, if_true, rd_task l j h, e1, e2, succ64 j (by omega)]
  refine Ev.then (impl_IsValidTask_ev _ _ _ _ _) ?_
  rw [show vTask ⟨l[j].f0, l[j].f1, l[j].f2, l[j].f3, l[j].f4⟩ = vTask l[j] from rfl]
  cases q : vTask l[j]
  ·simp only [Bool.false_eq_true, if_false]
   rw [vJoin_bad j h (by unfold gT; rw [q, Bool.false_and])]
   exact Ev.val rfl
  ·simp only [if_true]
   by_cases q2 : l[j].f0 = hk l
   ·simp only [show (rd_T40 l 0).f0 = hk l from rfl, q2, if_true]
    refine ih (j + 1) (by omega) (by omega) ?_
    rw [List.take_succ_eq_append_getElem h, List.all_append, hv]
    simp [gT, q, q2]
   ·simp only [show (rd_T40 l 0).f0 = hk l from rfl, q2, if_false]
    rw [vJoin_bad j h (by unfold gT; rw [decide_eq_false q2, Bool.and_false])]
    exact Ev.val rfl
theorem impl_IsValidJoiner_ev (l : List Task) (a b : Int) (hs : Sm l) : Ev (fun k => impl_IsValidJoiner.f k l a b) (vJoin l a b) := by
 unfold impl_IsValidJoiner.f
 by_cases h40 : l.length ≤ 40
 ·have c1 : ¬ ((l.length : Int) > 40) := by omega
  simp only [c1, if_false, within_eq, Option.bind_some]
  rw [show (decide (0 ≤ a) && decide (a ≤ 100000)) = inB a 0 100000 from rfl, show (decide (0 ≤ b) && decide (b ≤ 1000)) = inB b 0 1000 from rfl]
  cases q1 : inB a 0 100000
  ·simp only [Bool.false_eq_true, if_false]
   refine Ev.succ ?_
   simp only [impl_IsValidJoiner.j0, if_true]
   refine Ev.val ?_
   unfold vJoin; rw [q1]; simp
  ·simp only [if_true]
   refine Ev.succ ?_
   cases q2 : inB b 0 1000
   ·simp only [impl_IsValidJoiner.j0, Bool.not_false, if_true]
    refine Ev.val ?_
    unfold vJoin; rw [q2]; simp
   ·simp only [impl_IsValidJoiner.j0, Bool.not_true, Bool.false_eq_true, if_false]
    have := impl_IsValidJoiner_l0 l a b hs h40 q1 q2 l.length 0 (by omega) (by omega) rfl
    simpa [sumL, sumR] using this
 ·have c1 : (l.length : Int) > 40 := by omega
  simp only [c1, if_true]
  refine Ev.succ ?_
  simp only [impl_IsValidJoiner.j0, if_true]
  refine Ev.val ?_
  unfold vJoin; rw [decide_eq_false h40]; simp
structure VJoin (l : List Task) (a b : Int) : Prop where
 all : ∀ t ∈ l, vTask t = true
 few : l.length ≤ 40
 a : 0 ≤ a ∧ a ≤ 100000
 b : 0 ≤ b ∧ b ≤ 1000
theorem vJoin_imp {l : List Task} {a b : Int} (h : vJoin l a b = true) : VJoin l a b := by
 unfold vJoin at h
 rw [Bool.and_eq_true, Bool.and_eq_true, Bool.and_eq_true, Bool.and_eq_true, Bool.and_eq_true, decide_eq_true_iff, decide_eq_true_iff, decide_eq_true_iff, inB_iff, inB_iff, List.all_eq_true] at h
 refine ⟨fun t ht => ?_, h.2.2.2.1, h.2.2.2.2.1, h.2.2.2.2.2⟩
 have := h.1 t ht
 unfold gT at this
 rw [Bool.and_eq_true] at this
 exact this.1
theorem fTask_len (t : Task) : (fTask t).length ≤ 2000 := by
 unfold fTask
 split
 ·rename_i h
  have hv := (vTask_iff t).1 h
  have hk := hv.kind
  have hlv := hv.level
  have h1 := fmtI_len t.f0 (by omega) (by omega)
  have h2 := fmtI_len t.f4 (by omega) (by omega)
  have h3 := fRows_len t.f1
  have h4 := fRows_len t.f2
  have h5 : (marksT t.f3).length ≤ 24 := by unfold marksT; rw [List.length_map, hv.marks]; exact ((vRows_iff _).1 hv.left).1
  unfold fTaskV
  simp only [join, List.length_append, List.length_singleton]
  omega
 ·simp
def fJoinV (l : List Task) (a b : Int) : T := join [47] (fmtI a :: fmtI b :: l.map fTask)
def fJoin (l : List Task) (a b : Int) : T := if vJoin l a b = true then fJoinV l a b else []
theorem spec_FormatJoiner_l0 (l : List Task) (a b : Int) (hv : VJoin l a b) : ∀ (d j : Nat), l.length - j = d → j ≤ l.length →
  Ev (fun k => spec_FormatJoiner.l0 k (B (join [47] (fmtI a :: fmtI b :: (l.take j).map fTask))) (j : Int) l a b) (B (fJoinV l a b)) := by
 have hfew := hv.few
 have ha := hv.a
 have hb := hv.b
 intro d
 induction d with
 | zero =>
  intro j hd hj
  obtain rfl : j = l.length := by omega
  refine Ev.succ ?_
  have c1 : ¬ ((l.length : Int) < (l.length : Int)) := by omega
  simp only [spec_FormatJoiner.l0, c1, if_false, List.take_length]
  exact Ev.val rfl
 | succ d ih =>
  intro j hd hj
  have h : j < l.length := by omega
  have ht := hv.all _ (List.getElem_mem h)
  have ht' := (vTask_iff _).1 ht
  have hl24 := ((vRows_iff _).1 ht'.left).1
  have hr24 := ((vRows_iff _).1 ht'.right).1
  refine Ev.succ ?_
  have c1 : (j : Int) < (l.length : Int) := by omega
  have c2 : (0 : Int) ≤ (j : Int) := by omega
  have := ih (j + 1) (by omega) (by omega)
  rw [List.take_succ_eq_append_getElem h, List.map_append, List.map_singleton, ← List.cons_append, ← List.cons_append, join_snoc _ (by simp)] at this
  have hlen : (join [47] (fmtI a :: fmtI b :: (l.take j).map fTask)).length ≤ 42 * 2001 := by
   have := join_len [47] 2000 (fmtI a :: fmtI b :: (l.take j).map fTask) (by
    intro x hx
    rcases List.mem_cons.1 hx with rfl | hx
    ·have := fmtI_len a (by omega) (by omega); omega
    rcases List.mem_cons.1 hx with rfl | hx
    ·have := fmtI_len b (by omega) (by omega); omega
    obtain ⟨t, _, rfl⟩ := List.mem_map.1 hx
    exact fTask_len t)
   refine Nat.le_trans this ?_
   simp only [List.length_cons, List.length_map, List.length_take, List.length_nil]
   exact Nat.mul_le_mul (by omega) (by omega)
  generalize hx : join [47] (fmtI a :: fmtI b :: (l.take j).map fTask) = x at this hlen ⊢
  have h1 := fTask_len l[j]
  have d1 : (B x).size + 1 ≤ 9223372036854775807 := by rw [size_B]; omega
  have d2 : (B (x ++ [47])).size + (B (fTask l[j])).size ≤ 9223372036854775807 := by rw [size_B, size_B]; simp only [List.length_append, List.length_singleton]; omega
  simp only [spec_FormatJoiner.l0, c1, c2, d1, if_true, rd_task l j h, succ64 j (by omega), litL, B_append]
  refine Ev.then (spec_FormatTask_ev l[j] (by omega) (by omega)) ?_
  simp only [d2, if_true, B_append]
  exact this
theorem spec_FormatJoiner_ev (l : List Task) (a b : Int) (hs : Sm l) : Ev (fun k => spec_FormatJoiner.f k l a b) (B (fJoin l a b)) := by
 unfold spec_FormatJoiner.f fJoin
 refine Ev.then (spec_IsValidJoiner_ev l a b hs) ?_
 cases h : vJoin l a b
 ·simp only [Bool.false_eq_true, if_false]; exact Ev.val rfl
 ·simp only [if_true]
  have hv := vJoin_imp h
  have ha := hv.a
  have hb := hv.b
  have h1 := fmtI_len a (by omega) (by omega)
  have h2 := fmtI_len b (by omega) (by omega)
  have d1 : (B (fmtI a)).size + 1 ≤ 9223372036854775807 := by rw [size_B]; omega
  have d2 : (B (fmtI a ++ [47])).size + (B (fmtI b)).size ≤ 9223372036854775807 := by rw [size_B, size_B]; simp only [List.length_append, List.length_singleton]; omega
  have hf := spec_FormatJoiner_l0 l a b hv l.length 0 (by omega) (by omega)
  refine Ev.then (spec_FormatInt_ev _ (by omega) (by omega)) ?_
  simp only [d1, if_true, litL, B_append]
  refine Ev.then (spec_FormatInt_ev _ (by omega) (by omega)) ?_
  simp only [d2, if_true, B_append]
  simpa [join] using hf
end
open Plain Br
section
theorem Ev.of_eq {α : Type} {g : Nat → Option α} {r r' : α} (h : Ev g r) (e : r = r') : Ev g r' := e ▸ h
def zT : Option Task → Task
 | some t => t
 | none => ⟨0, [], [], [], 0⟩
def pTs : List T → Option (List Task)
 | [] => some []
 | s :: r => match pTask s with
  | none => none
  | some t => match pTs r with
   | none => none
   | some l => some (t :: l)
theorem pTs_some : ∀ {ls : List T} {l : List Task}, pTs ls = some l ↔ (∀ t ∈ l, vTask t = true) ∧ l.map fTask = ls
 | [], l => by
  unfold pTs
  constructor
  ·intro h
   injection h with h
   subst h
   exact ⟨fun t ht => (by cases ht), rfl⟩
  ·rintro ⟨_, h⟩
   rw [List.map_eq_nil_iff] at h
   rw [h]
 | s :: r, l => by
  unfold pTs
  constructor
  ·intro h
   cases q : pTask s with
   | none => rw [q] at h; cases h
   | some t =>
    rw [q] at h
    dsimp only at h
    cases q2 : pTs r with
    | none => rw [q2] at h; cases h
    | some x =>
     rw [q2] at h
     injection h with h
     subst h
     obtain ⟨h1, h2⟩ := pTask_some.1 q
     obtain ⟨h3, h4⟩ := pTs_some.1 q2
     refine ⟨fun y hy => ?_, by rw [List.map_cons, h2, h4]⟩
     rcases List.mem_cons.1 hy with rfl | hy
     ·exact h1
     ·exact h3 y hy
  ·rintro ⟨h1, h2⟩
   cases l with
   | nil => cases h2
   | cons t x =>
    rw [List.map_cons] at h2
    injection h2 with h3 h4
    rw [pTask_some.2 ⟨h1 t List.mem_cons_self, h3⟩, pTs_some.2 ⟨fun y hy => h1 y (List.mem_cons_of_mem _ hy), h4⟩]
theorem pTs_map : ∀ {ls : List T} {l : List Task}, pTs ls = some l → ls.map (fun s => zT (pTask s)) = l
 | [], l, h => by
  have h2 : some ([] : List Task) = some l := h
  exact Option.some.inj h2
 | s :: r, l, h => by
  unfold pTs at h
  cases q : pTask s with
  | none => rw [q] at h; cases h
  | some t =>
   rw [q] at h
   dsimp only at h
   cases q2 : pTs r with
   | none => rw [q2] at h; cases h
   | some x =>
    rw [q2] at h
    injection h with h
    subst h
    rw [List.map_cons, q, pTs_map q2]
    rfl
abbrev Jn : Type := List Task × Int × Int
def pJoin (s : T) : Option Jn := match split 47 s with
 | a :: b :: ts => (match pTs ts with
  | some l => if (pIr a).2 = true ∧ (pIr b).2 = true ∧ vJoin l (pIr a).1 (pIr b).1 = true then some (l, (pIr a).1, (pIr b).1) else none
  | none => none)
 | _ => none
def sJoin (s : T) : Option Jn := match split 47 s with
 | a :: b :: ts => if fJoin (ts.map fun s => zT (pTask s)) (pIr a).1 (pIr b).1 = s then some (ts.map (fun s => zT (pTask s)), (pIr a).1, (pIr b).1) else none
 | _ => none
def rJoin : Option Jn → List Task × Int × Int × Bool
 | some (l, a, b) => (l, a, b, true)
 | none => ([], 0, 0, false)
theorem fTask_free (t : Task) : (47 : UInt8) ∉ fTask t := by
 unfold fTask
 split
 ·unfold fTaskV
  refine join_free (by decide) ?_
  intro a ha
  simp only [List.mem_cons, List.not_mem_nil, or_false] at ha
  rcases ha with rfl | rfl | rfl | rfl | rfl
  ·exact numFree (by decide)
  ·exact fRows_free (by decide) (by decide) (by decide)
  ·exact fRows_free (by decide) (by decide) (by decide)
  ·exact mk1_free _ (by decide)
  ·exact numFree (by decide)
 ·simp
theorem split_fJoinV (l : List Task) (a b : Int) : split 47 (fJoinV l a b) = fmtI a :: fmtI b :: l.map fTask := by
 unfold fJoinV
 refine split_join 47 (by simp) ?_
 intro x hx
 rcases List.mem_cons.1 hx with rfl | hx
 ·exact numFree (by decide)
 rcases List.mem_cons.1 hx with rfl | hx
 ·exact numFree (by decide)
 obtain ⟨t, _, rfl⟩ := List.mem_map.1 hx
 exact fTask_free t
theorem pIr_true {a : T} (h : (pIr a).2 = true) : fmtI (pIr a).1 = a ∧ -1000000000 < (pIr a).1 ∧ (pIr a).1 < 1000000000 := by
 rcases pIr_cases a with ⟨n, hn, h1, h2, h3⟩ | h0
 ·rw [hn]; exact ⟨h1, h2, h3⟩
 ·rw [h0] at h; cases h
theorem pJoin_fmt {l : List Task} {a b : Int} (hv : vJoin l a b = true) : pJoin (fJoinV l a b) = some (l, a, b) := by
 have h := vJoin_imp hv
 have ha := h.a
 have hb := h.b
 unfold pJoin
 rw [split_fJoinV]
 have e1 : pIr (fmtI a) = (a, true) := pIr_some rfl (by omega) (by omega)
 have e3 : pIr (fmtI b) = (b, true) := pIr_some rfl (by omega) (by omega)
 have e2 : pTs (l.map fTask) = some l := pTs_some.2 ⟨h.all, rfl⟩
 simp [e1, e2, e3, hv]
theorem pJoin_s {s : T} {x : Jn} (h : pJoin s = some x) : sJoin s = some x := by
 unfold pJoin at h
 unfold sJoin
 split at h
 ·rename_i a b ts hs
  cases q : pTs ts with
  | none => rw [q] at h; cases h
  | some l =>
   rw [q] at h
   dsimp only at h
   split at h
   ·rename_i hc
    rw [pTs_map q]
    have hf : fJoin l (pIr a).1 (pIr b).1 = s := by
     unfold fJoin
     rw [if_pos hc.2.2]
     have hj := join_split 47 s
     rw [hs] at hj
     rw [← hj]
     unfold fJoinV
     rw [(pIr_true hc.1).1, (pIr_true hc.2.1).1, (pTs_some.1 q).2]
    rw [if_pos hf]
    exact h
   ·cases h
 ·cases h
theorem sJoin_p {s : T} {x : Jn} (h : sJoin s = some x) : pJoin s = some x := by
 unfold sJoin at h
 split at h
 ·rename_i a b ts hs
  split at h
  ·rename_i hf
   injection h with h
   subst h
   have hv : vJoin (ts.map fun s => zT (pTask s)) (pIr a).1 (pIr b).1 = true := by
    cases z : vJoin (ts.map fun s => zT (pTask s)) (pIr a).1 (pIr b).1 with
    | true => rfl
    | false =>
     unfold fJoin at hf
     rw [z] at hf
     simp only [Bool.false_eq_true, if_false] at hf
     rw [← hf] at hs
     simp [split] at hs
   have e0 : fJoin (ts.map fun s => zT (pTask s)) (pIr a).1 (pIr b).1 = fJoinV (ts.map fun s => zT (pTask s)) (pIr a).1 (pIr b).1 := by unfold fJoin; rw [if_pos hv]
   have e1 := pJoin_fmt hv
   rw [← e0, hf] at e1
   exact e1
  ·cases h
 ·cases h
theorem sJoin_eq (s : T) : sJoin s = pJoin s := by
 cases h : pJoin s with
 | some x => exact pJoin_s h
 | none =>
  cases h2 : sJoin s with
  | none => rfl
  | some x => rw [sJoin_p h2] at h; cases h
theorem zT_len (o : Option Task) (h : ∀ t, o = some t → vTask t = true) : (zT o).f1.length ≤ 24 ∧ (zT o).f2.length ≤ 24 := by
 cases o with
 | none => simp [zT]
 | some t =>
  have h' := (vTask_iff t).1 (h t rfl)
  exact ⟨((vRows_iff _).1 h'.left).1, ((vRows_iff _).1 h'.right).1⟩
theorem rTask_zT (o : Option Task) : (⟨(rTask o).1, (rTask o).2.1, (rTask o).2.2.1, (rTask o).2.2.2.1, (rTask o).2.2.2.2.1⟩ : Task) = zT o := by
 cases o <;> rfl
theorem Sm_snoc {acc : List Task} {t : Task} (h : Sm acc) (hn : acc.length ≤ 10000000) (h1 : t.f1.length ≤ 24) (h2 : t.f2.length ≤ 24) : Sm (acc ++ [t]) := by
 refine ⟨by simp; omega, fun x hx => ?_, fun x hx => ?_⟩
 ·rcases List.mem_append.1 hx with hx | hx
  ·exact h.a x hx
  ·rw [List.mem_singleton.1 hx]; exact h1
 ·rcases List.mem_append.1 hx with hx | hx
  ·exact h.b x hx
  ·rw [List.mem_singleton.1 hx]; exact h2
theorem spec_ParseJoiner_l0 (s : T) (ls : List T) (hls : ls.length ≤ 1000000 + 100000) (hp : ∀ x ∈ ls, x.length ≤ 4294967296) (a b : Int) : ∀ (d j : Nat) (acc : List Task), ls.length - j = d → j ≤ ls.length → acc.length ≤ j → Sm acc →
  Ev (fun k => spec_ParseJoiner.l0 k (B s) (ls.map B) (j : Int) acc a b) (rJoin (if fJoin (acc ++ (ls.drop j).map fun s => zT (pTask s)) a b = s then some (acc ++ (ls.drop j).map (fun s => zT (pTask s)), a, b) else none)) := by
 intro d
 induction d with
 | zero =>
  intro j acc hd hj ha hs
  obtain rfl : j = ls.length := by omega
  refine Ev.succ ?_
  have c1 : ¬ ((ls.length : Int) < ((ls.map B).length : Int)) := by rw [List.length_map]; omega
  simp only [spec_ParseJoiner.l0, c1, if_false]
  refine Ev.then (spec_FormatJoiner_ev acc a b hs) ?_
  simp only [toList_B, List.drop_length, List.map_nil, List.append_nil]
  by_cases h : fJoin acc a b = s
  ·simp only [h, if_true]; exact Ev.val rfl
  ·simp only [h, if_false]; exact Ev.val rfl
 | succ d ih =>
  intro j acc hd hj ha hs
  have h : j < ls.length := by omega
  refine Ev.succ ?_
  have c1 : (j : Int) < ((ls.map B).length : Int) := by rw [List.length_map]; omega
  have c2 : (0 : Int) ≤ (j : Int) := by omega
  have c3 : acc.length < 1599289640401 := by omega
  have hx := hp _ (List.getElem_mem h)
  obtain ⟨h1, h2⟩ := zT_len (pTask ls[j]) (fun t ht => (pTask_some.1 ht).1)
  simp only [spec_ParseJoiner.l0, c1, c2, if_true, rdOf_B ls j h, succ64 j (by omega)]
  refine Ev.then (spec_ParseTask_ev ls[j] (by omega)) ?_
  simp only [c3, if_true, rTask_zT]
  have := ih (j + 1) (acc ++ [zT (pTask ls[j])]) (by omega) (by omega) (by simp; omega) (Sm_snoc hs (by omega) h1 h2)
  rw [List.append_assoc, List.singleton_append] at this
  rw [List.drop_eq_getElem_cons h, List.map_cons]
  exact this
theorem spec_ParseJoiner_ev (s : T) (hl : s.length ≤ 1048576) : Ev (fun k => spec_ParseJoiner.f k (B s)) (rJoin (pJoin s)) := by
 rw [← sJoin_eq]
 unfold spec_ParseJoiner.f
 refine Ev.then (spec_l2Cut_ev s 47 (by omega)) ?_
 have hp : ∀ x ∈ split 47 s, x.length ≤ 4294967296 := fun x hx => by have := split_part 47 s x hx; omega
 have hn := split_len 47 s
 unfold sJoin
 match hs : split 47 s with
 | [] => exact absurd hs (split_ne _ _)
 | [a] =>
  simp only [List.map_cons, List.map_nil, List.length_cons, List.length_nil]
  exact Ev.val rfl
 | a :: b :: ts =>
  have c0 : ¬ (((((a :: b :: ts).map B).length : Nat) : Int) < 2) := by simp only [List.map_cons, List.length_cons]; omega
  have c1 : (1 : Int) < ((((a :: b :: ts).map B).length : Nat) : Int) := by simp only [List.map_cons, List.length_cons]; omega
  have c2 : (0 : Int) < ((((a :: b :: ts).map B).length : Nat) : Int) := by omega
  have r0 : rdOf ByteArray.empty ((a :: b :: ts).map B) 0 = B a := rfl
  have r1 : rdOf ByteArray.empty ((a :: b :: ts).map B) 1 = B b := rfl
  simp only [c0, c1, c2, if_true, if_false, r0, r1]
  refine Ev.then (spec_ParseInt_ev a) ?_
  refine Ev.then (spec_ParseInt_ev b) ?_
  rw [hs] at hp hn
  exact spec_ParseJoiner_l0 s (a :: b :: ts) (by omega) hp (pIr a).1 (pIr b).1 ts.length 2 [] (by simp) (by simp) (by simp) ⟨by simp, fun t ht => (by cases ht), fun t ht => (by cases ht)⟩
def pEnd (o1 o2 : Bool) (a b : Int) (acc : List Task) : Option (List Task) → Option Jn
 | some l => if o1 = true ∧ o2 = true ∧ vJoin (acc ++ l) a b = true then some (acc ++ l, a, b) else none
 | none => none
theorem impl_ParseJoiner_l0 (ls : List T) (hls : ls.length ≤ 1000000 + 100000) (hp : ∀ x ∈ ls, x.length ≤ 4294967296) (o1 o2 : Bool) (a b : Int) : ∀ (d j : Nat) (acc : List Task), ls.length - j = d → j ≤ ls.length → acc.length ≤ j → Sm acc →
  Ev (fun k => impl_ParseJoiner.l0 k o1 o2 (ls.map B) ((ls.map B).length : Int) (j : Int) acc a b) (rJoin (pEnd o1 o2 a b acc (pTs (ls.drop j)))) := by
 intro d
 induction d with
 | zero =>
  intro j acc hd hj ha hs
  obtain rfl : j = ls.length := by omega
  refine Ev.succ ?_
  have c1 : ¬ ((ls.length : Int) < ((ls.map B).length : Int)) := by rw [List.length_map]; omega
  simp only [impl_ParseJoiner.l0, c1, if_false]
  rw [List.drop_length]
  simp only [pTs, pEnd, List.append_nil]
  cases o1
  ·simp only [Bool.false_eq_true, if_false, false_and]; exact Ev.val rfl
  ·cases o2
   ·simp only [Bool.false_eq_true, if_true, if_false, false_and, and_false]; exact Ev.val rfl
   ·simp only [if_true, true_and]
    refine Ev.then (impl_IsValidJoiner_ev acc a b hs) ?_
    cases vJoin acc a b
    ·simp only [Bool.false_eq_true, if_false]; exact Ev.val rfl
    ·simp only [if_true]; exact Ev.val rfl
 | succ d ih =>
  intro j acc hd hj ha hs
  have h : j < ls.length := by omega
  refine Ev.succ ?_
  have c1 : (j : Int) < ((ls.map B).length : Int) := by rw [List.length_map]; omega
  have c2 : (0 : Int) ≤ (j : Int) := by omega
  have c3 : acc.length < 1599289640401 := by omega
  have hx := hp _ (List.getElem_mem h)
  simp only [impl_ParseJoiner.l0, c1, c2, if_true, rdOf_B ls j h, succ64 j (by omega)]
  refine Ev.then (impl_ParseTask_ev ls[j] (by omega)) ?_
  rw [List.drop_eq_getElem_cons h]
  unfold pTs
  cases q : pTask ls[j] with
  | none =>
   simp only [rTask, Bool.false_eq_true, if_false]
   exact Ev.val rfl
  | some t =>
   have ht := (pTask_some.1 q).1
   obtain ⟨h1, h2⟩ := zT_len (some t) (fun x hx => by injection hx with hx; rw [← hx]; exact ht)
   simp only [rTask, if_true, c3]
   have := ih (j + 1) (acc ++ [t]) (by omega) (by omega) (by simp; omega) (Sm_snoc hs (by omega) h1 h2)
   cases q2 : pTs (ls.drop (j + 1)) with
   | none => rw [q2] at this; exact this
   | some x =>
    rw [q2] at this
    simp only [pEnd, List.append_assoc, List.singleton_append] at this ⊢
    exact this
theorem impl_ParseJoiner_ev (s : T) (hl : s.length ≤ 1048576) : Ev (fun k => impl_ParseJoiner.f k (B s)) (rJoin (pJoin s)) := by
 unfold impl_ParseJoiner.f
 refine Ev.then (impl_cut_ev s 47 (by omega)) ?_
 have hp : ∀ x ∈ split 47 s, x.length ≤ 4294967296 := fun x hx => by have := split_part 47 s x hx; omega
 have hn := split_len 47 s
 unfold pJoin
 match hs : split 47 s with
 | [] => exact absurd hs (split_ne _ _)
 | [a] =>
  simp only [List.map_cons, List.map_nil, List.length_cons, List.length_nil]
  exact Ev.val rfl
 | a :: b :: ts =>
  have c0 : ¬ (((((a :: b :: ts).map B).length : Nat) : Int) < 2) := by simp only [List.map_cons, List.length_cons]; omega
  have c1 : (1 : Int) < ((((a :: b :: ts).map B).length : Nat) : Int) := by simp only [List.map_cons, List.length_cons]; omega
  have c2 : (0 : Int) < ((((a :: b :: ts).map B).length : Nat) : Int) := by omega
  have c3 : (2 : Int) ≤ ((((a :: b :: ts).map B).length : Nat) : Int) := by omega
  have r0 : rdOf ByteArray.empty ((a :: b :: ts).map B) 0 = B a := rfl
  have r1 : rdOf ByteArray.empty ((a :: b :: ts).map B) 1 = B b := rfl
  rw [hs] at hp hn
  simp only [List.length_cons] at hn
  simp only [c0, c1, c2, c3, if_true, if_false, r0, r1, Option.bind_some]
  refine Ev.then (impl_ParseInt_ev a) ?_
  refine Ev.then (impl_ParseInt_ev b) ?_
  have := impl_ParseJoiner_l0 ts (by omega) (fun x hx => hp x (List.mem_cons_of_mem _ (List.mem_cons_of_mem _ hx))) (pIr a).2 (pIr b).2 (pIr a).1 (pIr b).1 ts.length 0 [] rfl (by omega) (by simp) ⟨by simp, fun t ht => (by cases ht), fun t ht => (by cases ht)⟩
  refine Ev.of_eq this ?_
  show rJoin (pEnd _ _ _ _ [] (pTs ts)) = _
  cases pTs ts with
  | none => rfl
  | some l => rfl
end
open Plain Br
section
abbrev Sh : Type := Nat × Nat × Nat
def shp (t : Task) : Sh := (t.f1.length, t.f2.length, t.f3.length)
def mEnd (m : Int) (s : Sh) : Int := m + 1 + 3 * (s.1 : Int) + 3 * (s.2.1 : Int) + (s.2.2 : Int)
def mkT (m : Int) (s : Sh) : Task := ⟨m, mkRows s.1 (m + 1), mkRows s.2.1 (m + 1 + 3 * (s.1 : Int)), mkBools s.2.2 (m + 1 + 3 * (s.1 : Int) + 3 * (s.2.1 : Int)), mEnd m s⟩
def mkTs : List Sh → Int → List Task
 | [], _ => []
 | s :: r, m => mkT m s :: mkTs r (mEnd m s + 1)
def endT : List Sh → Int → Int
 | [], m => m
 | s :: r, m => endT r (mEnd m s + 1)
theorem mEnd_ge (m : Int) (s : Sh) : m + 1 ≤ mEnd m s := by unfold mEnd; omega
theorem endT_ge : ∀ (ns : List Sh) (m : Int), m ≤ endT ns m
 | [], m => by simp [endT]
 | s :: r, m => by
  have h1 := endT_ge r (mEnd m s + 1)
  have h2 := mEnd_ge m s
  show m ≤ endT r (mEnd m s + 1)
  omega
theorem endT_le : ∀ (ns : List Sh) (m : Int), (∀ s ∈ ns, s.1 ≤ 24 ∧ s.2.1 ≤ 24 ∧ s.2.2 ≤ 24) → endT ns m ≤ m + 170 * ns.length
 | [], m, _ => by simp [endT]
 | s :: r, m, h => by
  have h1 := endT_le r (mEnd m s + 1) (fun x hx => h x (List.mem_cons_of_mem _ hx))
  obtain ⟨h2, h3, h4⟩ := h s List.mem_cons_self
  show endT r (mEnd m s + 1) ≤ _
  simp only [List.length_cons]
  have : mEnd m s ≤ m + 169 := by unfold mEnd; omega
  omega
theorem mkTs_len : ∀ (ns : List Sh) (m : Int), (mkTs ns m).length = ns.length
 | [], _ => rfl
 | s :: r, m => by rw [mkTs, List.length_cons, List.length_cons, mkTs_len r]
theorem rd_midT (a : List Task) (x : Task) (b : List Task) (j : Nat) (h : a.length = j) : rd_T40 (a ++ x :: b) (j : Int) = x := by
 have hj : j < (a ++ x :: b).length := by rw [List.length_append, List.length_cons]; omega
 rw [rd_task _ j hj]
 subst h; simp
theorem laws_markTaskS_l0 : ∀ (rest done : List Task) (j : Nat) (m : Int), done.length = j → 0 ≤ m → endT (rest.map shp) m ≤ 4611686018427380000 → j + rest.length ≤ 1000000000 →
  Ev (fun k => laws_markTaskS.l0 k (done ++ rest) m (j : Int)) (endT (rest.map shp) m, done ++ mkTs (rest.map shp) m)
 | [], done, j, m, hj, h0, hb, hl => by
  refine Ev.succ ?_
  have c1 : ¬ ((j : Int) < ((done ++ []).length : Int)) := by rw [List.append_nil]; omega
  simp only [laws_markTaskS.l0, c1, if_false]
  exact Ev.val (by simp [endT, mkTs])
 | t :: r, done, j, m, hj, h0, hb, hl => by
  refine Ev.succ ?_
  have hlen : (done ++ t :: r).length = j + r.length + 1 := by rw [List.length_append, List.length_cons]; omega
  have c1 : (j : Int) < ((done ++ t :: r).length : Int) := by rw [hlen]; omega
  have c2 : (0 : Int) ≤ (j : Int) := by omega
  have hb' : endT (r.map shp) (mEnd m (shp t) + 1) ≤ 4611686018427380000 := hb
  have hg := endT_ge (r.map shp) (mEnd m (shp t) + 1)
  have he : mEnd m (shp t) = m + 1 + 3 * (t.f1.length : Int) + 3 * (t.f2.length : Int) + (t.f3.length : Int) := rfl
  rw [List.length_cons] at hl
  have e1 : wrap64 (m + 1) = m + 1 := wr1 (by omega) (by omega)
  simp only [laws_markTaskS.l0, c1, c2, if_true, rd_midT done t r j hj, Int.toNat_natCast, succ64 j (by omega), e1]
  refine Ev.then (laws_markRowS_ev t.f1 (m + 1) (by omega) (by omega)) ?_
  refine Ev.then (laws_markRowS_ev t.f2 _ (by omega) (by omega)) ?_
  refine Ev.then (laws_markBoolS_ev t.f3 _ (by omega) (by omega)) ?_
  have e2 : wrap64 (m + 1 + 3 * (t.f1.length : Int) + 3 * (t.f2.length : Int) + (t.f3.length : Int) + 1) = m + 1 + 3 * (t.f1.length : Int) + 3 * (t.f2.length : Int) + (t.f3.length : Int) + 1 := wr1 (by omega) (by omega)
  simp only [set_mid _ _ _ _ j hj, e2]
  have := laws_markTaskS_l0 r (done ++ [mkT m (shp t)]) (j + 1) (mEnd m (shp t) + 1) (by simp [hj]) (by omega) hb' (by omega)
  rw [List.append_assoc, List.append_assoc] at this
  exact this
theorem laws_heldTaskS_l0 : ∀ (ns : List Sh) (done : List Task) (j : Nat) (m : Int), done.length = j → 0 ≤ m → endT ns m ≤ 4611686018427380000 → j + ns.length ≤ 1000000000 →
  Ev (fun k => laws_heldTaskS.l0 k (done ++ mkTs ns m) m (j : Int)) (endT ns m)
 | [], done, j, m, hj, h0, hb, hl => by
  refine Ev.succ ?_
  have c1 : ¬ ((j : Int) < ((done ++ mkTs [] m).length : Int)) := by simp only [mkTs, List.append_nil]; omega
  simp only [laws_heldTaskS.l0, c1, if_false]
  exact Ev.val rfl
 | s :: r, done, j, m, hj, h0, hb, hl => by
  refine Ev.succ ?_
  have hb' : endT r (mEnd m s + 1) ≤ 4611686018427380000 := hb
  have hg := endT_ge r (mEnd m s + 1)
  have he : mEnd m s = m + 1 + 3 * (s.1 : Int) + 3 * (s.2.1 : Int) + (s.2.2 : Int) := rfl
  rw [List.length_cons] at hl
  have hlen : (done ++ mkTs (s :: r) m).length = j + r.length + 1 := by rw [List.length_append, mkTs_len, List.length_cons]; omega
  have c1 : (j : Int) < ((done ++ mkTs (s :: r) m).length : Int) := by rw [hlen]; omega
  have c2 : (0 : Int) ≤ (j : Int) := by omega
  have e0 : rd_T40 (done ++ mkTs (s :: r) m) (j : Int) = mkT m s := rd_midT done _ _ j hj
  have e1 : wrap64 (m + 1) = m + 1 := wr1 (by omega) (by omega)
  simp only [laws_heldTaskS.l0, c1, c2, if_true, e0, mkT, succ64 j (by omega), e1]
  refine Ev.then (laws_heldRowS_ev s.1 (m + 1) (by omega) (by omega)) ?_
  have c3 : ¬ (m + 1 + 3 * (s.1 : Int) < 0) := by omega
  simp only [c3, if_false]
  refine Ev.then (laws_heldRowS_ev s.2.1 _ (by omega) (by omega)) ?_
  have c4 : ¬ (m + 1 + 3 * (s.1 : Int) + 3 * (s.2.1 : Int) < 0) := by omega
  simp only [c4, if_false]
  refine Ev.then (laws_heldBoolS_ev s.2.2 _ (by omega) (by omega)) ?_
  have c5 : ¬ (m + 1 + 3 * (s.1 : Int) + 3 * (s.2.1 : Int) + (s.2.2 : Int) < 0) := by omega
  have e2 : wrap64 (m + 1 + 3 * (s.1 : Int) + 3 * (s.2.1 : Int) + (s.2.2 : Int) + 1) = m + 1 + 3 * (s.1 : Int) + 3 * (s.2.1 : Int) + (s.2.2 : Int) + 1 := wr1 (by omega) (by omega)
  simp only [c5, if_false, he, if_true, e2]
  have := laws_heldTaskS_l0 r (done ++ [mkT m s]) (j + 1) (mEnd m s + 1) (by simp [hj]) (by omega) hb' (by omega)
  rw [List.append_assoc] at this
  exact this
theorem laws_eqTaskS_l0 (l : List Task) (hl : l.length ≤ 1000000000) (hr : ∀ t ∈ l, t.f1.length ≤ 24 ∧ t.f2.length ≤ 24 ∧ t.f3.length ≤ 24) : ∀ (d j : Nat), l.length - j = d → j ≤ l.length → Ev (fun k => laws_eqTaskS.l0 k l l (j : Int)) true := by
 intro d
 induction d with
 | zero =>
  intro j hd hj
  refine Ev.succ ?_
  have c1 : ¬ ((j : Int) < (l.length : Int)) := by omega
  simp only [laws_eqTaskS.l0, c1, if_false]
  exact Ev.val rfl
 | succ d ih =>
  intro j hd hj
  have h : j < l.length := by omega
  refine Ev.succ ?_
  have c1 : (j : Int) < (l.length : Int) := by omega
  have c2 : (0 : Int) ≤ (j : Int) := by omega
  obtain ⟨h1, h2, h3⟩ := hr _ (List.getElem_mem h)
  simp only [laws_eqTaskS.l0, c1, c2, if_true, rd_task l j h, succ64 j (by omega)]
  refine Ev.then (laws_eqTask_self _ _ _ _ _ (by omega) (by omega) (by omega)) ?_
  simp only [if_true]
  exact ih (j + 1) (by omega) (by omega)
theorem laws_eqJoiner_self (l : List Task) (a b : Int) (hl : l.length ≤ 1000000) (hr : ∀ t ∈ l, t.f1.length ≤ 24 ∧ t.f2.length ≤ 24 ∧ t.f3.length ≤ 24) : Ev (fun k => laws_eqJoiner.f k l a b l a b) true := by
 unfold laws_eqJoiner.f laws_eqTaskS.f
 simp only [if_true]
 refine Ev.then (laws_eqTaskS_l0 l (by omega) hr l.length 0 rfl (by omega)) ?_
 simp only [if_true]
 exact Ev.val rfl
theorem rJoin_len (o : Option Jn) (h : ∀ l a b, o = some (l, a, b) → vJoin l a b = true) : (rJoin o).1.length ≤ 40 ∧ ∀ t ∈ (rJoin o).1, t.f1.length ≤ 24 ∧ t.f2.length ≤ 24 ∧ t.f3.length ≤ 24 := by
 match o, h with
 | none, _ => exact ⟨by simp [rJoin], fun t ht => by cases ht⟩
 | some (l, a, b), h =>
  have hv := vJoin_imp (h l a b rfl)
  refine ⟨hv.few, fun t ht => ?_⟩
  have h' := (vTask_iff t).1 (hv.all t ht)
  have h1 := ((vRows_iff _).1 h'.left).1
  exact ⟨h1, ((vRows_iff _).1 h'.right).1, by rw [h'.marks]; exact h1⟩
theorem pJoin_v {s : T} {l : List Task} {a b : Int} (h : pJoin s = some (l, a, b)) : vJoin l a b = true := by
 unfold pJoin at h
 split at h
 ·cases q : pTs _ with
  | none => rw [q] at h; cases h
  | some x =>
   rw [q] at h
   dsimp only at h
   split at h
   ·rename_i hc
    injection h with h
    injection h with h1 h2
    injection h2 with h2 h3
    subst h1 h2 h3
    exact hc.2.2
   ·cases h
 ·cases h
theorem law_ExactParseJoiner (s : T) : Ev (fun k => laws_FnExactParseJoiner.f k (B s)) true := by
 unfold laws_FnExactParseJoiner.f
 by_cases hs : s.length > 1048576
 ·have c : ((B s).size : Int) > 1048576 := by rw [size_B]; omega
  simp only [c, if_true]; exact Ev.val rfl
 ·have c : ¬ (((B s).size : Int) > 1048576) := by rw [size_B]; omega
  simp only [c, if_false]
  have h1 := spec_ParseJoiner_ev s (by omega)
  have h2 := impl_ParseJoiner_ev s (by omega)
  obtain ⟨hl, hr⟩ := rJoin_len (pJoin s) (fun l n e h => pJoin_v h)
  obtain ⟨⟨l, n, e, ok⟩, hq⟩ : ∃ q, rJoin (pJoin s) = q := ⟨_, rfl⟩
  rw [hq] at h1 h2 hl hr
  dsimp only at hl hr
  refine Ev.then h1 ?_
  refine Ev.then h2 ?_
  refine Ev.then (laws_eqJoiner_self l n e (by omega) hr) ?_
  simp only [and_self, if_true]
  have h24 : ∀ x ∈ l.map shp, x.1 ≤ 24 ∧ x.2.1 ≤ 24 ∧ x.2.2 ≤ 24 := by intro x hx; obtain ⟨t, ht, rfl⟩ := List.mem_map.1 hx; exact hr t ht
  have hle := endT_le (l.map shp) 1 h24
  have hge := endT_ge (l.map shp) 1
  rw [List.length_map] at hle
  have hm : Ev (fun k => laws_markJoiner.f k l n e 1) (endT (l.map shp) 1, mkTs (l.map shp) 1) := laws_markTaskS_l0 l [] 0 1 rfl (by omega) (by omega) (by omega)
  refine Ev.then hm ?_
  have c2 : ¬ (endT (l.map shp) 1 < 0) := by omega
  have hh : Ev (fun k => laws_heldJoiner.f k (mkTs (l.map shp) 1) n e 1) (endT (l.map shp) 1) := by
   unfold laws_heldJoiner.f laws_heldTaskS.f
   refine Ev.then (laws_heldTaskS_l0 (l.map shp) [] 0 1 rfl (by omega) (by omega) (by rw [List.length_map]; omega)) ?_
   simp only [c2, if_false]
   exact Ev.val rfl
  refine Ev.then hh ?_
  simp only [c2, not_false_eq_true, and_self, if_true]
  exact Ev.val rfl
theorem FnExactParseJoiner_pure : laws_FnExactParseJoiner.Pure := by
 intro a _
 rw [← B_L a]
 exact Ev.rounds (law_ExactParseJoiner (L a))
end
end Go.Proofs.Ytobndcjmjhehjaa.P
