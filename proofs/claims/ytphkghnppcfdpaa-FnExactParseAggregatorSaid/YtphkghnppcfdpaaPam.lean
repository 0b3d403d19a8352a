/- For every string the law FnExactParseAggregator of the given program returns true and leaves its argument as it was; no condition. -/
import Derived.Test.YtphkghnppcfdpaaPaf2
namespace Go.Proofs.Ytphkghnppcfdpaa.P
open Go.RowKit Go.Proofs.YtphkghnppcfdpaaW.PrintWords Go.Proofs.YtphkghnppcfdpaaW.PrintLast
set_option linter.unusedVariables false
set_option linter.unusedSimpArgs false
/-! Plain lemmas on texts: decimal numbers, splitting at a sign, joining. No program in sight. -/
namespace Plain

abbrev T := List UInt8

/-! ### decimal -/
def dec (n : Nat) : T := if n < 10 then [UInt8.ofNat (48 + n)] else dec (n / 10) ++ [UInt8.ofNat (48 + n % 10)]
  termination_by n
  decreasing_by omega

theorem dec_lt {n : Nat} (h : n < 10) : dec n = [UInt8.ofNat (48 + n)] := by rw [dec, if_pos h]
theorem dec_ge {n : Nat} (h : ¬ n < 10) : dec n = dec (n / 10) ++ [UInt8.ofNat (48 + n % 10)] := by rw [dec, if_neg h]

def isDig (c : UInt8) : Bool := 48 ≤ c.toNat && c.toNat ≤ 57
def dval (c : UInt8) : Nat := c.toNat - 48
def val (l : T) : Nat := l.foldl (fun n c => n * 10 + dval c) 0

theorem isDig_of {d : Nat} (h : d < 10) : isDig (UInt8.ofNat (48 + d)) = true := by
  have : (UInt8.ofNat (48 + d)).toNat = 48 + d := by rw [UInt8.toNat_ofNat']; omega
  unfold isDig
  rw [this, Bool.and_eq_true]
  exact ⟨decide_eq_true (by omega), decide_eq_true (by omega)⟩
theorem dval_of {d : Nat} (h : d < 10) : dval (UInt8.ofNat (48 + d)) = d := by
  have : (UInt8.ofNat (48 + d)).toNat = 48 + d := by rw [UInt8.toNat_ofNat']; omega
  unfold dval
  omega

theorem dec_dig (n : Nat) : ∀ c ∈ dec n, isDig c = true := by
  induction n using Nat.strongRecOn with
  | _ n ih =>
    by_cases h : n < 10
    · rw [dec_lt h]; intro c hc; rw [List.mem_singleton] at hc; subst hc; exact isDig_of h
    · rw [dec_ge h]; intro c hc
      rcases List.mem_append.1 hc with hc | hc
      · exact ih _ (by omega) c hc
      · rw [List.mem_singleton] at hc; subst hc; exact isDig_of (by omega)

theorem dec_ne (n : Nat) : dec n ≠ [] := by
  by_cases h : n < 10
  · rw [dec_lt h]; simp
  · rw [dec_ge h]; simp

theorem val_snoc (l : T) (c : UInt8) : val (l ++ [c]) = val l * 10 + dval c := by simp [val, List.foldl_append]

theorem val_dec (n : Nat) : val (dec n) = n := by
  induction n using Nat.strongRecOn with
  | _ n ih =>
    by_cases h : n < 10
    · rw [dec_lt h, show [UInt8.ofNat (48 + n)] = [] ++ [UInt8.ofNat (48 + n)] from rfl, val_snoc, dval_of h]; simp [val]
    · rw [dec_ge h, val_snoc, ih _ (by omega), dval_of (by omega)]; omega

theorem dec_len (n k : Nat) (hk : 0 < k) : (dec n).length ≤ k ↔ n < 10 ^ k := by
  induction n using Nat.strongRecOn generalizing k with
  | _ n ih =>
    by_cases h : n < 10
    · rw [dec_lt h]
      simp only [List.length_singleton]
      constructor
      · intro _
        calc n < 10 := h
          _ = 10 ^ 1 := rfl
          _ ≤ 10 ^ k := Nat.pow_le_pow_right (by omega) hk
      · intro _; exact hk
    · rw [dec_ge h]
      simp only [List.length_append, List.length_singleton]
      rcases Nat.lt_or_ge 1 k with h1 | h1
      · have := ih (n / 10) (by omega) (k - 1) (by omega)
        have e : 10 ^ k = 10 * 10 ^ (k - 1) := by
          conv => lhs; rw [show k = (k - 1) + 1 by omega]
          rw [Nat.pow_succ, Nat.mul_comm]
        rw [e]
        constructor
        · intro hl; have := this.1 (by omega); omega
        · intro hn; have := this.2 (by omega); omega
      · obtain rfl : k = 1 := by omega
        have hp : 0 < (dec (n / 10)).length := List.length_pos_iff.2 (dec_ne _)
        constructor
        · intro hl; omega
        · intro hn; omega

def fmtI (n : Int) : T := if n < 0 then 45 :: dec n.natAbs else dec n.toNat

theorem fmtI_ne (n : Int) : fmtI n ≠ [] := by
  unfold fmtI; split
  · simp
  · exact dec_ne _

/-- A sign that can stand in a number's text. -/
def numSign (c : UInt8) : Bool := isDig c || c == 45
theorem fmtI_signs (n : Int) : ∀ c ∈ fmtI n, numSign c = true := by
  unfold fmtI; split
  · intro c hc
    rcases List.mem_cons.1 hc with rfl | hc
    · rfl
    · simp [numSign, dec_dig _ c hc]
  · intro c hc; simp [numSign, dec_dig _ c hc]

/-- The number in a text; signs that are no digits count nothing. -/
def digs (l : T) : T := l.filter isDig
def rawI (l : T) : Int := if l.head? = some 45 then -(val (digs l) : Int) else val (digs l)

theorem digs_all {l : T} (h : ∀ c ∈ l, isDig c = true) : digs l = l := by simpa [digs] using h

theorem rawI_fmt (n : Int) : rawI (fmtI n) = n := by
  unfold rawI fmtI
  split
  · rename_i h
    have e : digs (45 :: dec n.natAbs) = dec n.natAbs := by
      have : isDig 45 = false := by decide
      simp only [digs, List.filter_cons, this]
      exact digs_all (dec_dig _)
    simp only [List.head?_cons, if_true, e, val_dec]
    omega
  · rename_i h
    have e : digs (dec n.toNat) = dec n.toNat := digs_all (dec_dig _)
    have hne : (dec n.toNat).head? ≠ some 45 := by
      intro hh
      have := dec_dig n.toNat 45 (List.mem_of_mem_head? hh)
      exact absurd this (by decide)
    rw [if_neg hne, e, val_dec]
    omega

/-- FormatInt's inverse, up to nine digits. -/
def pI (l : T) : Option Int := if fmtI (rawI l) = l ∧ -1000000000 < rawI l ∧ rawI l < 1000000000 then some (rawI l) else none
theorem pI_some {l : T} {n : Int} : pI l = some n ↔ fmtI n = l ∧ -1000000000 < n ∧ n < 1000000000 := by
  unfold pI
  split
  · rename_i h
    simp only [Option.some.injEq]
    constructor
    · rintro rfl; exact h
    · rintro ⟨rfl, _⟩; exact rawI_fmt n
  · rename_i h
    simp only [false_iff, reduceCtorEq]
    rintro ⟨rfl, h2⟩
    rw [rawI_fmt] at h
    exact h ⟨rfl, h2⟩

/-! ### splitting and joining -/
def split (s : UInt8) : T → List T
  | [] => [[]]
  | c :: r => if c = s then [] :: split s r else match split s r with
    | h :: t => (c :: h) :: t
    | [] => [[c]]
def join (s : T) : List T → T
  | [] => []
  | [a] => a
  | a :: b :: r => a ++ s ++ join s (b :: r)

theorem split_ne (s : UInt8) (l : T) : split s l ≠ [] := by
  cases l with
  | nil => simp [split]
  | cons c r => unfold split; split <;> (try split) <;> simp

theorem join_split (s : UInt8) (l : T) : join [s] (split s l) = l := by
  induction l with
  | nil => rfl
  | cons c r ih =>
    unfold split
    obtain ⟨h, t, e⟩ : ∃ h t, split s r = h :: t := by
      cases e : split s r with
      | nil => exact absurd e (split_ne s r)
      | cons h t => exact ⟨h, t, rfl⟩
    split
    · rename_i hc
      subst hc
      rw [e] at ih ⊢
      show [] ++ [c] ++ join [c] (h :: t) = _
      rw [ih]; rfl
    · rw [e] at ih ⊢
      show join [s] ((c :: h) :: t) = _
      cases t with
      | nil => show c :: h = _; rw [← ih]; rfl
      | cons h2 t2 => show (c :: h) ++ [s] ++ join [s] (h2 :: t2) = _; rw [← ih]; rfl

theorem split_free (s : UInt8) {l : T} (h : s ∉ l) : split s l = [l] := by
  induction l with
  | nil => rfl
  | cons c r ih =>
    unfold split
    rw [if_neg (fun e => h (by simp [e])), ih (fun e => h (by simp [e]))]

theorem split_app (s : UInt8) {a : T} (h : s ∉ a) (r : T) : split s (a ++ s :: r) = a :: split s r := by
  induction a with
  | nil => show split s (s :: r) = [] :: split s r; rw [split, if_pos rfl]
  | cons c a ih =>
    show split s (c :: (a ++ s :: r)) = _
    conv => lhs; unfold split
    rw [if_neg (fun e => h (by simp [e])), ih (fun e => h (by simp [e]))]

theorem split_join (s : UInt8) : ∀ {ls : List T}, ls ≠ [] → (∀ a ∈ ls, s ∉ a) → split s (join [s] ls) = ls
  | [], h, _ => absurd rfl h
  | [a], _, h => split_free s (h a (by simp))
  | a :: b :: r, _, h => by
    have ih := split_join s (ls := b :: r) (by simp) (fun x hx => h x (by simp at hx ⊢; right; exact hx))
    show split s (a ++ [s] ++ join [s] (b :: r)) = _
    rw [List.append_assoc]
    show split s (a ++ s :: join [s] (b :: r)) = _
    rw [split_app s (h a (by simp)), ih]

theorem mem_split {s : UInt8} {l a : T} (h : a ∈ split s l) : s ∉ a := by
  induction l generalizing a with
  | nil => simp [split] at h; subst h; simp
  | cons c r ih =>
    unfold split at h
    obtain ⟨h0, t, e⟩ : ∃ h t, split s r = h :: t := by
      cases e : split s r with
      | nil => exact absurd e (split_ne s r)
      | cons h t => exact ⟨h, t, rfl⟩
    split at h
    · rcases List.mem_cons.1 h with rfl | h
      · simp
      · exact ih h
    · rename_i hc
      rw [e] at h ih
      rcases List.mem_cons.1 h with rfl | h
      · intro hm
        rcases List.mem_cons.1 hm with rfl | hm
        · exact hc rfl
        · exact ih (List.mem_cons_self ..) hm
      · exact ih (List.mem_cons_of_mem _ h)

theorem join_cons (s a : T) {r : List T} (h : r ≠ []) : join s (a :: r) = a ++ s ++ join s r := by
  cases r with
  | nil => exact absurd rfl h
  | cons b r => rfl
theorem join_snoc (s : T) : ∀ {l : List T}, l ≠ [] → ∀ a, join s (l ++ [a]) = join s l ++ s ++ a
  | [], h, _ => absurd rfl h
  | [b], _, a => rfl
  | b :: c :: r, _, a => by
    show b ++ s ++ join s ((c :: r) ++ [a]) = b ++ s ++ join s (c :: r) ++ s ++ a
    rw [join_snoc s (by simp) a]; simp [List.append_assoc]

end Plain
/-! Bridges between the printed words (bytes, texts, rounds) and plain lists. -/
open Plain
namespace Br

/-! ### rounds -/
theorem Ev.succ {α : Type} {g : Nat → Option α} {r : α} (h : Ev (fun k => g (k + 1)) r) : Ev g r := by
  obtain ⟨K, h⟩ := h
  refine ⟨K + 1, fun k hk => ?_⟩
  have := h (k - 1) (by omega)
  simpa [show k - 1 + 1 = k by omega] using this
theorem Ev.val {α : Type} {v r : α} (h : v = r) : Ev (fun _ => some v) r := ⟨0, fun _ _ => by rw [h]⟩
theorem Ev.then {α β : Type} {g : Nat → Option α} {f : Nat → α → Option β} {a : α} {r : β} (h : Ev g a) (k : Ev (fun n => f n a) r) : Ev (fun n => (g n).bind (f n)) r := Ev.bind h k
theorem Ev.one {α : Type} {g : Nat → Option α} {a : α} (h : Ev g a) : Ev (fun n => (g n).bind fun t => some t) a := Ev.bind h (Ev.val rfl)
theorem Ev.det {α : Type} {g : Nat → Option α} {a b : α} (h : Ev g a) (h' : Ev g b) : a = b := by
  obtain ⟨K, h⟩ := h; obtain ⟨K', h'⟩ := h'
  have e1 := h (K + K') (by omega); have e2 := h' (K + K') (by omega)
  rw [e1] at e2; exact Option.some.inj e2

/-! ### texts -/
def L (s : ByteArray) : T := s.data.toList
def B (l : T) : ByteArray := ⟨l.toArray⟩
theorem L_B (l : T) : L (B l) = l := by simp [L, B]
theorem B_L (s : ByteArray) : B (L s) = s := by cases s; simp [L, B]
theorem L_inj {a b : ByteArray} : L a = L b ↔ a = b := ⟨fun h => by rw [← B_L a, ← B_L b, h], fun h => by rw [h]⟩
theorem B_inj {a b : T} : B a = B b ↔ a = b := ⟨fun h => by rw [← L_B a, ← L_B b, h], fun h => by rw [h]⟩
theorem size_L (s : ByteArray) : s.size = (L s).length := by rw [L, Array.length_toList]; rfl
theorem size_B (l : T) : (B l).size = l.length := by rw [size_L, L_B]
theorem B_append (a b : T) : B a ++ B b = B (a ++ b) := by
  rw [← L_inj, L_B]; simp [L, B, ByteArray.data_append]
theorem L_append (a b : ByteArray) : L (a ++ b) = L a ++ L b := by simp [L, ByteArray.data_append]
theorem toList_L (s : ByteArray) : s.toList = L s := ByteArray.toList_eq s
theorem toList_B (l : T) : (B l).toList = l := by rw [toList_L, L_B]
theorem lit_B (a : Array UInt8) : (⟨a⟩ : ByteArray) = B a.toList := by simp [B]
theorem B_nil : B [] = (⟨#[]⟩ : ByteArray) := rfl
theorem extract_B (l : T) (a b : Nat) : (B l).extract a b = B ((l.take b).drop a) := by
  rw [← L_inj, L_B]
  show ((B l).extract a b).data.toList = _
  rw [ByteArray.data_extract, Array.toList_extract]
  show (l.drop a).take (b - a) = _
  rw [List.drop_take]
theorem bt_B (l : T) (i : Int) (h : i.toNat < l.length) : bt (B l) i = ((l[i.toNat]'h).toNat : Int) := by
  unfold bt
  rw [dif_pos (by rw [size_B]; exact h)]
  rfl
theorem strOfNums_one (n : Int) : strOfNums [n] = B [UInt8.ofNat n.toNat] := rfl
theorem w64 {n : Int} (h1 : -9223372036854775808 ≤ n) (h2 : n ≤ 9223372036854775807) : wrap64 n = n := by unfold wrap64; omega
theorem wu64 {n : Int} (h1 : 0 ≤ n) (h2 : n ≤ 18446744073709551615) : IntKind.u64.wrap n = n := by
  unfold IntKind.wrap
  dsimp only
  rw [if_neg (by rw [show IntKind.u64.signed = false from rfl, Bool.false_and]; decide)]
  show n % 18446744073709551616 = n
  omega
end Br
/-! FormatInt, ParseInt, cut: the printed functions answer as Plain's. -/
open Plain Br
section
theorem tdiv_nat (m : Nat) : Int.tdiv (m : Int) 10 = ((m / 10 : Nat) : Int) := rfl
theorem tmod_nat (m : Nat) : Int.tmod (m : Int) 10 = ((m % 10 : Nat) : Int) := rfl
theorem dec_len20 (m : Nat) (h : m < 18446744073709551616) : (dec m).length ≤ 20 := (dec_len m 20 (by omega)).2 (by omega)
theorem dig_str (m : Nat) (h : m < 10) : strOfNums [(48 + (m : Int)) % 256] = B [UInt8.ofNat (48 + m)] := by
  rw [strOfNums_one, show ((48 + (m : Int)) % 256).toNat = 48 + m by omega]

theorem impl_decimal_ev : ∀ m : Nat, m < 18446744073709551616 → Ev (fun k => impl_decimal.f k (m : Int)) (B (dec m)) := by
  intro m
  induction m using Nat.strongRecOn with
  | _ m ih =>
    intro hm
    refine Ev.succ ?_
    by_cases h : m < 10
    · have h1 : ((m : Int) < 10) := by omega
      simp only [impl_decimal.f, h1, if_true]
      rw [wu64 (by omega) (by omega), dig_str m h, dec_lt h]
      exact Ev.val rfl
    · have h1 : ¬ ((m : Int) < 10) := by omega
      simp only [impl_decimal.f, h1, if_false, tdiv_nat, tmod_nat]
      rw [wu64 (by omega) (by omega)]
      refine Ev.then (ih (m / 10) (by omega) (by omega)) ?_
      simp only [Option.bind_some]
      rw [wu64 (by omega) (by omega), dig_str _ (by omega)]
      have hl := dec_len20 (m / 10) (by omega)
      have h2 : (B (dec (m / 10))).size + (B [UInt8.ofNat (48 + m % 10)]).size ≤ 9223372036854775807 := by rw [size_B, size_B]; simp only [List.length_singleton]; omega
      simp only [h2, if_true]
      rw [B_append, ← dec_ge h]
      exact Ev.val rfl

theorem impl_FormatInt_ev (n : Int) (h1 : -9223372036854775808 ≤ n) (h2 : n ≤ 9223372036854775807) : Ev (fun k => impl_FormatInt.f k n) (B (fmtI n)) := by
  simp only [impl_FormatInt.f]
  by_cases h : n < 0
  · have e : IntKind.u64.wrap (-IntKind.u64.wrap n) = ((n.natAbs : Nat) : Int) := by
      have e1 : ∀ x : Int, IntKind.u64.wrap x = x % 18446744073709551616 := by
        intro x
        unfold IntKind.wrap
        dsimp only
        rw [if_neg (by rw [show IntKind.u64.signed = false from rfl, Bool.false_and]; decide)]
        rfl
      rw [e1, e1]; omega
    simp only [h, if_true, e]
    refine Ev.then (impl_decimal_ev _ (by omega)) ?_
    have hl := dec_len20 n.natAbs (by omega)
    have h3 : 1 + (B (dec n.natAbs)).size ≤ 9223372036854775807 := by rw [size_B]; omega
    simp only [h3, if_true]
    refine Ev.val ?_
    rw [lit_B, B_append]
    unfold fmtI
    rw [if_pos h]
    rfl
  · have e : IntKind.u64.wrap n = ((n.toNat : Nat) : Int) := by rw [wu64 (by omega) (by omega)]; omega
    simp only [h, if_false, e]
    refine Ev.then (impl_decimal_ev _ (by omega)) (Ev.val ?_)
    unfold fmtI
    rw [if_neg h]

theorem spec_FormatInt_l0 (neg : Bool) : ∀ (m : Nat) (n : Int) (acc : T), n.natAbs = m → -9223372036854775808 ≤ n → n ≤ 9223372036854775807 → acc.length + (dec m).length ≤ 1000 → n ≠ 0 →
    Ev (fun k => spec_FormatInt.l0 k n (B acc) neg) (B ((if neg then [45] else []) ++ dec m ++ acc)) := by
  intro m
  induction m using Nat.strongRecOn with
  | _ m ih =>
    intro n acc hm h1 h2 hacc hn
    have hlast : ∀ (acc : T), acc.length < 9223372036854775100 → Ev (fun k => spec_FormatInt.l0 k 0 (B acc) neg) (B ((if neg then [45] else []) ++ acc)) := by
      intro acc ha
      refine Ev.succ ?_
      cases neg with
      | true =>
        have h3 : 1 + (B acc).size ≤ 9223372036854775807 := by rw [size_B]; omega
        simp only [spec_FormatInt.l0, if_true, h3]
        exact Ev.val (by rw [lit_B, B_append])
      | false =>
        simp only [spec_FormatInt.l0, if_true, Bool.false_eq_true, if_false]
        exact Ev.val rfl
    have key : Ev (fun k => spec_FormatInt.l0 k (Int.tdiv n 10) (B ([UInt8.ofNat (48 + m % 10)] ++ acc)) neg) (B ((if neg then [45] else []) ++ dec m ++ acc)) := by
      by_cases h10 : m < 10
      · have e : Int.tdiv n 10 = 0 := by
          rcases Int.lt_or_le n 0 with hn0 | hn0
          · obtain ⟨j, rfl⟩ : ∃ j : Nat, n = -(j : Int) := ⟨n.natAbs, by omega⟩
            rw [Int.neg_tdiv, tdiv_nat]; omega
          · obtain ⟨j, rfl⟩ : ∃ j : Nat, n = (j : Int) := ⟨n.natAbs, by omega⟩
            rw [tdiv_nat]; omega
        rw [e]
        have := hlast ([UInt8.ofNat (48 + m % 10)] ++ acc) (by simp; omega)
        rw [dec_lt h10, List.append_assoc, show UInt8.ofNat (48 + m) = UInt8.ofNat (48 + m % 10) by rw [Nat.mod_eq_of_lt h10]]
        exact this
      · have e : (Int.tdiv n 10).natAbs = m / 10 := by
          rcases Int.lt_or_le n 0 with hn0 | hn0
          · obtain ⟨j, rfl⟩ : ∃ j : Nat, n = -(j : Int) := ⟨n.natAbs, by omega⟩
            rw [Int.neg_tdiv, tdiv_nat]; omega
          · obtain ⟨j, rfl⟩ : ∃ j : Nat, n = (j : Int) := ⟨n.natAbs, by omega⟩
            rw [tdiv_nat]; omega
        obtain ⟨q, hq⟩ : ∃ q, q = Int.tdiv n 10 := ⟨_, rfl⟩
        rw [← hq] at e ⊢
        clear hq
        have := ih (m / 10) (by omega) q ([UInt8.ofNat (48 + m % 10)] ++ acc) e (by omega) (by omega) (by rw [dec_ge h10] at hacc; simp at hacc ⊢; omega) (by omega)
        rw [dec_ge h10]
        simpa [List.append_assoc] using this
    refine Ev.succ ?_
    have hn' : ¬ (n = 0) := hn
    have hsz : (B [UInt8.ofNat (48 + m % 10)]).size + (B acc).size ≤ 9223372036854775807 := by rw [size_B, size_B]; simp only [List.length_singleton]; omega
    have htd : wrap64 (Int.tdiv n 10) = Int.tdiv n 10 := by
      apply w64
      · rcases Int.lt_or_le n 0 with hn0 | hn0
        · obtain ⟨j, rfl⟩ : ∃ j : Nat, n = -(j : Int) := ⟨n.natAbs, by omega⟩
          rw [Int.neg_tdiv, tdiv_nat]; omega
        · obtain ⟨j, rfl⟩ : ∃ j : Nat, n = (j : Int) := ⟨n.natAbs, by omega⟩
          rw [tdiv_nat]; omega
      · rcases Int.lt_or_le n 0 with hn0 | hn0
        · obtain ⟨j, rfl⟩ : ∃ j : Nat, n = -(j : Int) := ⟨n.natAbs, by omega⟩
          rw [Int.neg_tdiv, tdiv_nat]; omega
        · obtain ⟨j, rfl⟩ : ∃ j : Nat, n = (j : Int) := ⟨n.natAbs, by omega⟩
          rw [tdiv_nat]; omega
    rcases Int.lt_or_le n 0 with hn0 | hn0
    · have hmod : Int.tmod n 10 = -((m % 10 : Nat) : Int) := by
        obtain ⟨j, rfl⟩ : ∃ j : Nat, n = -(j : Int) := ⟨n.natAbs, by omega⟩
        rw [Int.neg_tmod, tmod_nat]; omega
      by_cases hz : m % 10 = 0
      · have h3 : ¬ (Int.tmod n 10 < 0) := by rw [hmod]; omega
        have e1 : wrap64 (48 + Int.tmod n 10) = 48 + ((m % 10 : Nat) : Int) := by rw [hmod]; unfold wrap64; omega
        simp only [spec_FormatInt.l0, hn', h3, if_false, Option.bind_some, e1, dig_str _ (show m % 10 < 10 by omega), hsz, if_true, htd, B_append]
        exact key
      · have h3 : Int.tmod n 10 < 0 := by rw [hmod]; omega
        have e1 : wrap64 (48 + wrap64 (-(Int.tmod n 10))) = 48 + ((m % 10 : Nat) : Int) := by rw [hmod]; unfold wrap64; omega
        simp only [spec_FormatInt.l0, hn', h3, if_false, Option.bind_some, e1, dig_str _ (show m % 10 < 10 by omega), hsz, if_true, htd, B_append]
        exact key
    · have hmod : Int.tmod n 10 = ((m % 10 : Nat) : Int) := by
        obtain ⟨j, rfl⟩ : ∃ j : Nat, n = (j : Int) := ⟨n.natAbs, by omega⟩
        rw [tmod_nat]; omega
      have h3 : ¬ (Int.tmod n 10 < 0) := by rw [hmod]; omega
      have e1 : wrap64 (48 + Int.tmod n 10) = 48 + ((m % 10 : Nat) : Int) := by rw [hmod]; unfold wrap64; omega
      simp only [spec_FormatInt.l0, hn', h3, if_false, Option.bind_some, e1, dig_str _ (show m % 10 < 10 by omega), hsz, if_true, htd, B_append]
      exact key

theorem spec_FormatInt_ev (n : Int) (h1 : -9223372036854775808 ≤ n) (h2 : n ≤ 9223372036854775807) : Ev (fun k => spec_FormatInt.f k n) (B (fmtI n)) := by
  simp only [spec_FormatInt.f]
  by_cases h : n = 0
  · subst h
    simp only [if_true]
    refine Ev.val ?_
    rw [lit_B]
    unfold fmtI
    rw [if_neg (by decide), show (0 : Int).toNat = 0 from rfl, dec_lt (by decide)]
    rfl
  · simp only [h, if_false]
    have := spec_FormatInt_l0 (decide (n < 0)) n.natAbs n [] rfl h1 h2 (by have := dec_len20 n.natAbs (by omega); simp; omega) h
    rw [← B_nil]
    refine cast (congrArg _ ?_) this
    congr 1
    unfold fmtI
    by_cases hn : n < 0
    · rw [if_pos hn]; simp [hn]
    · rw [if_neg hn, show n.toNat = n.natAbs by omega]; simp [hn]

/-! ### cut -/
def cutAcc (l : T) (s : UInt8) (i j : Nat) : List T := ((l.drop i).take (j - i)) |> fun cur => match split s (l.drop j) with
  | h :: t => (cur ++ h) :: t
  | [] => [cur]
theorem cutAcc_end (l : T) (s : UInt8) (i : Nat) : cutAcc l s i l.length = [l.drop i] := by
  unfold cutAcc
  rw [List.drop_length]
  simp [split, List.take_of_length_le]
theorem take_snoc' (l : T) (i j : Nat) (h : i ≤ j) (hj : j < l.length) : (l.drop i).take (j + 1 - i) = (l.drop i).take (j - i) ++ [l[j]] := by
  rw [show j + 1 - i = (j - i) + 1 by omega, List.take_succ_eq_append_getElem (by simp; omega)]
  congr 2
  rw [List.getElem_drop]; congr 1; omega
theorem drop_cons' (l : T) (j : Nat) (hj : j < l.length) : l.drop j = l[j] :: l.drop (j + 1) := by rw [List.drop_eq_getElem_cons hj]
theorem cutAcc_hit (l : T) (s : UInt8) (i j : Nat) (hj : j < l.length) (h : l[j] = s) : cutAcc l s i j = ((l.drop i).take (j - i)) :: cutAcc l s (j + 1) (j + 1) := by
  unfold cutAcc
  rw [drop_cons' l j hj]
  simp only [split, h, if_true, List.append_nil]
  congr 1
  rw [Nat.sub_self, List.take_zero]
  cases hh : split s (l.drop (j + 1)) with
  | nil => exact absurd hh (split_ne _ _)
  | cons a t => rfl
theorem cutAcc_miss (l : T) (s : UInt8) (i j : Nat) (hij : i ≤ j) (hj : j < l.length) (h : l[j] ≠ s) : cutAcc l s i j = cutAcc l s i (j + 1) := by
  unfold cutAcc
  rw [drop_cons' l j hj, take_snoc' l i j hij hj]
  simp only [split, h, if_false]
  cases hh : split s (l.drop (j + 1)) with
  | nil => exact absurd hh (split_ne _ _)
  | cons a t => simp
theorem cutAcc_start (l : T) (s : UInt8) : cutAcc l s 0 0 = split s l := by
  unfold cutAcc
  simp only [List.drop_zero, Nat.sub_self, List.take_zero]
  cases hh : split s l with
  | nil => exact absurd hh (split_ne _ _)
  | cons a t => rfl

theorem extract_mid (l : T) (i j : Nat) (hij : i ≤ j) : (B l).extract ((i : Int).toNat) ((j : Int).toNat) = B ((l.drop i).take (j - i)) := by
  rw [extract_B, Int.toNat_natCast, Int.toNat_natCast, List.drop_take]
theorem bt_nat (l : T) (j : Nat) (h : j < l.length) : bt (B l) (j : Int) = ((l[j]'h).toNat : Int) := by
  rw [bt_B l (j : Int) (by simpa using h)]
  congr 1
theorem eq_sign (l : T) (j : Nat) (h : j < l.length) (s : UInt8) : (bt (B l) (j : Int) = (s.toNat : Int)) ↔ l[j] = s := by
  rw [bt_nat l j h]
  constructor
  · intro e; exact UInt8.toNat_inj.1 (by omega)
  · rintro rfl; rfl

theorem spec_l2Cut_l0 (l : T) (s : UInt8) (hl : l.length ≤ 4294967296) : ∀ (d i j : Nat) (acc : List ByteArray), l.length - j = d → i ≤ j → j ≤ l.length → acc.length ≤ j →
    Ev (fun k => spec_l2Cut.l0 k (B l) (s.toNat : Int) acc (i : Int) (j : Int)) (acc ++ (cutAcc l s i j).map B) := by
  intro d
  induction d with
  | zero =>
    intro i j acc hd hij hj ha
    refine Ev.succ ?_
    obtain rfl : j = l.length := by omega
    have c1 : ¬ ((l.length : Int) < ((B l).size : Int)) := by rw [size_B]; omega
    have c2 : (0 : Int) ≤ (i : Int) := by omega
    have c3 : (i : Int) ≤ ((B l).size : Int) := by rw [size_B]; omega
    have c4 : acc.length < 8796093022208 := by omega
    simp only [spec_l2Cut.l0, c1, if_false, c2, c3, c4, if_true]
    refine Ev.val ?_
    rw [cutAcc_end, List.map_singleton, extract_B, size_B, List.take_length, Int.toNat_natCast]
  | succ d ih =>
    intro i j acc hd hij hj ha
    refine Ev.succ ?_
    have hjl : j < l.length := by omega
    have c1 : (j : Int) < ((B l).size : Int) := by rw [size_B]; omega
    have c2 : (0 : Int) ≤ (j : Int) := by omega
    have e1 : wrap64 ((j : Int) + 1) = ((j + 1 : Nat) : Int) := by unfold wrap64; omega
    by_cases h : l[j] = s
    · have c3 := (eq_sign l j hjl s).2 h
      have c4 : (0 : Int) ≤ (i : Int) := by omega
      have c5 : (i : Int) ≤ (j : Int) := by omega
      have c6 : (j : Int) ≤ ((B l).size : Int) := by omega
      have c7 : acc.length < 8796093022208 := by omega
      simp only [spec_l2Cut.l0, c1, c2, c3, c4, c5, c6, c7, if_true, e1, extract_mid l i j hij]
      have := ih (j + 1) (j + 1) (acc ++ [B ((l.drop i).take (j - i))]) (by omega) (by omega) (by omega) (by simp; omega)
      rw [cutAcc_hit l s i j hjl h, List.map_cons]
      simpa using this
    · have c3 := (not_congr (eq_sign l j hjl s)).2 h
      simp only [spec_l2Cut.l0, c1, c2, c3, if_true, if_false, e1]
      rw [cutAcc_miss l s i j hij hjl h]
      exact ih i (j + 1) acc (by omega) (by omega) (by omega) (by omega)

theorem spec_l2Cut_ev (l : T) (s : UInt8) (hl : l.length ≤ 4294967296) : Ev (fun k => spec_l2Cut.f k (B l) (s.toNat : Int)) ((split s l).map B) := by
  have := spec_l2Cut_l0 l s hl l.length 0 0 [] (by omega) (by omega) (by omega) (by simp)
  rw [cutAcc_start] at this
  exact this

theorem impl_cut_l0 (l : T) (s : UInt8) (hl : l.length ≤ 4294967296) : ∀ (d i j : Nat) (acc : List ByteArray), l.length - j = d → i ≤ j → j ≤ l.length → acc.length ≤ j →
    Ev (fun k => impl_cut.l0 k (B l) (s.toNat : Int) acc (i : Int) (l.length : Int) (j : Int)) (acc ++ (cutAcc l s i j).map B) := by
  intro d
  induction d with
  | zero =>
    intro i j acc hd hij hj ha
    refine Ev.succ ?_
    obtain rfl : j = l.length := by omega
    have c1 : ¬ ((l.length : Int) < (l.length : Int)) := by omega
    have c2 : (0 : Int) ≤ (i : Int) := by omega
    have c3 : (i : Int) ≤ ((B l).size : Int) := by rw [size_B]; omega
    have c4 : acc.length < 8796093022208 := by omega
    simp only [impl_cut.l0, c1, if_false, c2, c3, c4, if_true]
    refine Ev.val ?_
    rw [cutAcc_end, List.map_singleton, extract_B, size_B, List.take_length, Int.toNat_natCast]
  | succ d ih =>
    intro i j acc hd hij hj ha
    refine Ev.succ ?_
    have hjl : j < l.length := by omega
    have c0 : (j : Int) < (l.length : Int) := by omega
    have c1 : (j : Int) < ((B l).size : Int) := by rw [size_B]; omega
    have c2 : (0 : Int) ≤ (j : Int) := by omega
    have e1 : wrap64 ((j : Int) + 1) = ((j + 1 : Nat) : Int) := by unfold wrap64; omega
    by_cases h : l[j] = s
    · have c3 := (eq_sign l j hjl s).2 h
      have c4 : (0 : Int) ≤ (i : Int) := by omega
      have c5 : (i : Int) ≤ (j : Int) := by omega
      have c6 : (j : Int) ≤ ((B l).size : Int) := by omega
      have c7 : acc.length < 8796093022208 := by omega
      simp only [impl_cut.l0, c0, c1, c2, c3, c4, c5, c6, c7, if_true, e1, extract_mid l i j hij]
      have := ih (j + 1) (j + 1) (acc ++ [B ((l.drop i).take (j - i))]) (by omega) (by omega) (by omega) (by simp; omega)
      rw [cutAcc_hit l s i j hjl h, List.map_cons]
      simpa using this
    · have c3 := (not_congr (eq_sign l j hjl s)).2 h
      simp only [impl_cut.l0, c0, c1, c2, c3, if_true, if_false, e1]
      rw [cutAcc_miss l s i j hij hjl h]
      exact ih i (j + 1) acc (by omega) (by omega) (by omega) (by omega)

theorem impl_cut_ev (l : T) (s : UInt8) (hl : l.length ≤ 4294967296) : Ev (fun k => impl_cut.f k (B l) (s.toNat : Int)) ((split s l).map B) := by
  have := impl_cut_l0 l s hl l.length 0 0 [] (by omega) (by omega) (by omega) (by simp)
  rw [cutAcc_start] at this
  simp only [impl_cut.f, size_B]
  exact this
end
/-! ParseInt: both programs' functions answer as Plain.pI. -/
open Plain Br
section
theorem snoc_ind {α : Type} {P : List α → Prop} (h0 : P []) (h1 : ∀ l c, P l → P (l ++ [c])) (l : List α) : P l := by
  rw [← l.reverse_reverse]
  induction l.reverse with
  | nil => exact h0
  | cons c r ih => rw [List.reverse_cons]; exact h1 _ _ ih
theorem dval_lt {c : UInt8} (hc : isDig c = true) : dval c < 10 := by
  unfold isDig at hc
  rw [Bool.and_eq_true] at hc
  have h1 := of_decide_eq_true hc.1
  have h2 := of_decide_eq_true hc.2
  unfold dval
  omega
theorem val_lt {l : T} (h : ∀ c ∈ l, isDig c = true) : val l < 10 ^ l.length := by
  induction l using snoc_ind with
  | h0 => simp [val]
  | h1 l c ih =>
    have hc := dval_lt (h c (by simp))
    have := ih (fun x hx => h x (by simp [hx]))
    rw [val_snoc, List.length_append, List.length_singleton, Nat.pow_succ]
    omega
theorem step64 (v d : Nat) (hv : v < 10000000000000) (hd : d < 10) : wrap64 (wrap64 (10 * (v : Int)) + (d : Int)) = ((v * 10 + d : Nat) : Int) := by unfold wrap64; omega
theorem step64' (v d : Nat) (hv : v < 10000000000000) (hd : d < 10) : wrap64 (wrap64 ((v : Int) * 10) + (d : Int)) = ((v * 10 + d : Nat) : Int) := by unfold wrap64; omega
theorem succ64 (j : Nat) (hj : j < 9223372036854775807) : wrap64 ((j : Int) + 1) = ((j + 1 : Nat) : Int) := by unfold wrap64; omega
theorem ten9 : (10 : Nat) ^ 9 = 1000000000 := rfl
theorem ten11 : (10 : Nat) ^ 11 = 100000000000 := rfl
theorem val_lt9 {l : T} (h : ∀ c ∈ l, isDig c = true) (hl : l.length ≤ 9) : val l < 1000000000 := by
  have h1 := val_lt h
  have h2 : 10 ^ l.length ≤ 10 ^ 9 := Nat.pow_le_pow_right (by omega) hl
  rw [ten9] at h2
  omega
theorem val_lt11 {l : T} (h : ∀ c ∈ l, isDig c = true) (hl : l.length ≤ 11) : val l < 100000000000 := by
  have h1 := val_lt h
  have h2 : 10 ^ l.length ≤ 10 ^ 11 := Nat.pow_le_pow_right (by omega) hl
  rw [ten11] at h2
  omega
def endI (l : T) (n : Int) : Int × Bool := if fmtI n = l then (n, true) else (0, false)
def sgn (b : Bool) (v : Nat) : Int := if b = true then -(v : Int) else v
theorem sgn_bd (b : Bool) (v : Nat) (h : v < 100000000000) : -100000000000 < sgn b v ∧ sgn b v < 100000000000 := by unfold sgn; split <;> omega
theorem sgn_bd9 (b : Bool) (v : Nat) (h : v < 1000000000) : -1000000000 < sgn b v ∧ sgn b v < 1000000000 := by unfold sgn; split <;> omega
theorem wneg (v : Nat) (h : v < 100000000000) : wrap64 (-(v : Int)) = -(v : Int) := by unfold wrap64; omega
theorem digs_dig (l : T) : ∀ c ∈ digs l, isDig c = true := by
  intro c hc; exact (List.mem_filter.1 hc).2
theorem digs_len (l : T) : (digs l).length ≤ l.length := List.length_filter_le _ _
def pIr (l : T) : Int × Bool := match pI l with
  | some n => (n, true)
  | none => (0, false)
theorem pIr_some {l : T} {n : Int} (h : fmtI n = l) (h1 : -1000000000 < n) (h2 : n < 1000000000) : pIr l = (n, true) := by
  unfold pIr
  rw [pI_some.2 ⟨h, h1, h2⟩]
theorem pIr_none {l : T} (h : ∀ n, fmtI n = l → -1000000000 < n → n < 1000000000 → False) : pIr l = (0, false) := by
  unfold pIr
  cases e : pI l with
  | none => rfl
  | some n =>
    obtain ⟨h1, h2, h3⟩ := pI_some.1 e
    exact (h n h1 h2 h3).elim
theorem pIr_cases (l : T) : (∃ n, pIr l = (n, true) ∧ fmtI n = l ∧ -1000000000 < n ∧ n < 1000000000) ∨ pIr l = (0, false) := by
  unfold pIr
  cases e : pI l with
  | none => exact .inr rfl
  | some n => exact .inl ⟨n, rfl, pI_some.1 e⟩
theorem dec_head (m : Nat) : (dec m).head? ≠ some 45 := by
  intro h
  exact absurd (dec_dig m 45 (List.mem_of_mem_head? h)) (by decide)
theorem fmtI_neg {n : Int} (h : n < 0) : fmtI n = 45 :: dec n.natAbs := by unfold fmtI; rw [if_pos h]
theorem fmtI_pos {n : Int} (h : ¬ n < 0) : fmtI n = dec n.natAbs := by unfold fmtI; rw [if_neg h, show n.toNat = n.natAbs by omega]

def body (l : T) : T := if l.head? = some 45 then l.tail else l
theorem body_len (l : T) : (body l).length < l.length ↔ l.head? = some 45 := by
  unfold body
  cases l with
  | nil => simp
  | cons a r =>
    by_cases h : a = 45
    · simp [h]
    · simp [h]
theorem body_le (l : T) : (body l).length ≤ l.length := by
  unfold body
  split
  · simp
  · exact Nat.le_refl _
theorem body_fmt (n : Int) : body (fmtI n) = dec n.natAbs := by
  unfold body
  by_cases h : n < 0
  · rw [fmtI_neg h]; rfl
  · rw [fmtI_pos h, if_neg (dec_head _)]
theorem sgn_fmt (n : Int) : sgn (decide ((body (fmtI n)).length < (fmtI n).length)) n.natAbs = n := by
  unfold sgn
  by_cases hn : n < 0
  · rw [if_pos (decide_eq_true ((body_len _).2 (by rw [fmtI_neg hn]; rfl)))]; omega
  · rw [if_neg (by rw [decide_eq_true_iff, body_len, fmtI_pos hn]; exact dec_head _)]; omega
theorem endI_eq {l : T} {n : Int} (h1 : -1000000000 < n) (h2 : n < 1000000000) (h : ∀ m, fmtI m = l → m = n) : pIr l = endI l n := by
  unfold endI
  by_cases e : fmtI n = l
  · rw [if_pos e]; exact pIr_some e h1 h2
  · rw [if_neg e]; exact pIr_none fun m em _ _ => e (h m em ▸ em)
theorem pIr_impl (l : T) : pIr l = if (body l).length < 1 ∨ 9 < (body l).length then (0, false) else if ∀ c ∈ body l, isDig c = true then
    endI l (sgn (decide ((body l).length < l.length)) (val (body l))) else (0, false) := by
  by_cases h : (body l).length < 1 ∨ 9 < (body l).length
  · rw [if_pos h]
    refine pIr_none fun n e h1 h2 => ?_
    rw [← e, body_fmt] at h
    have h3 := (dec_len n.natAbs 9 (by omega)).2 (by rw [ten9]; omega)
    have h4 := List.length_pos_iff.2 (dec_ne n.natAbs)
    omega
  · rw [if_neg h]
    by_cases hd : ∀ c ∈ body l, isDig c = true
    · rw [if_pos hd]
      have hv := sgn_bd9 (decide ((body l).length < l.length)) _ (val_lt9 hd (by omega))
      refine endI_eq hv.1 hv.2 fun m em => ?_
      subst em
      rw [body_fmt, val_dec, ← body_fmt, sgn_fmt]
    · rw [if_neg hd]
      refine pIr_none fun n e h1 h2 => hd ?_
      rw [← e, body_fmt]
      exact dec_dig _

theorem isDig_iff (c : UInt8) : isDig c = true ↔ 48 ≤ (c.toNat : Int) ∧ (c.toNat : Int) ≤ 57 := by
  unfold isDig
  rw [Bool.and_eq_true, decide_eq_true_iff, decide_eq_true_iff]
  omega
theorem val_take (l : T) (j : Nat) (hj : j < l.length) : val (l.take (j + 1)) = val (l.take j) * 10 + dval l[j] := by
  rw [List.take_succ_eq_append_getElem hj, val_snoc]
theorem dval_int (c : UInt8) (h : isDig c = true) : ((c.toNat : Int) - 48) % 256 = (dval c : Int) := by
  have := (isDig_iff c).1 h
  unfold dval
  omega
theorem take_dig {l : T} {j : Nat} (hj : j < l.length) (h : ∀ c ∈ l.take j, isDig c = true) (hc : isDig l[j] = true) : ∀ c ∈ l.take (j + 1), isDig c = true := by
  rw [List.take_succ_eq_append_getElem hj]
  intro c hm
  rcases List.mem_append.1 hm with hm | hm
  · exact h c hm
  · rw [List.mem_singleton] at hm; rw [hm]; exact hc

theorem impl_ParseInt_end (l ds : T) (hd : ds.length ≤ 9) (hall : ∀ c ∈ ds, isDig c = true) :
    Ev (fun k => impl_ParseInt.l0 k (B l) (B ds) (val ds : Int) (ds.length : Int) (ds.length : Int)) (endI l (sgn (decide (ds.length < l.length)) (val ds))) := by
  have hv := val_lt9 hall hd
  refine Ev.succ ?_
  have c1 : ¬ ((ds.length : Int) < (ds.length : Int)) := by omega
  by_cases hlt : ds.length < l.length
  · have c2 : ((B ds).size : Int) < ((B l).size : Int) := by rw [size_B, size_B]; omega
    have e1 := wneg (val ds) (by omega)
    have e2 : sgn (decide (ds.length < l.length)) (val ds) = -(val ds : Int) := by unfold sgn; rw [if_pos (decide_eq_true hlt)]
    simp only [impl_ParseInt.l0, c1, if_false, c2, if_true, e1, e2]
    refine Ev.then (impl_FormatInt_ev _ (by omega) (by omega)) ?_
    simp only [toList_B]
    unfold endI
    by_cases h3 : fmtI (-(val ds : Int)) = l
    · simp only [h3, if_true]; exact Ev.val rfl
    · simp only [h3, if_false]; exact Ev.val rfl
  · have c2 : ¬ (((B ds).size : Int) < ((B l).size : Int)) := by rw [size_B, size_B]; omega
    have e2 : sgn (decide (ds.length < l.length)) (val ds) = (val ds : Int) := by unfold sgn; rw [if_neg (by rw [decide_eq_true_iff]; exact hlt)]
    simp only [impl_ParseInt.l0, c1, if_false, c2, e2]
    refine Ev.then (impl_FormatInt_ev _ (by omega) (by omega)) ?_
    simp only [toList_B]
    unfold endI
    by_cases h3 : fmtI (val ds : Int) = l
    · simp only [h3, if_true]; exact Ev.val rfl
    · simp only [h3, if_false]; exact Ev.val rfl
theorem impl_ParseInt_l0 (l ds : T) (hds : ds.length ≤ 9) : ∀ (d j : Nat), ds.length - j = d → j ≤ ds.length → (∀ c ∈ ds.take j, isDig c = true) →
    Ev (fun k => impl_ParseInt.l0 k (B l) (B ds) (val (ds.take j) : Int) (ds.length : Int) (j : Int))
      (if ∀ c ∈ ds, isDig c = true then endI l (sgn (decide (ds.length < l.length)) (val ds)) else (0, false)) := by
  intro d
  induction d with
  | zero =>
    intro j hd hj hall
    obtain rfl : j = ds.length := by omega
    rw [List.take_length] at hall ⊢
    rw [if_pos hall]
    exact impl_ParseInt_end l ds hds hall
  | succ d ih =>
    intro j hd hj hall
    have hjl : j < ds.length := by omega
    refine Ev.succ ?_
    have c1 : (j : Int) < (ds.length : Int) := by omega
    have c2 : (0 : Int) ≤ (j : Int) := by omega
    have c3 : (j : Int) < ((B ds).size : Int) := by rw [size_B]; omega
    have e1 := succ64 j (by omega)
    by_cases hc : isDig ds[j] = true
    · have hr := (isDig_iff _).1 hc
      have c4 : ¬ (((ds[j].toNat : Nat) : Int) < 48) := by omega
      have c5 : ¬ (((ds[j].toNat : Nat) : Int) > 57) := by omega
      have e2 : wrap64 (wrap64 (10 * (val (ds.take j) : Int)) + (((ds[j].toNat : Nat) : Int) - 48) % 256) = (val (ds.take (j + 1)) : Int) := by
        rw [dval_int _ hc, val_take ds j hjl]
        have hv := val_lt9 hall (by rw [List.length_take]; omega)
        exact step64 _ _ (by omega) (dval_lt hc)
      simp only [impl_ParseInt.l0, c1, c2, c3, if_true, bt_nat ds j hjl, c4, c5, if_false, e1, e2]
      exact ih (j + 1) (by omega) (by omega) (take_dig hjl hall hc)
    · have hnot : ¬ ∀ c ∈ ds, isDig c = true := fun h => hc (h _ (List.getElem_mem _))
      rw [if_neg hnot]
      have hr := (not_congr (isDig_iff ds[j])).1 hc
      by_cases c4 : ((ds[j].toNat : Nat) : Int) < 48
      · simp only [impl_ParseInt.l0, c1, c2, c3, if_true, bt_nat ds j hjl, c4]
        exact Ev.val rfl
      · have c5 : ((ds[j].toNat : Nat) : Int) > 57 := by omega
        simp only [impl_ParseInt.l0, c1, c2, c3, if_true, bt_nat ds j hjl, c4, c5, if_false]
        exact Ev.val rfl

theorem impl_ParseInt_j1 (l ds : T) (h : ds = body l) : Ev (fun k => impl_ParseInt.j1 k (B l) (B ds)) (pIr l) := by
  subst h
  rw [pIr_impl]
  refine Ev.succ ?_
  by_cases h1 : (body l).length < 1
  · have c1 : ((B (body l)).size : Int) < 1 := by rw [size_B]; omega
    simp only [impl_ParseInt.j1, c1, if_true, h1, true_or]
    refine Ev.succ ?_
    simp only [impl_ParseInt.j2, if_true]
    exact Ev.val rfl
  · have c1 : ¬ (((B (body l)).size : Int) < 1) := by rw [size_B]; omega
    simp only [impl_ParseInt.j1, c1, if_false, h1, false_or]
    refine Ev.succ ?_
    by_cases h2 : 9 < (body l).length
    · have c2 : decide (((B (body l)).size : Int) > 9) = true := decide_eq_true (by rw [size_B]; omega)
      simp only [impl_ParseInt.j2, c2, if_true, h2]
      exact Ev.val rfl
    · have c2 : decide (((B (body l)).size : Int) > 9) = false := decide_eq_false (by rw [size_B]; omega)
      simp only [impl_ParseInt.j2, c2, Bool.false_eq_true, if_false, h2]
      simp only [size_B]
      have := impl_ParseInt_l0 l (body l) (by omega) (body l).length 0 (by omega) (by omega) (by simp)
      simpa [val] using this

theorem impl_ParseInt_ev (l : T) : Ev (fun k => impl_ParseInt.f k (B l)) (pIr l) := by
  unfold impl_ParseInt.f
  cases l with
  | nil =>
    have c1 : ¬ (((B []).size : Int) > 0) := by rw [size_B]; simp
    simp only [c1, if_false]
    refine Ev.succ ?_
    simp only [impl_ParseInt.j0, Bool.false_eq_true, if_false]
    exact impl_ParseInt_j1 [] [] rfl
  | cons a r =>
    have c1 : ((B (a :: r)).size : Int) > 0 := by rw [size_B]; simp only [List.length_cons]; omega
    have c2 : (0 : Int) < ((B (a :: r)).size : Int) := by omega
    have e0 : bt (B (a :: r)) 0 = (a.toNat : Int) := bt_nat (a :: r) 0 (by simp)
    simp only [c1, c2, if_true, e0]
    refine Ev.succ ?_
    by_cases h : a = 45
    · have c3 : ((a.toNat : Int) == 45) = true := by subst h; rfl
      have c4 : (1 : Int) ≤ ((B (a :: r)).size : Int) := by omega
      have e5 : (B (a :: r)).extract 1 (B (a :: r)).size = B (body (a :: r)) := by
        rw [extract_B, size_B, List.take_length]; subst h; rfl
      simp only [impl_ParseInt.j0, c3, if_true, c4, e5]
      exact impl_ParseInt_j1 (a :: r) _ rfl
    · have c3 : ((a.toNat : Int) == 45) = false := by
        rw [beq_eq_false_iff_ne]
        intro e
        exact h (UInt8.toNat_inj.1 (by have : (45 : UInt8).toNat = 45 := rfl; omega))
      simp only [impl_ParseInt.j0, c3, Bool.false_eq_true, if_false]
      exact impl_ParseInt_j1 (a :: r) _ (by unfold body; rw [if_neg (by simp [h])])

/-! ### the reference's ParseInt -/
def sI (l : T) : Int × Bool := if 9 < (digs (l.take 11)).length ∨ 10 < l.length then (0, false) else endI l (sgn (decide (l.head? = some 45)) (val (digs (l.take 11))))
theorem fmtI_len (n : Int) (h1 : -1000000000 < n) (h2 : n < 1000000000) : (fmtI n).length ≤ 10 := by
  have h3 := (dec_len n.natAbs 9 (by omega)).2 (by rw [ten9]; omega)
  by_cases h : n < 0
  · rw [fmtI_neg h, List.length_cons]; omega
  · rw [fmtI_pos h]; omega
theorem digs_fmt (n : Int) : digs (fmtI n) = dec n.natAbs := by
  by_cases h : n < 0
  · rw [fmtI_neg h]
    have : isDig 45 = false := by decide
    simp only [digs, List.filter_cons, this]
    exact digs_all (dec_dig _)
  · rw [fmtI_pos h]; exact digs_all (dec_dig _)
theorem sgn_head (n : Int) : sgn (decide ((fmtI n).head? = some 45)) n.natAbs = n := by
  unfold sgn
  by_cases hn : n < 0
  · rw [if_pos (decide_eq_true (by rw [fmtI_neg hn]; rfl))]; omega
  · rw [if_neg (by rw [decide_eq_true_iff, fmtI_pos hn]; exact dec_head _)]; omega
theorem pIr_spec (l : T) : pIr l = sI l := by
  unfold sI
  by_cases h : 9 < (digs (l.take 11)).length ∨ 10 < l.length
  · rw [if_pos h]
    refine pIr_none fun n e h1 h2 => ?_
    have hl := fmtI_len n h1 h2
    rw [e] at hl
    rw [List.take_of_length_le (by omega), ← e, digs_fmt] at h
    have h3 := (dec_len n.natAbs 9 (by omega)).2 (by rw [ten9]; omega)
    rw [e] at h
    omega
  · rw [if_neg h, List.take_of_length_le (by omega)]
    have e1 : l.take 11 = l := List.take_of_length_le (by omega)
    rw [e1] at h
    have hv := sgn_bd9 (decide (l.head? = some 45)) _ (val_lt9 (digs_dig l) (by omega))
    refine endI_eq hv.1 hv.2 fun m em => ?_
    subst em
    rw [digs_fmt, val_dec, sgn_head]

theorem digs_take (l : T) (j : Nat) (hj : j < l.length) : digs (l.take (j + 1)) = if isDig l[j] = true then digs (l.take j) ++ [l[j]] else digs (l.take j) := by
  rw [List.take_succ_eq_append_getElem hj]
  unfold digs
  rw [List.filter_append]
  split <;> rename_i h
  · simp [List.filter_cons, h]
  · simp [List.filter_cons, h]

theorem spec_ParseInt_j2 (l : T) (b : Bool) (hb : b = decide (l.head? = some 45)) : Ev (fun k => spec_ParseInt.j2 k (B l) (val (digs (l.take 11)) : Int) ((digs (l.take 11)).length : Int) b) (pIr l) := by
  rw [pIr_spec]
  have hv := val_lt11 (digs_dig (l.take 11)) (by have := digs_len (l.take 11); rw [List.length_take] at this; omega)
  refine Ev.succ ?_
  unfold sI
  by_cases h1 : 9 < (digs (l.take 11)).length
  · have c1 : ((digs (l.take 11)).length : Int) > 9 := by omega
    rw [if_pos (.inl h1)]
    cases b
    · simp only [spec_ParseInt.j2, c1, if_true, Bool.false_eq_true, if_false]; exact Ev.val rfl
    · simp only [spec_ParseInt.j2, c1, if_true]; exact Ev.val rfl
  · have c1 : ¬ (((digs (l.take 11)).length : Int) > 9) := by omega
    by_cases h2 : 10 < l.length
    · have c2 : ((B l).size : Int) > 10 := by rw [size_B]; omega
      rw [if_pos (.inr h2)]
      cases b
      · simp only [spec_ParseInt.j2, c1, c2, if_true, Bool.false_eq_true, if_false]; exact Ev.val rfl
      · simp only [spec_ParseInt.j2, c1, c2, if_true, if_false]; exact Ev.val rfl
    · have c2 : ¬ (((B l).size : Int) > 10) := by rw [size_B]; omega
      rw [if_neg (by omega), ← hb]
      unfold endI
      cases b with
      | true =>
        have e1 := wneg (val (digs (l.take 11))) (by omega)
        have e2 : sgn true (val (digs (l.take 11))) = -(val (digs (l.take 11)) : Int) := rfl
        simp only [spec_ParseInt.j2, c1, c2, if_true, if_false, e1, e2]
        refine Ev.then (spec_FormatInt_ev _ (by omega) (by omega)) ?_
        simp only [toList_B]
        by_cases h3 : fmtI (-(val (digs (l.take 11)) : Int)) = l
        · simp only [h3, if_true]; exact Ev.val rfl
        · simp only [h3, if_false]; exact Ev.val rfl
      | false =>
        have e2 : sgn false (val (digs (l.take 11))) = (val (digs (l.take 11)) : Int) := rfl
        simp only [spec_ParseInt.j2, c1, c2, if_false, Bool.false_eq_true, e2]
        refine Ev.then (spec_FormatInt_ev _ (by omega) (by omega)) ?_
        simp only [toList_B]
        by_cases h3 : fmtI (val (digs (l.take 11)) : Int) = l
        · simp only [h3, if_true]; exact Ev.val rfl
        · simp only [h3, if_false]; exact Ev.val rfl
theorem spec_ParseInt_end (l : T) (j : Nat) (hj : 11 ≤ j ∨ j = l.length) (hj2 : j ≤ 11) (hj3 : j ≤ l.length) (x14 : Bool) (hx : x14 = false) :
    Ev (fun k => spec_ParseInt.j1 k (B l) (val (digs (l.take j)) : Int) ((digs (l.take j)).length : Int) (j : Int) x14) (pIr l) := by
  have e : l.take j = l.take 11 := by
    rcases hj with h | h
    · rw [show j = 11 by omega]
    · subst h; rw [List.take_length, List.take_of_length_le (by omega)]
  rw [e]
  subst hx
  refine Ev.succ ?_
  have key := spec_ParseInt_j2 l
  cases l with
  | nil =>
    have c1 : ¬ (((B []).size : Int) > 0) := by rw [size_B]; simp
    simp only [spec_ParseInt.j1, Bool.false_eq_true, if_false, c1]
    exact key false rfl
  | cons a r =>
    have c1 : ((B (a :: r)).size : Int) > 0 := by rw [size_B]; simp only [List.length_cons]; omega
    have c2 : (0 : Int) < ((B (a :: r)).size : Int) := by omega
    have e0 : bt (B (a :: r)) 0 = (a.toNat : Int) := bt_nat (a :: r) 0 (by simp)
    simp only [spec_ParseInt.j1, Bool.false_eq_true, if_false, c1, c2, if_true, e0]
    refine key _ ?_
    by_cases h : a = 45
    · subst h; rfl
    · have c3 : ((a.toNat : Int) == 45) = false := by
        rw [beq_eq_false_iff_ne]
        intro e
        exact h (UInt8.toNat_inj.1 (by have : (45 : UInt8).toNat = 45 := rfl; omega))
      rw [c3]; simp [h]

theorem spec_ParseInt_l0 (l : T) : ∀ (d j : Nat), 11 - j = d → j ≤ 11 → j ≤ l.length →
    Ev (fun k => spec_ParseInt.l0 k (B l) (val (digs (l.take j)) : Int) ((digs (l.take j)).length : Int) (j : Int)) (pIr l) := by
  intro d
  induction d with
  | zero =>
    intro j hd h1 h2
    refine Ev.succ ?_
    by_cases h : j < l.length
    · have c1 : (j : Int) < ((B l).size : Int) := by rw [size_B]; omega
      simp only [spec_ParseInt.l0, c1, if_true]
      exact spec_ParseInt_end l j (.inl (by omega)) h1 h2 _ (decide_eq_false (by omega))
    · have c1 : ¬ ((j : Int) < ((B l).size : Int)) := by rw [size_B]; omega
      simp only [spec_ParseInt.l0, c1, if_false]
      exact spec_ParseInt_end l j (.inr (by omega)) h1 h2 _ rfl
  | succ d ih =>
    intro j hd h1 h2
    refine Ev.succ ?_
    by_cases h : j < l.length
    · have c1 : (j : Int) < ((B l).size : Int) := by rw [size_B]; omega
      have c2 : decide ((j : Int) < 11) = true := decide_eq_true (by omega)
      simp only [spec_ParseInt.l0, c1, if_true, c2]
      refine Ev.succ ?_
      have c3 : (0 : Int) ≤ (j : Int) := by omega
      have e1 := succ64 j (by omega)
      have hl := digs_len (l.take j)
      rw [List.length_take] at hl
      have hv := val_lt11 (digs_dig (l.take j)) (by omega)
      by_cases hc : isDig l[j] = true
      · have hr := (isDig_iff _).1 hc
        have c4 : ((l[j].toNat : Nat) : Int) ≥ 48 := by omega
        have c5 : ((l[j].toNat : Nat) : Int) ≤ 57 := by omega
        have e2 : wrap64 (wrap64 ((val (digs (l.take j)) : Int) * 10) + (((l[j].toNat : Nat) : Int) - 48) % 256) = (val (digs (l.take (j + 1))) : Int) := by
          rw [dval_int _ hc, digs_take l j h, if_pos hc, val_snoc]
          exact step64' _ _ (by omega) (dval_lt hc)
        have e3 : wrap64 (((digs (l.take j)).length : Int) + 1) = ((digs (l.take (j + 1))).length : Int) := by
          rw [digs_take l j h, if_pos hc, List.length_append, List.length_singleton]
          exact succ64 _ (by omega)
        simp only [spec_ParseInt.j1, if_true, c3, c1, bt_nat l j h, c4, c5, e1, e2, e3]
        exact ih (j + 1) (by omega) (by omega) (by omega)
      · have e2 : digs (l.take (j + 1)) = digs (l.take j) := by rw [digs_take l j h, if_neg hc]
        have := ih (j + 1) (by omega) (by omega) (by omega)
        rw [e2] at this
        have hr := (not_congr (isDig_iff l[j])).1 hc
        by_cases c4 : ((l[j].toNat : Nat) : Int) ≥ 48
        · have c5 : ¬ (((l[j].toNat : Nat) : Int) ≤ 57) := by omega
          simp only [spec_ParseInt.j1, if_true, c3, c1, bt_nat l j h, c4, c5, if_false, e1]
          exact this
        · simp only [spec_ParseInt.j1, if_true, c3, c1, bt_nat l j h, c4, if_false, e1]
          exact this
    · have c1 : ¬ ((j : Int) < ((B l).size : Int)) := by rw [size_B]; omega
      simp only [spec_ParseInt.l0, c1, if_false]
      exact spec_ParseInt_end l j (.inr (by omega)) h1 h2 _ rfl

theorem spec_ParseInt_ev (l : T) : Ev (fun k => spec_ParseInt.f k (B l)) (pIr l) := by
  have := spec_ParseInt_l0 l 11 0 (by omega) (by omega) (by omega)
  simpa [spec_ParseInt.f, val, digs] using this
end
/-! Rows: validity, FormatRow(s), ParseRow(s). -/
open Plain Br
section
abbrev Row := S114
theorem rd_row (xs : List Row) (j : Nat) (h : j < xs.length) : rd_T114 xs (j : Int) = xs[j] := by
  unfold rd_T114
  rw [Int.toNat_natCast, List.getD_eq_getElem?_getD, List.getElem?_eq_getElem h]
  rfl
theorem litL (l : List UInt8) : (⟨l.toArray⟩ : ByteArray) = B l := rfl
def vRow (r : Row) : Bool := decide (0 ≤ r.f0) && decide (r.f0 ≤ 9) && (decide (0 ≤ r.f1) && decide (r.f1 ≤ 99)) && (decide (0 ≤ r.f2) && decide (r.f2 ≤ 3))
theorem vRow_iff (r : Row) : vRow r = true ↔ (0 ≤ r.f0 ∧ r.f0 ≤ 9) ∧ (0 ≤ r.f1 ∧ r.f1 ≤ 99) ∧ 0 ≤ r.f2 ∧ r.f2 ≤ 3 := by
  unfold vRow
  simp only [Bool.and_eq_true, decide_eq_true_iff]
  constructor
  · rintro ⟨⟨⟨a, b⟩, c, d⟩, e, f⟩; exact ⟨⟨a, b⟩, ⟨c, d⟩, e, f⟩
  · rintro ⟨⟨a, b⟩, ⟨c, d⟩, e, f⟩; exact ⟨⟨⟨a, b⟩, c, d⟩, e, f⟩
def vRows (l : List Row) : Bool := decide (l.length ≤ 24) && l.all vRow
theorem vRows_iff (l : List Row) : vRows l = true ↔ l.length ≤ 24 ∧ ∀ r ∈ l, vRow r = true := by
  unfold vRows
  rw [Bool.and_eq_true, decide_eq_true_iff, List.all_eq_true]

theorem within_eq (a b c : Int) : impl_within.f a b c = some (decide (b ≤ a) && decide (a ≤ c)) := by
  unfold impl_within.f
  by_cases h : a ≥ b
  · rw [if_pos h, decide_eq_true (show b ≤ a from h), Bool.true_and]
  · rw [if_neg h, decide_eq_false (show ¬ b ≤ a from h), Bool.false_and]
theorem l1In_eq (a b c : Int) : spec_l1In.f a b c = some (decide (b ≤ a) && decide (a ≤ c)) := by
  unfold spec_l1In.f
  by_cases h : a ≥ b
  · rw [if_pos h, decide_eq_true (show b ≤ a from h), Bool.true_and]
  · rw [if_neg h, decide_eq_false (show ¬ b ≤ a from h), Bool.false_and]
theorem impl_IsValidRow_eq (x y z : Int) : impl_IsValidRow.f x y z = some (vRow ⟨x, y, z⟩) := by
  unfold impl_IsValidRow.f vRow
  simp only [within_eq, Option.bind_some]
  cases (decide (0 ≤ x) && decide (x ≤ 9)) <;> simp only [if_true, Bool.false_eq_true, if_false, Bool.true_and, Bool.false_and]
  cases (decide (0 ≤ y) && decide (y ≤ 99)) <;> simp only [if_true, Bool.false_eq_true, if_false, Bool.true_and, Bool.false_and]
theorem spec_IsValidRow_eq (x y z : Int) : spec_IsValidRow.f x y z = some (vRow ⟨x, y, z⟩) := by
  unfold spec_IsValidRow.f vRow
  simp only [l1In_eq, Option.bind_some]
  cases (decide (0 ≤ x) && decide (x ≤ 9)) <;> simp only [if_true, Bool.false_eq_true, if_false, Bool.true_and, Bool.false_and]
  cases (decide (0 ≤ y) && decide (y ≤ 99)) <;> simp only [if_true, Bool.false_eq_true, if_false, Bool.true_and, Bool.false_and]

theorem all_drop (xs : List Row) (j : Nat) (h : j < xs.length) : (xs.drop j).all vRow = (vRow xs[j] && (xs.drop (j + 1)).all vRow) := by
  rw [List.drop_eq_getElem_cons h, List.all_cons]
theorem impl_allValid_l0 (xs : List Row) (hl : xs.length ≤ 9223372036854775800) : ∀ (d j : Nat), xs.length - j = d → j ≤ xs.length →
    Ev (fun k => impl_allValid.l0 k xs (xs.length : Int) (j : Int)) ((xs.drop j).all vRow) := by
  intro d
  induction d with
  | zero =>
    intro j hd hj
    obtain rfl : j = xs.length := by omega
    refine Ev.succ ?_
    have c1 : ¬ ((xs.length : Int) < (xs.length : Int)) := by omega
    simp only [impl_allValid.l0, c1, if_false, List.drop_length, List.all_nil]
    exact Ev.val rfl
  | succ d ih =>
    intro j hd hj
    have h : j < xs.length := by omega
    refine Ev.succ ?_
    have c1 : (j : Int) < (xs.length : Int) := by omega
    have c2 : (0 : Int) ≤ (j : Int) := by omega
    simp only [impl_allValid.l0, c1, c2, if_true, rd_row xs j h, impl_IsValidRow_eq, Option.bind_some, succ64 j (by omega), all_drop xs j h]
    cases e : vRow xs[j]
    · simp only [Bool.false_eq_true, if_false, Bool.false_and]; exact Ev.val rfl
    · simp only [if_true, Bool.true_and]; exact ih (j + 1) (by omega) (by omega)
theorem impl_allValid_ev (xs : List Row) (hl : xs.length ≤ 9223372036854775800) : Ev (fun k => impl_allValid.f k xs) (xs.all vRow) := by
  have := impl_allValid_l0 xs hl xs.length 0 (by omega) (by omega)
  simpa [impl_allValid.f] using this
theorem impl_AreValidRows_ev (xs : List Row) : Ev (fun k => impl_AreValidRows.f k xs) (vRows xs) := by
  unfold impl_AreValidRows.f vRows
  by_cases h : xs.length ≤ 24
  · have c1 : (xs.length : Int) ≤ 24 := by omega
    simp only [c1, if_true, h, decide_true, Bool.true_and]
    exact Ev.one (impl_allValid_ev xs (by omega))
  · have c1 : ¬ ((xs.length : Int) ≤ 24) := by omega
    simp only [c1, if_false, h, decide_false, Bool.false_and]
    exact Ev.val rfl
theorem spec_AreValidRows_l0 (xs : List Row) (hl : xs.length ≤ 9223372036854775800) : ∀ (d j : Nat), xs.length - j = d → j ≤ xs.length →
    Ev (fun k => spec_AreValidRows.l0 k xs (j : Int)) (decide (xs.length ≤ 24) && (xs.drop j).all vRow) := by
  intro d
  induction d with
  | zero =>
    intro j hd hj
    obtain rfl : j = xs.length := by omega
    refine Ev.succ ?_
    have c1 : ¬ ((xs.length : Int) < (xs.length : Int)) := by omega
    simp only [spec_AreValidRows.l0, c1, if_false, List.drop_length, List.all_nil, Bool.and_true]
    refine Ev.val (by rw [decide_eq_decide]; omega)
  | succ d ih =>
    intro j hd hj
    have h : j < xs.length := by omega
    refine Ev.succ ?_
    have c1 : (j : Int) < (xs.length : Int) := by omega
    have c2 : (0 : Int) ≤ (j : Int) := by omega
    simp only [spec_AreValidRows.l0, c1, c2, if_true, rd_row xs j h, spec_IsValidRow_eq, Option.bind_some, succ64 j (by omega), all_drop xs j h]
    cases e : vRow xs[j]
    · simp only [Bool.false_eq_true, if_false, Bool.false_and, Bool.and_false]; exact Ev.val rfl
    · simp only [if_true, Bool.true_and]; exact ih (j + 1) (by omega) (by omega)
theorem spec_AreValidRows_ev (xs : List Row) (hl : xs.length ≤ 9223372036854775800) : Ev (fun k => spec_AreValidRows.f k xs) (vRows xs) := by
  have := spec_AreValidRows_l0 xs hl xs.length 0 (by omega) (by omega)
  simpa [spec_AreValidRows.f, vRows] using this

/-! ### a row's text -/
def fRowV (r : Row) : T := fmtI r.f0 ++ [46] ++ fmtI r.f1 ++ [46] ++ fmtI r.f2
def fRow (r : Row) : T := if vRow r = true then fRowV r else []
theorem fRow_len (r : Row) : (fRow r).length ≤ 32 := by
  unfold fRow
  split
  · rename_i h
    have h := (vRow_iff r).1 h
    have h1 := fmtI_len r.f0 (by omega) (by omega)
    have h2 := fmtI_len r.f1 (by omega) (by omega)
    have h3 := fmtI_len r.f2 (by omega) (by omega)
    unfold fRowV
    simp only [List.length_append, List.length_singleton]
    omega
  · simp
theorem spec_FormatRow_ev (x y z : Int) : Ev (fun k => spec_FormatRow.f k x y z) (B (fRow ⟨x, y, z⟩)) := by
  unfold spec_FormatRow.f fRow
  simp only [spec_IsValidRow_eq, Option.bind_some]
  cases e : vRow ⟨x, y, z⟩
  · simp only [Bool.false_eq_true, if_false]; exact Ev.val rfl
  · have h := (vRow_iff _).1 e
    dsimp only at h
    have h1 := fmtI_len x (by omega) (by omega)
    have h2 := fmtI_len y (by omega) (by omega)
    have h3 := fmtI_len z (by omega) (by omega)
    simp only [if_true]
    refine Ev.then (spec_FormatInt_ev x (by omega) (by omega)) ?_
    have c1 : (B (fmtI x)).size + 1 ≤ 9223372036854775807 := by rw [size_B]; omega
    simp only [c1, if_true, litL, B_append]
    refine Ev.then (spec_FormatInt_ev y (by omega) (by omega)) ?_
    have c2 : (B (fmtI x ++ [46])).size + (B (fmtI y)).size ≤ 9223372036854775807 := by rw [size_B, size_B]; simp only [List.length_append, List.length_singleton]; omega
    have c3 : (B (fmtI x ++ [46] ++ fmtI y)).size + 1 ≤ 9223372036854775807 := by rw [size_B]; simp only [List.length_append, List.length_singleton]; omega
    simp only [c2, c3, if_true, B_append]
    refine Ev.then (spec_FormatInt_ev z (by omega) (by omega)) ?_
    have c4 : (B (fmtI x ++ [46] ++ fmtI y ++ [46])).size + (B (fmtI z)).size ≤ 9223372036854775807 := by rw [size_B, size_B]; simp only [List.length_append, List.length_singleton]; omega
    simp only [c4, if_true, B_append]
    exact Ev.val rfl

/-! ### a row out of its text -/
def pRow (s : T) : Option Row := match split 46 s with
  | [a, b, c] => match pI a, pI b, pI c with
    | some x, some y, some z => if vRow ⟨x, y, z⟩ = true then some ⟨x, y, z⟩ else none
    | _, _, _ => none
  | _ => none
theorem numFree {n : Int} {s : UInt8} (h : numSign s = false) : s ∉ fmtI n := by
  intro hm
  rw [fmtI_signs n s hm] at h
  cases h
theorem fRowV_join (r : Row) : fRowV r = join [46] [fmtI r.f0, fmtI r.f1, fmtI r.f2] := by simp [fRowV, join]
theorem split_fRow (r : Row) : split 46 (fRowV r) = [fmtI r.f0, fmtI r.f1, fmtI r.f2] := by
  rw [fRowV_join]
  refine split_join 46 (by simp) ?_
  intro a ha
  simp only [List.mem_cons, List.not_mem_nil, or_false] at ha
  rcases ha with rfl | rfl | rfl <;> exact numFree (by decide)
theorem pRow_some {s : T} {r : Row} : pRow s = some r ↔ vRow r = true ∧ fRow r = s := by
  constructor
  · intro h
    unfold pRow at h
    split at h
    · rename_i a b c hs
      split at h
      · rename_i x y z hx hy hz
        split at h
        · rename_i hv
          injection h with h
          subst h
          refine ⟨hv, ?_⟩
          unfold fRow
          rw [if_pos hv, fRowV_join]
          show join [46] [fmtI x, fmtI y, fmtI z] = s
          rw [(pI_some.1 hx).1, (pI_some.1 hy).1, (pI_some.1 hz).1, ← hs, join_split]
        · cases h
      · cases h
    · cases h
  · rintro ⟨hv, rfl⟩
    unfold fRow
    rw [if_pos hv]
    unfold pRow
    rw [split_fRow]
    have h := (vRow_iff r).1 hv
    have e0 : pI (fmtI r.f0) = some r.f0 := pI_some.2 ⟨rfl, by omega, by omega⟩
    have e1 : pI (fmtI r.f1) = some r.f1 := pI_some.2 ⟨rfl, by omega, by omega⟩
    have e2 : pI (fmtI r.f2) = some r.f2 := pI_some.2 ⟨rfl, by omega, by omega⟩
    simp only [e0, e1, e2]
    rw [if_pos (by cases r; exact hv)]
def rRow : Option Row → Int × Int × Int × Bool
  | some r => (r.f0, r.f1, r.f2, true)
  | none => (0, 0, 0, false)
theorem three (ls : List T) (h : ls.length = 3) : ∃ a b c, ls = [a, b, c] := by
  match ls, h with
  | [a, b, c], _ => exact ⟨a, b, c, rfl⟩
theorem impl_ParseRow_ev (s : T) (hl : s.length ≤ 4294967296) : Ev (fun k => impl_ParseRow.f k (B s)) (rRow (pRow s)) := by
  unfold impl_ParseRow.f
  refine Ev.then (impl_cut_ev s 46 hl) ?_
  by_cases h : (split 46 s).length = 3
  · obtain ⟨a, b, c, e⟩ := three _ h
    rw [e]
    have c0 : (((([a, b, c] : List T).map B).length : Nat) : Int) = 3 := rfl
    simp only [c0, if_true, show (0 : Int) < 3 from by decide, show (1 : Int) < 3 from by decide, show (2 : Int) < 3 from by decide]
    refine Ev.then (impl_ParseInt_ev a) ?_
    refine Ev.then (impl_ParseInt_ev b) ?_
    refine Ev.then (impl_ParseInt_ev c) ?_
    unfold pRow
    rw [e]
    simp only []
    rcases pIr_cases a with ⟨x, h1, h2, h3, h4⟩ | h1
    · have e1 := pI_some.2 ⟨h2, h3, h4⟩
      rcases pIr_cases b with ⟨y, g1, g2, g3, g4⟩ | g1
      · have e2 := pI_some.2 ⟨g2, g3, g4⟩
        rcases pIr_cases c with ⟨z, f1, f2, f3, f4⟩ | f1
        · have e3 := pI_some.2 ⟨f2, f3, f4⟩
          simp only [h1, g1, f1, e1, e2, e3, if_true, impl_IsValidRow_eq, Option.bind_some]
          cases hv : vRow ⟨x, y, z⟩
          · simp only [Bool.false_eq_true, if_false]; exact Ev.val rfl
          · simp only [if_true]; exact Ev.val rfl
        · have e3 : pI c = none := by
            cases q : pI c with
            | none => rfl
            | some n => unfold pIr at f1; rw [q] at f1; cases f1
          simp only [h1, g1, f1, e1, e2, e3, if_true, Bool.false_eq_true, if_false]; exact Ev.val rfl
      · have e2 : pI b = none := by
          cases q : pI b with
          | none => rfl
          | some n => unfold pIr at g1; rw [q] at g1; cases g1
        simp only [h1, g1, e1, e2, if_true, Bool.false_eq_true, if_false]; exact Ev.val rfl
    · have e1 : pI a = none := by
        cases q : pI a with
        | none => rfl
        | some n => unfold pIr at h1; rw [q] at h1; cases h1
      simp only [h1, e1, Bool.false_eq_true, if_false]; exact Ev.val rfl
  · have c0 : ¬ (((((split 46 s).map B).length : Nat) : Int) = 3) := by rw [List.length_map]; omega
    simp only [c0, if_false]
    refine Ev.val ?_
    unfold pRow
    split
    · rename_i e; rw [e] at h; simp at h
    · rfl
theorem pIr_fst (l : T) {n : Int} (h : fmtI n = l) (h1 : -1000000000 < n) (h2 : n < 1000000000) : (pIr l).1 = n := by rw [pIr_some h h1 h2]
theorem pIr_bd (l : T) : -1000000000 < (pIr l).1 ∧ (pIr l).1 < 1000000000 := by
  rcases pIr_cases l with ⟨n, h, _, h1, h2⟩ | h
  · rw [h]; exact ⟨h1, h2⟩
  · rw [h]; decide
theorem spec_ParseRow_ev (s : T) (hl : s.length ≤ 4294967296) : Ev (fun k => spec_ParseRow.f k (B s)) (rRow (pRow s)) := by
  unfold spec_ParseRow.f
  refine Ev.then (spec_l2Cut_ev s 46 hl) ?_
  by_cases h : (split 46 s).length = 3
  · obtain ⟨a, b, c, e⟩ := three _ h
    have c0 : ((((split 46 s).map B).length : Nat) : Int) = 3 := by rw [e]; rfl
    have r0 : rdOf ByteArray.empty ((split 46 s).map B) 0 = B a := by rw [e]; rfl
    have r1 : rdOf ByteArray.empty ((split 46 s).map B) 1 = B b := by rw [e]; rfl
    have r2 : rdOf ByteArray.empty ((split 46 s).map B) 2 = B c := by rw [e]; rfl
    simp only [c0, if_true, show (0 : Int) < 3 from by decide, show (1 : Int) < 3 from by decide, show (2 : Int) < 3 from by decide, r0, r1, r2]
    refine Ev.then (spec_ParseInt_ev a) ?_
    refine Ev.then (spec_ParseInt_ev b) ?_
    refine Ev.then (spec_ParseInt_ev c) ?_
    refine Ev.then (spec_FormatRow_ev _ _ _) ?_
    simp only [toList_B]
    obtain ⟨r, hr⟩ : ∃ r : Row, r = ⟨(pIr a).1, (pIr b).1, (pIr c).1⟩ := ⟨_, rfl⟩
    rw [← hr]
    by_cases hf : fRow r = s
    · have hv : vRow r = true := by
        cases q : vRow r with
        | true => rfl
        | false =>
          unfold fRow at hf
          rw [q] at hf
          simp only [Bool.false_eq_true, if_false] at hf
          rw [← hf] at h
          simp [split] at h
      rw [pRow_some.2 ⟨hv, hf⟩]
      simp only [hf, if_true]
      exact Ev.val (by rw [hr]; rfl)
    · simp only [hf, if_false]
      refine Ev.val ?_
      cases q : pRow s with
      | none => rfl
      | some r' =>
        obtain ⟨hv, hf'⟩ := pRow_some.1 q
        exfalso
        apply hf
        rw [← hf']
        have hf2 : fRow r' = fRowV r' := by unfold fRow; rw [if_pos hv]
        have e' := split_fRow r'
        rw [← hf2, hf', e] at e'
        injection e' with ea e'
        injection e' with eb e'
        injection e' with ec _
        have hb := (vRow_iff r').1 hv
        rw [hr, pIr_fst a ea.symm (by omega) (by omega), pIr_fst b eb.symm (by omega) (by omega), pIr_fst c ec.symm (by omega) (by omega)]
  · have c0 : ¬ (((((split 46 s).map B).length : Nat) : Int) = 3) := by rw [List.length_map]; omega
    simp only [c0, if_false]
    refine Ev.val ?_
    unfold pRow
    split
    · rename_i e; rw [e] at h; simp at h
    · rfl
end
/-! joined, rowTexts, FormatRows, ParseRows. -/
open Plain Br
section
theorem join_len (s : T) (M : Nat) : ∀ ls : List T, (∀ a ∈ ls, a.length ≤ M) → (join s ls).length ≤ ls.length * (M + s.length)
  | [], _ => by simp [join]
  | [a], h => by have := h a (by simp); simp [join]; omega
  | a :: b :: r, h => by
    have h1 := h a (by simp)
    have h2 := join_len s M (b :: r) (fun x hx => h x (by simp at hx ⊢; right; exact hx))
    show (a ++ s ++ join s (b :: r)).length ≤ ((b :: r).length + 1) * (M + s.length)
    rw [List.length_append, List.length_append, Nat.add_mul]
    omega
theorem rdOf_B (ls : List T) (j : Nat) (h : j < ls.length) : rdOf ByteArray.empty (ls.map B) (j : Int) = B ls[j] := by
  unfold rdOf
  rw [Int.toNat_natCast, List.getD_eq_getElem?_getD, List.getElem?_map, List.getElem?_eq_getElem h]
  rfl
theorem join_take (s : T) (ls : List T) (j : Nat) (h : j < ls.length) : join s (ls.take (j + 1)) = if j = 0 then ls[j] else join s (ls.take j) ++ s ++ ls[j] := by
  rw [List.take_succ_eq_append_getElem h]
  split
  · rename_i h0
    subst h0
    rfl
  · rw [join_snoc s (by intro e; rw [List.take_eq_nil_iff] at e; rcases e with e | e; omega; rw [e] at h; simp at h)]
/-! ### rows' texts -/
def jRows (l : List Row) : T := join [32] (l.map fRow)
def fRows (l : List Row) : T := if vRows l = true then jRows l else []
theorem jRows_len (l : List Row) : (jRows l).length ≤ l.length * 33 := by
  have := join_len [32] 32 (l.map fRow) (fun a ha => by obtain ⟨r, _, rfl⟩ := List.mem_map.1 ha; exact fRow_len r)
  simpa [jRows] using this
theorem fRows_len (l : List Row) : (fRows l).length ≤ 800 := by
  unfold fRows
  split
  · rename_i h
    have := jRows_len l
    have := ((vRows_iff l).1 h).1
    omega
  · simp
theorem spec_FormatRows_l0 (xs : List Row) (hv : vRows xs = true) : ∀ (d j : Nat), xs.length - j = d → j ≤ xs.length →
    Ev (fun k => spec_FormatRows.l0 k xs (B (jRows (xs.take j))) (j : Int)) (B (jRows xs)) := by
  have hl := ((vRows_iff xs).1 hv).1
  intro d
  induction d with
  | zero =>
    intro j hd hj
    obtain rfl : j = xs.length := by omega
    refine Ev.succ ?_
    have c1 : ¬ ((xs.length : Int) < (xs.length : Int)) := by omega
    simp only [spec_FormatRows.l0, c1, if_false, List.take_length]
    refine Ev.succ ?_
    simp only [spec_FormatRows.j1, Bool.false_eq_true, if_false]
    exact Ev.val rfl
  | succ d ih =>
    intro j hd hj
    have h : j < xs.length := by omega
    refine Ev.succ ?_
    have c1 : (j : Int) < (xs.length : Int) := by omega
    have c2 : (0 : Int) ≤ (j : Int) := by omega
    simp only [spec_FormatRows.l0, c1, if_true]
    refine Ev.then (spec_AreValidRows_ev xs (by omega)) ?_
    refine Ev.succ ?_
    have hlen := jRows_len (xs.take j)
    rw [List.length_take] at hlen
    have hrow := fRow_len xs[j]
    have := ih (j + 1) (by omega) (by omega)
    unfold jRows at this
    rw [List.map_take, join_take [32] (xs.map fRow) j (by simpa using h), List.getElem_map, ← List.map_take] at this
    by_cases h0 : j = 0
    · subst h0
      have c3 : ¬ (((0 : Nat) : Int) > 0) := by omega
      simp only [spec_FormatRows.j1, hv, if_true, c3, if_false, c2, c1, rd_row xs 0 h]
      refine Ev.then (spec_FormatRow_ev _ _ _) ?_
      have c4 : (B (jRows (xs.take 0))).size + (B (fRow xs[0])).size ≤ 9223372036854775807 := by rw [size_B, size_B]; omega
      simp only [c4, if_true, B_append, succ64 0 (by omega)]
      simpa [jRows, join] using this
    · have c3 : ((j : Nat) : Int) > 0 := by omega
      have c4 : (B (jRows (xs.take j))).size + 1 ≤ 9223372036854775807 := by rw [size_B]; omega
      simp only [spec_FormatRows.j1, hv, if_true, c3, c4, c2, c1, rd_row xs j h, litL, B_append]
      refine Ev.then (spec_FormatRow_ev _ _ _) ?_
      have c5 : (B (jRows (xs.take j) ++ [32])).size + (B (fRow xs[j])).size ≤ 9223372036854775807 := by rw [size_B, size_B, List.length_append, List.length_singleton]; omega
      simp only [c5, if_true, B_append, succ64 j (by omega)]
      rw [if_neg h0] at this
      exact this
theorem spec_FormatRows_ev (xs : List Row) (hl : xs.length ≤ 9223372036854775800) : Ev (fun k => spec_FormatRows.f k xs) (B (fRows xs)) := by
  unfold spec_FormatRows.f fRows
  cases h : vRows xs
  · simp only [Bool.false_eq_true, if_false]
    refine Ev.succ ?_
    by_cases c : (0 : Int) < (xs.length : Int)
    · simp only [spec_FormatRows.l0, c, if_true]
      refine Ev.then (spec_AreValidRows_ev xs hl) ?_
      refine Ev.succ ?_
      simp only [spec_FormatRows.j1, h, Bool.false_eq_true, if_false]
      exact Ev.val rfl
    · simp only [spec_FormatRows.l0, c, if_false]
      refine Ev.succ ?_
      simp only [spec_FormatRows.j1, Bool.false_eq_true, if_false]
      exact Ev.val rfl
  · simp only [if_true]
    have := spec_FormatRows_l0 xs h xs.length 0 (by omega) (by omega)
    simpa [jRows, join, B_nil] using this

/-! ### rows out of their text -/
def pRowL : List T → Option (List Row)
  | [] => some []
  | a :: r => match pRow a with
    | none => none
    | some x => match pRowL r with
      | none => none
      | some xs => some (x :: xs)
theorem pRowL_some : ∀ {ls : List T} {l : List Row}, pRowL ls = some l ↔ (∀ r ∈ l, vRow r = true) ∧ l.map fRow = ls
  | [], l => by
    simp only [pRowL, Option.some.injEq]
    constructor
    · rintro rfl; simp
    · rintro ⟨_, h⟩; exact (List.map_eq_nil_iff.1 h).symm
  | a :: r, l => by
    unfold pRowL
    constructor
    · intro h
      cases e : pRow a with
      | none => rw [e] at h; cases h
      | some x =>
        rw [e] at h
        cases e2 : pRowL r with
        | none => rw [e2] at h; cases h
        | some xs =>
          rw [e2] at h
          injection h with h
          subst h
          obtain ⟨h1, h2⟩ := pRow_some.1 e
          obtain ⟨h3, h4⟩ := pRowL_some.1 e2
          refine ⟨?_, by rw [List.map_cons, h2, h4]⟩
          intro y hy
          rcases List.mem_cons.1 hy with rfl | hy
          · exact h1
          · exact h3 y hy
    · rintro ⟨h1, h2⟩
      cases l with
      | nil => cases h2
      | cons x xs =>
        rw [List.map_cons] at h2
        injection h2 with h2 h3
        rw [pRow_some.2 ⟨h1 x (by simp), h2⟩, pRowL_some.2 ⟨fun y hy => h1 y (by simp [hy]), h3⟩]
def pRows (s : T) : Option (List Row) := if s = [] then some [] else match pRowL (split 32 s) with
  | some l => if vRows l = true then some l else none
  | none => none
theorem fRow_free {r : Row} {s : UInt8} (h : numSign s = false) (h2 : s ≠ 46) : s ∉ fRow r := by
  unfold fRow
  split
  · unfold fRowV
    simp only [List.mem_append, List.mem_singleton, not_or]
    exact ⟨⟨⟨⟨numFree h, h2⟩, numFree h⟩, h2⟩, numFree h⟩
  · simp
theorem fRow_ne {r : Row} (h : vRow r = true) : fRow r ≠ [] := by
  unfold fRow
  rw [if_pos h]
  unfold fRowV
  simp
theorem join_free {s : T} {c : UInt8} (hs : c ∉ s) : ∀ {ls : List T}, (∀ a ∈ ls, c ∉ a) → c ∉ join s ls
  | [], _ => by simp [join]
  | [a], h => h a (by simp)
  | a :: b :: r, h => by
    show c ∉ a ++ s ++ join s (b :: r)
    simp only [List.mem_append, not_or]
    exact ⟨⟨h a (by simp), hs⟩, join_free hs (fun x hx => h x (by simp at hx ⊢; right; exact hx))⟩
theorem fRows_free {l : List Row} {c : UInt8} (h : numSign c = false) (h2 : c ≠ 46) (h3 : c ≠ 32) : c ∉ fRows l := by
  unfold fRows
  split
  · refine join_free (by simpa using h3) ?_
    intro a ha
    obtain ⟨r, _, rfl⟩ := List.mem_map.1 ha
    exact fRow_free h h2
  · simp
theorem split_jRows {l : List Row} (h : l ≠ []) : split 32 (jRows l) = l.map fRow := by
  refine split_join 32 (by simpa using h) ?_
  intro a ha
  obtain ⟨r, _, rfl⟩ := List.mem_map.1 ha
  exact fRow_free (by decide) (by decide)
theorem jRows_ne {l : List Row} (h : ∀ r ∈ l, vRow r = true) (hl : l ≠ []) : jRows l ≠ [] := by
  cases l with
  | nil => exact absurd rfl hl
  | cons r t =>
    have hr := fRow_ne (h r (by simp))
    unfold jRows
    rw [List.map_cons]
    cases t with
    | nil => exact hr
    | cons r2 t2 =>
      rw [List.map_cons]
      show fRow r ++ [32] ++ join [32] (fRow r2 :: t2.map fRow) ≠ []
      simp
theorem pRows_some {s : T} {l : List Row} : pRows s = some l ↔ vRows l = true ∧ fRows l = s := by
  unfold pRows
  constructor
  · intro h
    split at h
    · rename_i hs
      injection h with h
      subst h
      exact ⟨rfl, hs ▸ rfl⟩
    · rename_i hs
      cases e : pRowL (split 32 s) with
      | none => rw [e] at h; cases h
      | some l' =>
        rw [e] at h
        simp only at h
        split at h
        · rename_i hv
          injection h with h
          subst h
          refine ⟨hv, ?_⟩
          unfold fRows
          rw [if_pos hv]
          unfold jRows
          rw [(pRowL_some.1 e).2, join_split]
        · cases h
  · rintro ⟨hv, rfl⟩
    unfold fRows
    rw [if_pos hv]
    have hall := ((vRows_iff l).1 hv).2
    by_cases hl : l = []
    · subst hl
      rfl
    · rw [if_neg (jRows_ne hall hl), split_jRows hl, pRowL_some.2 ⟨hall, rfl⟩]
      simp only [hv, if_true]
def rRows : Option (List Row) → List Row × Bool
  | some l => (l, true)
  | none => ([], false)
def pRest (acc : List Row) (ls : List T) : Option (List Row) := match pRowL ls with
  | some xs => if vRows (acc ++ xs) = true then some (acc ++ xs) else none
  | none => none
theorem pRest_cons (acc : List Row) (ls : List T) (j : Nat) (h : j < ls.length) : pRest acc (ls.drop j) = match pRow ls[j] with
    | none => none
    | some x => pRest (acc ++ [x]) (ls.drop (j + 1)) := by
  unfold pRest
  rw [List.drop_eq_getElem_cons h, pRowL]
  cases pRow ls[j] with
  | none => rfl
  | some x =>
    cases pRowL (ls.drop (j + 1)) with
    | none => rfl
    | some xs => simp
theorem impl_ParseRows_l0 (ls : List T) (hl : ls.length ≤ 4294967297) (hs : ∀ a ∈ ls, a.length ≤ 4294967296) : ∀ (d j : Nat) (acc : List Row), ls.length - j = d → j ≤ ls.length → acc.length = j →
    Ev (fun k => impl_ParseRows.l0 k acc (ls.map B) (ls.length : Int) (j : Int)) (rRows (pRest acc (ls.drop j))) := by
  intro d
  induction d with
  | zero =>
    intro j acc hd hj ha
    obtain rfl : j = ls.length := by omega
    refine Ev.succ ?_
    have c1 : ¬ ((ls.length : Int) < (ls.length : Int)) := by omega
    simp only [impl_ParseRows.l0, c1, if_false, List.drop_length]
    refine Ev.then (impl_AreValidRows_ev acc) ?_
    unfold pRest
    simp only [pRowL, List.append_nil]
    cases vRows acc
    · simp only [Bool.false_eq_true, if_false]; exact Ev.val rfl
    · simp only [if_true]; exact Ev.val rfl
  | succ d ih =>
    intro j acc hd hj ha
    have h : j < ls.length := by omega
    refine Ev.succ ?_
    have c1 : (j : Int) < (ls.length : Int) := by omega
    have c2 : (0 : Int) ≤ (j : Int) := by omega
    have c3 : (j : Int) < ((ls.map B).length : Int) := by rw [List.length_map]; omega
    simp only [impl_ParseRows.l0, c1, c2, c3, if_true, rdOf_B ls j h]
    refine Ev.then (impl_ParseRow_ev _ (hs _ (List.getElem_mem _))) ?_
    rw [pRest_cons acc ls j h]
    cases pRow ls[j] with
    | none => simp only [rRow, Bool.false_eq_true, if_false]; exact Ev.val rfl
    | some x =>
      have c4 : acc.length < 5864062014805 := by omega
      simp only [rRow, if_true, c4, succ64 j (by omega)]
      exact ih (j + 1) (acc ++ [x]) (by omega) (by omega) (by simp; omega)
theorem split_len (c : UInt8) (s : T) : (split c s).length ≤ s.length + 1 := by
  induction s with
  | nil => simp [split]
  | cons a r ih =>
    unfold split
    split
    · simp; omega
    · cases e : split c r with
      | nil => exact absurd e (split_ne _ _)
      | cons h t => rw [e] at ih; simp at ih ⊢; omega
theorem split_part (c : UInt8) (s a : T) (h : a ∈ split c s) : a.length ≤ s.length := by
  induction s generalizing a with
  | nil => simp [split] at h; subst h; simp
  | cons x r ih =>
    unfold split at h
    obtain ⟨h0, t, e⟩ : ∃ h t, split c r = h :: t := by
      cases e : split c r with
      | nil => exact absurd e (split_ne c r)
      | cons h t => exact ⟨h, t, rfl⟩
    split at h
    · rcases List.mem_cons.1 h with rfl | h
      · simp
      · have := ih a h; simp; omega
    · rw [e] at h ih
      rcases List.mem_cons.1 h with rfl | h
      · have := ih h0 (List.mem_cons_self ..); simp; omega
      · have := ih a (List.mem_cons_of_mem _ h); simp; omega
theorem pRows_rest {s : T} (h : s ≠ []) : pRows s = pRest [] (split 32 s) := by
  unfold pRows pRest
  rw [if_neg h]
  cases pRowL (split 32 s) <;> rfl
theorem impl_ParseRows_ev (s : T) (hl : s.length ≤ 4294967296) : Ev (fun k => impl_ParseRows.f k (B s)) (rRows (pRows s)) := by
  unfold impl_ParseRows.f
  simp only [toList_B]
  by_cases h : s = []
  · subst h
    simp only [if_true]
    exact Ev.val rfl
  · simp only [h, if_false]
    refine Ev.then (impl_cut_ev s 32 hl) ?_
    simp only [List.length_map]
    rw [pRows_rest h]
    exact impl_ParseRows_l0 (split 32 s) (by have := split_len 32 s; omega) (fun a ha => by have := split_part 32 s a ha; omega) _ 0 [] rfl (by omega) rfl
theorem spec_ParseRows_l0 (s : T) (hne : s ≠ []) (ls : List T) (hl : ls.length ≤ 4294967297) (hs : ∀ a ∈ ls, a.length ≤ 4294967296) : ∀ (d j : Nat) (acc : List Row), ls.length - j = d → j ≤ ls.length → acc.length = j →
    Ev (fun k => spec_ParseRows.l0 k (B s) acc (ls.map B) (j : Int)) (rRows (pRest acc (ls.drop j))) := by
  have hb : ((B s).toList != ([] : List UInt8)) = true := by rw [toList_B]; simpa using hne
  intro d
  induction d with
  | zero =>
    intro j acc hd hj ha
    obtain rfl : j = ls.length := by omega
    refine Ev.succ ?_
    have c1 : ¬ ((ls.length : Int) < ((ls.map B).length : Int)) := by rw [List.length_map]; omega
    simp only [spec_ParseRows.l0, c1, if_false, List.drop_length]
    refine Ev.succ ?_
    simp only [spec_ParseRows.j1, Bool.false_eq_true, if_false]
    refine Ev.then (spec_AreValidRows_ev acc (by omega)) ?_
    unfold pRest
    simp only [pRowL, List.append_nil]
    cases vRows acc
    · simp only [Bool.false_eq_true, if_false]; exact Ev.val rfl
    · simp only [if_true]; exact Ev.val rfl
  | succ d ih =>
    intro j acc hd hj ha
    have h : j < ls.length := by omega
    refine Ev.succ ?_
    have c2 : (0 : Int) ≤ (j : Int) := by omega
    have c3 : (j : Int) < ((ls.map B).length : Int) := by rw [List.length_map]; omega
    simp only [spec_ParseRows.l0, c3, if_true, hb]
    refine Ev.succ ?_
    simp only [spec_ParseRows.j1, c3, c2, if_true, rdOf_B ls j h]
    refine Ev.then (spec_ParseRow_ev _ (hs _ (List.getElem_mem _))) ?_
    rw [pRest_cons acc ls j h]
    cases pRow ls[j] with
    | none => simp only [rRow, Bool.false_eq_true, if_false]; exact Ev.val rfl
    | some x =>
      have c4 : acc.length < 5864062014805 := by omega
      simp only [rRow, if_true, c4, succ64 j (by omega)]
      exact ih (j + 1) (acc ++ [x]) (by omega) (by omega) (by simp; omega)
theorem spec_ParseRows_ev (s : T) (hl : s.length ≤ 4294967296) : Ev (fun k => spec_ParseRows.f k (B s)) (rRows (pRows s)) := by
  unfold spec_ParseRows.f
  refine Ev.then (spec_l2Cut_ev s 32 hl) ?_
  by_cases h : s = []
  · subst h
    refine Ev.succ ?_
    have c1 : (0 : Int) < (((split 32 []).map B).length : Int) := by decide
    have hb : ((B []).toList != ([] : List UInt8)) = false := by rw [toList_B]; rfl
    simp only [spec_ParseRows.l0, c1, if_true, hb]
    refine Ev.succ ?_
    simp only [spec_ParseRows.j1, Bool.false_eq_true, if_false]
    refine Ev.then (spec_AreValidRows_ev [] (by simp)) ?_
    exact Ev.val rfl
  · rw [pRows_rest h]
    exact spec_ParseRows_l0 s h (split 32 s) (by have := split_len 32 s; omega) (fun a ha => by have := split_part 32 s a ha; omega) _ 0 [] rfl (by omega) rfl
end
/-! The laws' marks: what is written into a result is found there again; equal things are equal. -/
open Plain Br
section
def mkRows : Nat → Int → List Row
  | 0, _ => []
  | n + 1, m => ⟨m, m + 1, m + 2⟩ :: mkRows n (m + 3)
theorem mkRows_len : ∀ n m, (mkRows n m).length = n
  | 0, _ => rfl
  | n + 1, m => by rw [mkRows, List.length_cons, mkRows_len]
theorem mkRows_get : ∀ (n : Nat) (m : Int) (j : Nat) (h : j < (mkRows n m).length), (mkRows n m)[j] = ⟨m + 3 * j, m + 3 * j + 1, m + 3 * j + 2⟩
  | 0, _, j, h => by simp [mkRows] at h
  | n + 1, m, 0, _ => by simp [mkRows]
  | n + 1, m, j + 1, h => by
    have h' : j < (mkRows n (m + 3)).length := by rw [mkRows] at h; simpa using h
    have := mkRows_get n (m + 3) j h'
    show (mkRows n (m + 3))[j]'h' = _
    rw [this]
    have e : m + 3 + 3 * (j : Int) = m + 3 * ((j + 1 : Nat) : Int) := by omega
    rw [e]
theorem mkRows_snoc : ∀ (n : Nat) (m : Int), mkRows (n + 1) m = mkRows n m ++ [⟨m + 3 * n, m + 3 * n + 1, m + 3 * n + 2⟩]
  | 0, m => by simp [mkRows]
  | n + 1, m => by
    rw [mkRows, mkRows_snoc n (m + 3)]
    have e : m + 3 + 3 * (n : Int) = m + 3 * ((n + 1 : Nat) : Int) := by omega
    rw [e]
    rfl
theorem wr1 {x : Int} (h : -4611686018427387904 ≤ x) (h2 : x ≤ 4611686018427387904) : wrap64 (x + 1) = x + 1 := by unfold wrap64; omega
theorem set_mid {α : Type} (a : List α) (x y : α) (b : List α) (j : Nat) (h : a.length = j) : (a ++ x :: b).set j y = a ++ y :: b := by
  subst h; simp
theorem laws_markRowS_l0 (xs : List Row) (m0 : Int) (h0 : 0 ≤ m0) (hb : m0 + 3 * (xs.length : Int) ≤ 4611686018427387000) : ∀ (d j : Nat), xs.length - j = d → j ≤ xs.length →
    Ev (fun k => laws_markRowS.l0 k (mkRows j m0 ++ xs.drop j) (m0 + 3 * j) (j : Int)) (m0 + 3 * xs.length, mkRows xs.length m0) := by
  intro d
  induction d with
  | zero =>
    intro j hd hj
    obtain rfl : j = xs.length := by omega
    refine Ev.succ ?_
    have c1 : ¬ ((xs.length : Int) < ((mkRows xs.length m0 ++ xs.drop xs.length).length : Int)) := by rw [List.length_append, mkRows_len, List.drop_length]; simp
    simp only [laws_markRowS.l0, c1, if_false]
    refine Ev.val ?_
    rw [List.drop_length, List.append_nil]
  | succ d ih =>
    intro j hd hj
    have h : j < xs.length := by omega
    refine Ev.succ ?_
    have hlen : (mkRows j m0 ++ xs.drop j).length = xs.length := by rw [List.length_append, mkRows_len, List.length_drop]; omega
    have c1 : (j : Int) < ((mkRows j m0 ++ xs.drop j).length : Int) := by rw [hlen]; omega
    have c2 : (0 : Int) ≤ (j : Int) := by omega
    have e0 : mkRows j m0 ++ xs.drop j = mkRows j m0 ++ xs[j] :: xs.drop (j + 1) := by rw [List.drop_eq_getElem_cons h]
    have e1 := wr1 (x := m0 + 3 * (j : Int)) (by omega) (by omega)
    have e2 := wr1 (x := m0 + 3 * (j : Int) + 1) (by omega) (by omega)
    have e3 := wr1 (x := m0 + 3 * (j : Int) + 1 + 1) (by omega) (by omega)
    have rdj : ∀ y : Row, rd_T114 (mkRows j m0 ++ y :: xs.drop (j + 1)) (j : Int) = y := by
      intro y
      rw [rd_row _ j (by rw [List.length_append, mkRows_len]; simp)]
      rw [List.getElem_append_right (by rw [mkRows_len]; exact Nat.le_refl _)]
      simp [mkRows_len]
    simp only [laws_markRowS.l0, c1, c2, if_true, e1, e2, e3, Int.toNat_natCast, Option.bind_some, succ64 j (by omega)]
    simp only [e0, set_mid _ _ _ _ j (mkRows_len j m0), rdj]
    have := ih (j + 1) (by omega) (by omega)
    rw [mkRows_snoc, List.append_assoc] at this
    have e4 : m0 + 3 * (j : Int) + 1 + 1 + 1 = m0 + 3 * ((j + 1 : Nat) : Int) := by omega
    have e5 : m0 + 3 * (j : Int) + 1 + 1 = m0 + 3 * (j : Int) + 2 := by omega
    rw [e4, e5]
    exact this
theorem laws_markRowS_ev (xs : List Row) (m0 : Int) (h0 : 0 ≤ m0) (hb : m0 + 3 * (xs.length : Int) ≤ 4611686018427387000) : Ev (fun k => laws_markRowS.f k xs m0) (m0 + 3 * xs.length, mkRows xs.length m0) := by
  have := laws_markRowS_l0 xs m0 h0 hb xs.length 0 (by omega) (by omega)
  simpa [laws_markRowS.f, mkRows] using this
theorem laws_heldRowS_l0 (n : Nat) (m0 : Int) (h0 : 0 ≤ m0) (hb : m0 + 3 * (n : Int) ≤ 4611686018427387000) : ∀ (d j : Nat), n - j = d → j ≤ n →
    Ev (fun k => laws_heldRowS.l0 k (mkRows n m0) (m0 + 3 * j) (j : Int)) (m0 + 3 * n) := by
  intro d
  induction d with
  | zero =>
    intro j hd hj
    obtain rfl : j = n := by omega
    refine Ev.succ ?_
    have c1 : ¬ ((j : Int) < ((mkRows j m0).length : Int)) := by rw [mkRows_len]; omega
    simp only [laws_heldRowS.l0, c1, if_false]
    exact Ev.val rfl
  | succ d ih =>
    intro j hd hj
    have h : j < (mkRows n m0).length := by rw [mkRows_len]; omega
    refine Ev.succ ?_
    have c1 : (j : Int) < ((mkRows n m0).length : Int) := by omega
    have c2 : (0 : Int) ≤ (j : Int) := by omega
    have e1 := wr1 (x := m0 + 3 * (j : Int)) (by omega) (by omega)
    have e2 := wr1 (x := m0 + 3 * (j : Int) + 1) (by omega) (by omega)
    have e3 := wr1 (x := m0 + 3 * (j : Int) + 1 + 1) (by omega) (by omega)
    have e4 : m0 + 3 * (j : Int) + 1 + 1 + 1 = m0 + 3 * ((j + 1 : Nat) : Int) := by omega
    have e5 : m0 + 3 * (j : Int) + 2 = m0 + 3 * (j : Int) + 1 + 1 := by omega
    simp only [laws_heldRowS.l0, c1, c2, if_true, rd_row _ j h, mkRows_get n m0 j h, e1, e2, e3, e5, succ64 j (by omega)]
    rw [e4]
    exact ih (j + 1) (by omega) (by omega)
theorem laws_heldRowS_ev (n : Nat) (m0 : Int) (h0 : 0 ≤ m0) (hb : m0 + 3 * (n : Int) ≤ 4611686018427387000) : Ev (fun k => laws_heldRowS.f k (mkRows n m0) m0) (m0 + 3 * n) := by
  have := laws_heldRowS_l0 n m0 h0 hb n 0 (by omega) (by omega)
  simpa [laws_heldRowS.f] using this
def mkBools : Nat → Int → List Bool
  | 0, _ => []
  | n + 1, m => (Int.tmod m 3 == 0) :: mkBools n (m + 1)
theorem mkBools_len : ∀ n m, (mkBools n m).length = n
  | 0, _ => rfl
  | n + 1, m => by rw [mkBools, List.length_cons, mkBools_len]
theorem mkBools_get : ∀ (n : Nat) (m : Int) (j : Nat) (h : j < (mkBools n m).length), (mkBools n m)[j] = (Int.tmod (m + j) 3 == 0)
  | 0, _, j, h => by simp [mkBools] at h
  | n + 1, m, 0, _ => by simp [mkBools]
  | n + 1, m, j + 1, h => by
    have h' : j < (mkBools n (m + 1)).length := by rw [mkBools] at h; simpa using h
    have := mkBools_get n (m + 1) j h'
    show (mkBools n (m + 1))[j]'h' = _
    rw [this]
    have e : m + 1 + (j : Int) = m + ((j + 1 : Nat) : Int) := by omega
    rw [e]
theorem mkBools_snoc : ∀ (n : Nat) (m : Int), mkBools (n + 1) m = mkBools n m ++ [(Int.tmod (m + n) 3 == 0)]
  | 0, m => by simp [mkBools]
  | n + 1, m => by
    rw [mkBools, mkBools_snoc n (m + 1)]
    have e : m + 1 + (n : Int) = m + ((n + 1 : Nat) : Int) := by omega
    rw [e]
    rfl
theorem laws_eqRowS_l0 (xs : List Row) (hl : xs.length ≤ 4611686018427387000) : ∀ (d j : Nat), xs.length - j = d → j ≤ xs.length → Ev (fun k => laws_eqRowS.l0 k xs xs (j : Int)) true := by
  intro d
  induction d with
  | zero =>
    intro j hd hj
    obtain rfl : j = xs.length := by omega
    refine Ev.succ ?_
    have c1 : ¬ ((xs.length : Int) < (xs.length : Int)) := by omega
    simp only [laws_eqRowS.l0, c1, if_false]
    exact Ev.val rfl
  | succ d ih =>
    intro j hd hj
    have h : j < xs.length := by omega
    refine Ev.succ ?_
    have c1 : (j : Int) < (xs.length : Int) := by omega
    have c2 : (0 : Int) ≤ (j : Int) := by omega
    simp only [laws_eqRowS.l0, c1, c2, if_true, laws_eqRow.f, Option.bind_some, succ64 j (by omega)]
    exact ih (j + 1) (by omega) (by omega)
theorem laws_eqRowS_self (xs : List Row) (hl : xs.length ≤ 4611686018427387000) : Ev (fun k => laws_eqRowS.f k xs xs) true := by
  have := laws_eqRowS_l0 xs hl xs.length 0 (by omega) (by omega)
  simpa [laws_eqRowS.f] using this
end
/-! Aggregators: validity, FormatAggregator, ParseAggregator. -/
open Plain Br
section
abbrev GT := S79
theorem rd_gt (xs : List GT) (j : Nat) (h : j < xs.length) : rd_T79 xs (j : Int) = xs[j] := by
  unfold rd_T79
  rw [Int.toNat_natCast, List.getD_eq_getElem?_getD, List.getElem?_eq_getElem h]
  rfl
def gB (x a b : Int) : Bool := decide (a ≤ x) && decide (x ≤ b)
theorem gB_iff (x a b : Int) : gB x a b = true ↔ a ≤ x ∧ x ≤ b := by
  unfold gB; rw [Bool.and_eq_true, decide_eq_true_iff, decide_eq_true_iff]
def vGT (t : GT) : Bool := vRows t.f0 && gB t.f1 0 4
def sumLen (l : List GT) : Nat := (l.map fun t => t.f0.length).sum
def vAgg (l : List GT) (n : Int) : Bool := l.all vGT && (decide (sumLen l ≤ 24) && (decide (l.length ≤ 40) && gB n 0 100000))
theorem sumLen_take (l : List GT) (j : Nat) (h : j < l.length) : sumLen (l.take (j + 1)) = sumLen (l.take j) + l[j].f0.length := by
  unfold sumLen
  rw [List.take_succ_eq_append_getElem h, List.map_append, List.sum_append]
  simp only [List.map_cons, List.map_nil, List.sum_cons, List.sum_nil, Nat.add_zero]
theorem sumLen_le (l : List GT) (h : ∀ t ∈ l, t.f0.length ≤ 24) : sumLen l ≤ 24 * l.length := by
  induction l with
  | nil => simp [sumLen]
  | cons a r ih =>
    have := ih (fun t ht => h t (List.mem_cons_of_mem _ ht))
    have h2 := h a List.mem_cons_self
    unfold sumLen at *
    simp only [List.map_cons, List.sum_cons, List.length_cons]
    omega
theorem vAgg_bad {l : List GT} {n : Int} (j : Nat) (h : j < l.length) (hv : vGT l[j] = false) : vAgg l n = false := by
  have : l.all vGT = false := by
    rw [List.all_eq_false]
    exact ⟨l[j], List.getElem_mem h, by rw [hv]; simp⟩
  unfold vAgg
  rw [this, Bool.false_and]
theorem spec_IsValidAggregator_l0 (l : List GT) (n : Int) (e : Bool) (hl : l.length ≤ 100000000) (hr : ∀ t ∈ l, t.f0.length ≤ 24) : ∀ (d j : Nat), l.length - j = d → j ≤ l.length → (l.take j).all vGT = true →
    Ev (fun k => spec_IsValidAggregator.l0 k (sumLen (l.take j) : Int) (j : Int) l n e) (vAgg l n) := by
  intro d
  induction d with
  | zero =>
    intro j hd hj hv
    obtain rfl : j = l.length := by omega
    refine Ev.succ ?_
    rw [List.take_length] at hv ⊢
    have c1 : ¬ ((l.length : Int) < (l.length : Int)) := by omega
    simp only [spec_IsValidAggregator.l0, c1, if_false, l1In_eq, Option.bind_some]
    unfold vAgg
    rw [hv, Bool.true_and]
    by_cases h1 : sumLen l ≤ 24
    · have c2 : (sumLen l : Int) ≤ 24 := by omega
      by_cases h2 : l.length ≤ 40
      · have c3 : (l.length : Int) ≤ 40 := by omega
        simp only [c2, c3, h1, h2, if_true, decide_true, Bool.true_and]
        exact Ev.val rfl
      · have c3 : ¬ ((l.length : Int) ≤ 40) := by omega
        simp only [c2, c3, h1, h2, if_true, if_false, decide_true, decide_false, Bool.true_and, Bool.false_and]
        exact Ev.val rfl
    · have c2 : ¬ ((sumLen l : Int) ≤ 24) := by omega
      simp only [c2, h1, if_false, decide_false, Bool.false_and]
      exact Ev.val rfl
  | succ d ih =>
    intro j hd hj hv
    have h : j < l.length := by omega
    have hm : l[j] ∈ l := List.getElem_mem h
    refine Ev.succ ?_
    have c1 : (j : Int) < (l.length : Int) := by omega
    have c2 : (0 : Int) ≤ (j : Int) := by omega
    have hs := sumLen_le (l.take j) (fun t ht => hr t (List.mem_of_mem_take ht))
    have hs2 : (l.take j).length ≤ l.length := by rw [List.length_take]; omega
    have h24 := hr _ hm
    have e1 : wrap64 ((sumLen (l.take j) : Int) + (l[j].f0.length : Int)) = ((sumLen (l.take (j + 1)) : Nat) : Int) := by rw [sumLen_take l j h]; unfold wrap64; omega
    simp only [spec_IsValidAggregator.l0, c1, c2, if_true, rd_gt l j h, l1In_eq, Option.bind_some, e1, succ64 j (by omega)]
    refine Ev.then (spec_AreValidRows_ev _ (by omega)) ?_
    cases q : vRows l[j].f0
    · simp only [Bool.false_eq_true, if_false]
      rw [vAgg_bad j h (by unfold vGT; rw [q, Bool.false_and])]
      exact Ev.val rfl
    · simp only [if_true]
      rw [show (decide (0 ≤ l[j].f1) && decide (l[j].f1 ≤ 4)) = gB l[j].f1 0 4 from rfl]
      cases q2 : gB l[j].f1 0 4
      · simp only [Bool.false_eq_true, if_false]
        rw [vAgg_bad j h (by unfold vGT; rw [q2, Bool.and_false])]
        exact Ev.val rfl
      · simp only [if_true]
        refine ih (j + 1) (by omega) (by omega) ?_
        rw [List.take_succ_eq_append_getElem h, List.all_append, hv]
        simp [vGT, q, q2]
theorem spec_IsValidAggregator_ev (l : List GT) (n : Int) (e : Bool) (hl : l.length ≤ 100000000) (hr : ∀ t ∈ l, t.f0.length ≤ 24) : Ev (fun k => spec_IsValidAggregator.f k l n e) (vAgg l n) := by
  have := spec_IsValidAggregator_l0 l n e hl hr l.length 0 (by omega) (by omega) rfl
  show Ev (fun k => spec_IsValidAggregator.l0 k 0 0 l n e) _
  simpa [sumLen] using this
theorem impl_IsValidAggregator_l0 (l : List GT) (n : Int) (e : Bool) (hl : l.length ≤ 100000000) (hr : ∀ t ∈ l, t.f0.length ≤ 24) : ∀ (d j : Nat), l.length - j = d → j ≤ l.length → (l.take j).all vGT = true →
    Ev (fun k => impl_IsValidAggregator.l0 k (sumLen (l.take j) : Int) l (l.length : Int) (j : Int) l n e) (vAgg l n) := by
  intro d
  induction d with
  | zero =>
    intro j hd hj hv
    obtain rfl : j = l.length := by omega
    refine Ev.succ ?_
    rw [List.take_length] at hv ⊢
    have c1 : ¬ ((l.length : Int) < (l.length : Int)) := by omega
    simp only [impl_IsValidAggregator.l0, c1, if_false, within_eq, Option.bind_some]
    unfold vAgg
    rw [hv, Bool.true_and]
    by_cases h1 : sumLen l ≤ 24
    · have c2 : (sumLen l : Int) ≤ 24 := by omega
      by_cases h2 : l.length ≤ 40
      · have c3 : (l.length : Int) ≤ 40 := by omega
        simp only [c2, c3, h1, h2, if_true, decide_true, Bool.true_and]
        exact Ev.val rfl
      · have c3 : ¬ ((l.length : Int) ≤ 40) := by omega
        simp only [c2, c3, h1, h2, if_true, if_false, decide_true, decide_false, Bool.true_and, Bool.false_and]
        exact Ev.val rfl
    · have c2 : ¬ ((sumLen l : Int) ≤ 24) := by omega
      simp only [c2, h1, if_false, decide_false, Bool.false_and]
      by_cases h2 : l.length ≤ 40
      · have c3 : (l.length : Int) ≤ 40 := by omega
        simp only [c3, if_true]
        exact Ev.val rfl
      · have c3 : ¬ ((l.length : Int) ≤ 40) := by omega
        simp only [c3, if_false]
        exact Ev.val rfl
  | succ d ih =>
    intro j hd hj hv
    have h : j < l.length := by omega
    have hm : l[j] ∈ l := List.getElem_mem h
    refine Ev.succ ?_
    have c1 : (j : Int) < (l.length : Int) := by omega
    have c2 : (0 : Int) ≤ (j : Int) := by omega
    have hs := sumLen_le (l.take j) (fun t ht => hr t (List.mem_of_mem_take ht))
    have hs2 : (l.take j).length ≤ l.length := by rw [List.length_take]; omega
    have h24 := hr _ hm
    have e1 : wrap64 ((sumLen (l.take j) : Int) + (l[j].f0.length : Int)) = ((sumLen (l.take (j + 1)) : Nat) : Int) := by rw [sumLen_take l j h]; unfold wrap64; omega
    simp only [impl_IsValidAggregator.l0, c1, c2, if_true, rd_gt l j h, within_eq, Option.bind_some, e1, succ64 j (by omega)]
    refine Ev.then (impl_AreValidRows_ev _) ?_
    cases q : vRows l[j].f0
    · simp only [Bool.false_eq_true, if_false]
      rw [vAgg_bad j h (by unfold vGT; rw [q, Bool.false_and])]
      exact Ev.val rfl
    · simp only [if_true]
      rw [show (decide (0 ≤ l[j].f1) && decide (l[j].f1 ≤ 4)) = gB l[j].f1 0 4 from rfl]
      cases q2 : gB l[j].f1 0 4
      · simp only [Bool.false_eq_true, if_false]
        rw [vAgg_bad j h (by unfold vGT; rw [q2, Bool.and_false])]
        exact Ev.val rfl
      · simp only [if_true]
        refine ih (j + 1) (by omega) (by omega) ?_
        rw [List.take_succ_eq_append_getElem h, List.all_append, hv]
        simp [vGT, q, q2]
theorem impl_IsValidAggregator_ev (l : List GT) (n : Int) (e : Bool) (hl : l.length ≤ 100000000) (hr : ∀ t ∈ l, t.f0.length ≤ 24) : Ev (fun k => impl_IsValidAggregator.f k l n e) (vAgg l n) := by
  have := impl_IsValidAggregator_l0 l n e hl hr l.length 0 (by omega) (by omega) rfl
  show Ev (fun k => impl_IsValidAggregator.l0 k 0 l (l.length : Int) 0 l n e) _
  simpa [sumLen] using this
structure VAgg (l : List GT) (n : Int) : Prop where
  all : ∀ t ∈ l, vRows t.f0 = true ∧ 0 ≤ t.f1 ∧ t.f1 ≤ 4
  few : l.length ≤ 40
  out : 0 ≤ n ∧ n ≤ 100000
theorem vAgg_imp {l : List GT} {n : Int} (h : vAgg l n = true) : VAgg l n := by
  unfold vAgg at h
  rw [Bool.and_eq_true, Bool.and_eq_true, Bool.and_eq_true, decide_eq_true_iff, decide_eq_true_iff, gB_iff, List.all_eq_true] at h
  refine ⟨fun t ht => ?_, h.2.2.1, h.2.2.2⟩
  have := h.1 t ht
  unfold vGT at this
  rw [Bool.and_eq_true, gB_iff] at this
  exact this
def fGT (t : GT) : T := fmtI t.f1 ++ [59] ++ fRows t.f0
def fAggV (l : List GT) (n : Int) (e : Bool) : T := join [47] (fmtI n :: [if e = true then 49 else 48] :: l.map fGT)
def fAgg (l : List GT) (n : Int) (e : Bool) : T := if vAgg l n = true then fAggV l n e else []
theorem fGT_len {t : GT} (h : 0 ≤ t.f1 ∧ t.f1 ≤ 4) : (fGT t).length ≤ 900 := by
  have h1 := fmtI_len t.f1 (by omega) (by omega)
  have h2 := fRows_len t.f0
  unfold fGT
  simp only [List.length_append, List.length_singleton]
  omega
theorem spec_FormatAggregator_l0 (l : List GT) (n : Int) (e : Bool) (hv : VAgg l n) : ∀ (d j : Nat), l.length - j = d → j ≤ l.length →
    Ev (fun k => spec_FormatAggregator.l0 k (B (join [47] (fmtI n :: [if e = true then 49 else 48] :: (l.take j).map fGT))) (j : Int) l n e) (B (fAggV l n e)) := by
  have hfew := hv.few
  have hn := hv.out
  intro d
  induction d with
  | zero =>
    intro j hd hj
    obtain rfl : j = l.length := by omega
    refine Ev.succ ?_
    have c1 : ¬ ((l.length : Int) < (l.length : Int)) := by omega
    simp only [spec_FormatAggregator.l0, c1, if_false, List.take_length]
    exact Ev.val rfl
  | succ d ih =>
    intro j hd hj
    have h : j < l.length := by omega
    obtain ⟨hr, hlv⟩ := hv.all _ (List.getElem_mem h)
    have h24 := ((vRows_iff _).1 hr).1
    refine Ev.succ ?_
    have c1 : (j : Int) < (l.length : Int) := by omega
    have c2 : (0 : Int) ≤ (j : Int) := by omega
    have := ih (j + 1) (by omega) (by omega)
    rw [List.take_succ_eq_append_getElem h, List.map_append, List.map_singleton, ← List.cons_append, ← List.cons_append, join_snoc _ (by simp)] at this
    have hlen : (join [47] (fmtI n :: [if e = true then 49 else 48] :: (l.take j).map fGT)).length ≤ 42 * 901 := by
      have := join_len [47] 900 (fmtI n :: [if e = true then 49 else 48] :: (l.take j).map fGT) (by
        intro a ha
        rcases List.mem_cons.1 ha with rfl | ha
        · have := fmtI_len n (by omega) (by omega); omega
        rcases List.mem_cons.1 ha with rfl | ha
        · simp
        obtain ⟨t, ht, rfl⟩ := List.mem_map.1 ha
        exact fGT_len (hv.all t (List.mem_of_mem_take ht)).2)
      refine Nat.le_trans this ?_
      simp only [List.length_cons, List.length_map, List.length_take, List.length_nil]
      exact Nat.mul_le_mul (by omega) (by omega)
    generalize hx : join [47] (fmtI n :: [if e = true then 49 else 48] :: (l.take j).map fGT) = x at this hlen ⊢
    have h1 := fmtI_len l[j].f1 (by omega) (by omega)
    have h2 := fRows_len l[j].f0
    have d1 : (B x).size + 1 ≤ 9223372036854775807 := by rw [size_B]; omega
    have d2 : (B (x ++ [47])).size + (B (fmtI l[j].f1)).size ≤ 9223372036854775807 := by rw [size_B, size_B]; simp only [List.length_append, List.length_singleton]; omega
    have d3 : (B (x ++ [47] ++ fmtI l[j].f1)).size + 1 ≤ 9223372036854775807 := by rw [size_B]; simp only [List.length_append, List.length_singleton]; omega
    have d4 : (B (x ++ [47] ++ fmtI l[j].f1 ++ [59])).size + (B (fRows l[j].f0)).size ≤ 9223372036854775807 := by rw [size_B, size_B]; simp only [List.length_append, List.length_singleton]; omega
    simp only [spec_FormatAggregator.l0, c1, c2, d1, if_true, rd_gt l j h, succ64 j (by omega), litL, B_append]
    refine Ev.then (spec_FormatInt_ev _ (by omega) (by omega)) ?_
    simp only [d2, d3, if_true, B_append]
    refine Ev.then (spec_FormatRows_ev _ (by omega)) ?_
    simp only [d4, if_true, B_append]
    have e1 : x ++ [47] ++ fmtI l[j].f1 ++ [59] ++ fRows l[j].f0 = x ++ [47] ++ fGT l[j] := by simp [fGT]
    rw [e1]
    exact this
theorem spec_FormatAggregator_ev (l : List GT) (n : Int) (e : Bool) (hl : l.length ≤ 100000000) (hr : ∀ t ∈ l, t.f0.length ≤ 24) : Ev (fun k => spec_FormatAggregator.f k l n e) (B (fAgg l n e)) := by
  unfold spec_FormatAggregator.f fAgg
  refine Ev.then (spec_IsValidAggregator_ev l n e hl hr) ?_
  cases h : vAgg l n
  · simp only [Bool.false_eq_true, if_false]; exact Ev.val rfl
  · simp only [if_true]
    have hv := vAgg_imp h
    have hn := hv.out
    have h1 := fmtI_len n (by omega) (by omega)
    have d1 : (B (fmtI n)).size + 2 ≤ 9223372036854775807 := by rw [size_B]; omega
    have hf := spec_FormatAggregator_l0 l n e hv l.length 0 (by omega) (by omega)
    refine Ev.then (spec_FormatInt_ev _ (by omega) (by omega)) ?_
    cases e
    · simp only [d1, if_true, Bool.false_eq_true, if_false, litL, B_append]
      refine Ev.succ ?_
      simp only [spec_FormatAggregator.j0]
      simpa [join] using hf
    · simp only [d1, if_true]
      refine Ev.then (spec_FormatInt_ev _ (by omega) (by omega)) ?_
      simp only [d1, if_true, litL, B_append]
      refine Ev.succ ?_
      simp only [spec_FormatAggregator.j0]
      simpa [join] using hf
end
/-! What the law writes into an aggregator is found there again; equal aggregators are equal. -/
open Plain Br
section
def mkGTs : List Nat → Int → List GT
  | [], _ => []
  | n :: r, m => ⟨mkRows n m, m + 3 * n⟩ :: mkGTs r (m + 3 * n + 1)
def endG : List Nat → Int → Int
  | [], m => m
  | n :: r, m => endG r (m + 3 * n + 1)
theorem endG_ge : ∀ (ns : List Nat) (m : Int), m ≤ endG ns m
  | [], m => by simp [endG]
  | n :: r, m => by
    have := endG_ge r (m + 3 * n + 1)
    show m ≤ endG r (m + 3 * n + 1)
    omega
theorem endG_le : ∀ (ns : List Nat) (m : Int), (∀ n ∈ ns, n ≤ 24) → endG ns m ≤ m + 73 * ns.length
  | [], m, _ => by simp [endG]
  | n :: r, m, h => by
    have h1 := endG_le r (m + 3 * n + 1) (fun x hx => h x (List.mem_cons_of_mem _ hx))
    have h2 := h n List.mem_cons_self
    show endG r (m + 3 * n + 1) ≤ _
    simp only [List.length_cons]
    omega
theorem mkGTs_len : ∀ (ns : List Nat) (m : Int), (mkGTs ns m).length = ns.length
  | [], _ => rfl
  | n :: r, m => by rw [mkGTs, List.length_cons, List.length_cons, mkGTs_len r]
theorem get_mid {α : Type} (a : List α) (x : α) (b : List α) (j : Nat) (h : a.length = j) (hj : j < (a ++ x :: b).length) : (a ++ x :: b)[j] = x := by
  subst h; simp
theorem rd_mid (a : List GT) (x : GT) (b : List GT) (j : Nat) (h : a.length = j) : rd_T79 (a ++ x :: b) (j : Int) = x := by
  have hj : j < (a ++ x :: b).length := by rw [List.length_append, List.length_cons]; omega
  rw [rd_gt _ j hj, get_mid a x b j h]
theorem laws_markGroupTaskS_l0 : ∀ (rest done : List GT) (j : Nat) (m : Int), done.length = j → 0 ≤ m → endG (rest.map fun t => t.f0.length) m ≤ 4611686018427380000 → j + rest.length ≤ 1000000000 →
    Ev (fun k => laws_markGroupTaskS.l0 k (done ++ rest) m (j : Int)) (endG (rest.map fun t => t.f0.length) m, done ++ mkGTs (rest.map fun t => t.f0.length) m)
  | [], done, j, m, hj, h0, hb, hl => by
    refine Ev.succ ?_
    have c1 : ¬ ((j : Int) < ((done ++ []).length : Int)) := by rw [List.append_nil]; omega
    simp only [laws_markGroupTaskS.l0, c1, if_false]
    exact Ev.val (by simp [endG, mkGTs])
  | t :: r, done, j, m, hj, h0, hb, hl => by
    refine Ev.succ ?_
    have hlen : (done ++ t :: r).length = j + r.length + 1 := by rw [List.length_append, List.length_cons]; omega
    have c1 : (j : Int) < ((done ++ t :: r).length : Int) := by rw [hlen]; omega
    have c2 : (0 : Int) ≤ (j : Int) := by omega
    have hb' : endG (r.map fun t => t.f0.length) (m + 3 * t.f0.length + 1) ≤ 4611686018427380000 := hb
    have hg := endG_ge (r.map fun t => t.f0.length) (m + 3 * t.f0.length + 1)
    rw [List.length_cons] at hl
    simp only [laws_markGroupTaskS.l0, c1, c2, if_true, rd_mid done t r j hj, Int.toNat_natCast, succ64 j (by omega)]
    refine Ev.then (laws_markRowS_ev t.f0 m h0 (by omega)) ?_
    have e1 : wrap64 (m + 3 * (t.f0.length : Int) + 1) = m + 3 * (t.f0.length : Int) + 1 := wr1 (by omega) (by omega)
    simp only [set_mid _ _ _ _ j hj, Option.bind_some, rd_mid done _ r j hj, e1]
    have := laws_markGroupTaskS_l0 r (done ++ [⟨mkRows t.f0.length m, m + 3 * t.f0.length⟩]) (j + 1) (m + 3 * t.f0.length + 1) (by simp [hj]) (by omega) hb' (by omega)
    rw [List.append_assoc, List.append_assoc] at this
    exact this
theorem laws_markAggregator_ev (l : List GT) (n : Int) (e : Bool) (hl : l.length ≤ 1000000) (hr : ∀ t ∈ l, t.f0.length ≤ 24) :
    Ev (fun k => laws_markAggregator.f k l n e 1) (endG (l.map fun t => t.f0.length) 1, mkGTs (l.map fun t => t.f0.length) 1) := by
  have h1 := endG_le (l.map fun t => t.f0.length) 1 (by intro x hx; obtain ⟨t, ht, rfl⟩ := List.mem_map.1 hx; exact hr t ht)
  rw [List.length_map] at h1
  exact laws_markGroupTaskS_l0 l [] 0 1 rfl (by omega) (by omega) (by omega)
theorem laws_heldGroupTaskS_l0 : ∀ (ns : List Nat) (done : List GT) (j : Nat) (m : Int), done.length = j → 0 ≤ m → endG ns m ≤ 4611686018427380000 → j + ns.length ≤ 1000000000 →
    Ev (fun k => laws_heldGroupTaskS.l0 k (done ++ mkGTs ns m) m (j : Int)) (endG ns m)
  | [], done, j, m, hj, h0, hb, hl => by
    refine Ev.succ ?_
    have c1 : ¬ ((j : Int) < ((done ++ mkGTs [] m).length : Int)) := by simp only [mkGTs, List.append_nil]; omega
    simp only [laws_heldGroupTaskS.l0, c1, if_false]
    exact Ev.val rfl
  | n :: r, done, j, m, hj, h0, hb, hl => by
    refine Ev.succ ?_
    have hb' : endG r (m + 3 * n + 1) ≤ 4611686018427380000 := hb
    have hg := endG_ge r (m + 3 * n + 1)
    rw [List.length_cons] at hl
    have hlen : (done ++ mkGTs (n :: r) m).length = j + r.length + 1 := by rw [List.length_append, mkGTs_len, List.length_cons]; omega
    have c1 : (j : Int) < ((done ++ mkGTs (n :: r) m).length : Int) := by rw [hlen]; omega
    have c2 : (0 : Int) ≤ (j : Int) := by omega
    have e0 : rd_T79 (done ++ mkGTs (n :: r) m) (j : Int) = ⟨mkRows n m, m + 3 * n⟩ := rd_mid done _ _ j hj
    simp only [laws_heldGroupTaskS.l0, c1, c2, if_true, e0, succ64 j (by omega)]
    refine Ev.then (laws_heldRowS_ev n m h0 (by omega)) ?_
    have c3 : ¬ (m + 3 * (n : Int) < 0) := by omega
    have e1 : wrap64 (m + 3 * (n : Int) + 1) = m + 3 * (n : Int) + 1 := wr1 (by omega) (by omega)
    simp only [c3, if_false, if_true, e1]
    have := laws_heldGroupTaskS_l0 r (done ++ [⟨mkRows n m, m + 3 * n⟩]) (j + 1) (m + 3 * n + 1) (by simp [hj]) (by omega) hb' (by omega)
    rw [List.append_assoc] at this
    exact this
theorem laws_heldAggregator_ev (ns : List Nat) (n : Int) (e : Bool) (hl : ns.length ≤ 1000000) (hr : ∀ x ∈ ns, x ≤ 24) : Ev (fun k => laws_heldAggregator.f k (mkGTs ns 1) n e 1) (endG ns 1) := by
  have h1 := endG_le ns 1 hr
  have h2 := endG_ge ns 1
  unfold laws_heldAggregator.f laws_heldGroupTaskS.f
  refine Ev.then (laws_heldGroupTaskS_l0 ns [] 0 1 rfl (by omega) (by omega) (by omega)) ?_
  have c3 : ¬ (endG ns 1 < 0) := by omega
  simp only [c3, if_false]
  exact Ev.val rfl
theorem laws_eqGroupTaskS_l0 (l : List GT) (hl : l.length ≤ 1000000000) (hr : ∀ t ∈ l, t.f0.length ≤ 24) : ∀ (d j : Nat), l.length - j = d → j ≤ l.length → Ev (fun k => laws_eqGroupTaskS.l0 k l l (j : Int)) true := by
  intro d
  induction d with
  | zero =>
    intro j hd hj
    refine Ev.succ ?_
    have c1 : ¬ ((j : Int) < (l.length : Int)) := by omega
    simp only [laws_eqGroupTaskS.l0, c1, if_false]
    exact Ev.val rfl
  | succ d ih =>
    intro j hd hj
    have h : j < l.length := by omega
    refine Ev.succ ?_
    have c1 : (j : Int) < (l.length : Int) := by omega
    have c2 : (0 : Int) ≤ (j : Int) := by omega
    have h24 := hr _ (List.getElem_mem h)
    simp only [laws_eqGroupTaskS.l0, c1, c2, if_true, rd_gt l j h, succ64 j (by omega)]
    have he : Ev (fun k => laws_eqGroupTask.f k l[j].f0 l[j].f1 l[j].f0 l[j].f1) true := by
      unfold laws_eqGroupTask.f
      refine Ev.then (laws_eqRowS_self l[j].f0 (by omega)) ?_
      simp only [if_true]
      exact Ev.val rfl
    refine Ev.then he ?_
    simp only [if_true]
    exact ih (j + 1) (by omega) (by omega)
theorem laws_eqAggregator_self (l : List GT) (n : Int) (e : Bool) (hl : l.length ≤ 1000000) (hr : ∀ t ∈ l, t.f0.length ≤ 24) : Ev (fun k => laws_eqAggregator.f k l n e l n e) true := by
  unfold laws_eqAggregator.f laws_eqGroupTaskS.f
  simp only [if_true]
  refine Ev.then (laws_eqGroupTaskS_l0 l (by omega) hr l.length 0 rfl (by omega)) ?_
  simp only [if_true, bne_self_eq_false, Bool.false_eq_true, if_false]
  exact Ev.val rfl
end
/-! ParseAggregator: the program's and the reference's, one function. -/
open Plain Br
section
theorem Ev.of_eq {α : Type} {g : Nat → Option α} {r r' : α} (h : Ev g r) (e : r = r') : Ev g r' := e ▸ h
def mGT (a b : T) : GT := ⟨(rRows (pRows b)).1, (pIr a).1⟩
def pGT (s : T) : Option GT := match split 59 s with
  | [a, b] => if (pIr a).2 = true ∧ (rRows (pRows b)).2 = true then some (mGT a b) else none
  | _ => none
def pGTs : List T → Option (List GT)
  | [] => some []
  | s :: r => match pGT s with
    | none => none
    | some t => match pGTs r with
      | none => none
      | some l => some (t :: l)
def sGT (s : T) : Option GT := match split 59 s with
  | [a, b] => some (mGT a b)
  | _ => none
def sGTs : List T → Option (List GT)
  | [] => some []
  | s :: r => match sGT s with
    | none => none
    | some t => match sGTs r with
      | none => none
      | some l => some (t :: l)
structure GGT (t : GT) : Prop where
  lo : -1000000000 < t.f1
  hi : t.f1 < 1000000000
  rows : vRows t.f0 = true
theorem split_fGT (t : GT) : split 59 (fGT t) = [fmtI t.f1, fRows t.f0] := by
  have : fGT t = join [59] [fmtI t.f1, fRows t.f0] := by simp [fGT, join]
  rw [this]
  refine split_join 59 (by simp) ?_
  intro a ha
  simp only [List.mem_cons, List.not_mem_nil, or_false] at ha
  rcases ha with rfl | rfl
  · exact numFree (by decide)
  · exact fRows_free (by decide) (by decide) (by decide)
theorem pIr_true {a : T} (h : (pIr a).2 = true) : fmtI (pIr a).1 = a ∧ -1000000000 < (pIr a).1 ∧ (pIr a).1 < 1000000000 := by
  rcases pIr_cases a with ⟨n, hn, h1, h2, h3⟩ | h0
  · rw [hn]; exact ⟨h1, h2, h3⟩
  · rw [h0] at h; cases h
theorem rRows_true {a : T} (h : (rRows (pRows a)).2 = true) : vRows (rRows (pRows a)).1 = true ∧ fRows (rRows (pRows a)).1 = a := by
  cases q : pRows a with
  | none => rw [q] at h; cases h
  | some l => exact pRows_some.1 q
theorem pGT_some {s : T} {t : GT} : pGT s = some t ↔ GGT t ∧ fGT t = s := by
  constructor
  · intro h
    unfold pGT at h
    split at h
    · rename_i a b hs
      split at h
      · rename_i hc
        injection h with h
        subst h
        obtain ⟨h1, h2, h3⟩ := pIr_true hc.1
        obtain ⟨h4, h5⟩ := rRows_true hc.2
        refine ⟨⟨h2, h3, h4⟩, ?_⟩
        have := join_split 59 s
        rw [hs] at this
        rw [← this]
        show fmtI (pIr a).1 ++ [59] ++ fRows (rRows (pRows b)).1 = _
        rw [h1, h5]
        simp [join]
      · cases h
    · cases h
  · rintro ⟨hg, rfl⟩
    unfold pGT
    rw [split_fGT]
    have e1 : pIr (fmtI t.f1) = (t.f1, true) := pIr_some rfl hg.lo hg.hi
    have e2 : pRows (fRows t.f0) = some t.f0 := pRows_some.2 ⟨hg.rows, rfl⟩
    simp only [e1, e2, rRows, and_self, if_true, mGT]
theorem pGT_s {s : T} {t : GT} (h : pGT s = some t) : sGT s = some t := by
  unfold pGT at h
  unfold sGT
  split at h
  · split at h
    · exact h
    · cases h
  · cases h
theorem pGTs_s : ∀ {ls : List T} {l : List GT}, pGTs ls = some l → sGTs ls = some l
  | [], l, h => h
  | s :: r, l, h => by
    unfold pGTs at h
    unfold sGTs
    cases q : pGT s with
    | none => rw [q] at h; cases h
    | some t =>
      rw [q] at h
      rw [pGT_s q]
      dsimp only at h ⊢
      cases q2 : pGTs r with
      | none => rw [q2] at h; cases h
      | some x =>
        rw [q2] at h
        rw [pGTs_s q2]
        exact h
theorem pGTs_some : ∀ {ls : List T} {l : List GT}, pGTs ls = some l ↔ (∀ t ∈ l, GGT t) ∧ l.map fGT = ls
  | [], l => by
    unfold pGTs
    constructor
    · intro h
      injection h with h
      subst h
      exact ⟨fun t ht => (by cases ht), rfl⟩
    · rintro ⟨_, h⟩
      rw [List.map_eq_nil_iff] at h
      rw [h]
  | s :: r, l => by
    unfold pGTs
    constructor
    · intro h
      cases q : pGT s with
      | none => rw [q] at h; cases h
      | some t =>
        rw [q] at h
        dsimp only at h
        cases q2 : pGTs r with
        | none => rw [q2] at h; cases h
        | some x =>
          rw [q2] at h
          injection h with h
          subst h
          obtain ⟨h1, h2⟩ := pGT_some.1 q
          obtain ⟨h3, h4⟩ := pGTs_some.1 q2
          refine ⟨fun y hy => ?_, by rw [List.map_cons, h2, h4]⟩
          rcases List.mem_cons.1 hy with rfl | hy
          · exact h1
          · exact h3 y hy
    · rintro ⟨h1, h2⟩
      cases l with
      | nil => cases h2
      | cons t x =>
        rw [List.map_cons] at h2
        injection h2 with h3 h4
        rw [pGT_some.2 ⟨h1 t List.mem_cons_self, h3⟩, pGTs_some.2 ⟨fun y hy => h1 y (List.mem_cons_of_mem _ hy), h4⟩]
abbrev Agg : Type := List GT × Int × Bool
def pAgg (s : T) : Option Agg := match split 47 s with
  | a :: b :: ts => if b = [48] ∨ b = [49] then (match pGTs ts with
    | some l => if (pIr a).2 = true ∧ vAgg l (pIr a).1 = true then some (l, (pIr a).1, decide (b = [49])) else none
    | none => none) else none
  | _ => none
def sAgg (s : T) : Option Agg := match split 47 s with
  | a :: b :: ts => (match sGTs ts with
    | some l => if fAgg l (pIr a).1 (decide (b = [49])) = s then some (l, (pIr a).1, decide (b = [49])) else none
    | none => none)
  | _ => none
def rAgg : Option Agg → List GT × Int × Bool × Bool
  | some (l, n, e) => (l, n, e, true)
  | none => ([], 0, false, false)
theorem fGT_free (t : GT) : (47 : UInt8) ∉ fGT t := by
  unfold fGT
  simp only [List.mem_append, List.mem_singleton, not_or]
  exact ⟨⟨numFree (by decide), by decide⟩, fRows_free (by decide) (by decide) (by decide)⟩
theorem split_fAggV (l : List GT) (n : Int) (e : Bool) : split 47 (fAggV l n e) = fmtI n :: [if e = true then 49 else 48] :: l.map fGT := by
  unfold fAggV
  refine split_join 47 (by simp) ?_
  intro a ha
  rcases List.mem_cons.1 ha with rfl | ha
  · exact numFree (by decide)
  rcases List.mem_cons.1 ha with rfl | ha
  · cases e <;> decide
  obtain ⟨t, _, rfl⟩ := List.mem_map.1 ha
  exact fGT_free t
theorem vAgg_G {l : List GT} {n : Int} (h : VAgg l n) : ∀ t ∈ l, GGT t := fun t ht => by
  obtain ⟨h1, h2, h3⟩ := h.all t ht
  exact ⟨by omega, by omega, h1⟩
theorem pAgg_fmt {l : List GT} {n : Int} (e : Bool) (hv : vAgg l n = true) : pAgg (fAggV l n e) = some (l, n, e) := by
  have h := vAgg_imp hv
  have hn := h.out
  unfold pAgg
  rw [split_fAggV]
  have e1 : pIr (fmtI n) = (n, true) := pIr_some rfl (by omega) (by omega)
  have e2 : pGTs (l.map fGT) = some l := pGTs_some.2 ⟨vAgg_G h, rfl⟩
  cases e <;> simp [e1, e2, hv]
theorem pAgg_s {s : T} {x : Agg} (h : pAgg s = some x) : sAgg s = some x := by
  unfold pAgg at h
  unfold sAgg
  split at h
  · rename_i a b ts hs
    split at h
    · rename_i hb
      cases q : pGTs ts with
      | none => rw [q] at h; cases h
      | some l =>
        rw [q] at h
        dsimp only at h
        split at h
        · rename_i hc
          rw [pGTs_s q]
          dsimp only
          have hf : fAgg l (pIr a).1 (decide (b = [49])) = s := by
            unfold fAgg
            rw [if_pos hc.2]
            have hj := join_split 47 s
            rw [hs] at hj
            rw [← hj]
            unfold fAggV
            rw [(pIr_true hc.1).1, (pGTs_some.1 q).2]
            rcases hb with rfl | rfl <;> rfl
          rw [if_pos hf]
          exact h
        · cases h
    · cases h
  · cases h
theorem sAgg_p {s : T} {x : Agg} (h : sAgg s = some x) : pAgg s = some x := by
  unfold sAgg at h
  split at h
  · rename_i a b ts hs
    cases q : sGTs ts with
    | none => rw [q] at h; cases h
    | some l =>
      rw [q] at h
      dsimp only at h
      split at h
      · rename_i hf
        injection h with h
        subst h
        have hv : vAgg l (pIr a).1 = true := by
          cases z : vAgg l (pIr a).1 with
          | true => rfl
          | false =>
            unfold fAgg at hf
            rw [z] at hf
            simp only [Bool.false_eq_true, if_false] at hf
            rw [← hf] at hs
            simp [split] at hs
        have e0 : fAgg l (pIr a).1 (decide (b = [49])) = fAggV l (pIr a).1 (decide (b = [49])) := by unfold fAgg; rw [if_pos hv]
        rw [← hf, e0]
        exact pAgg_fmt _ hv
      · cases h
  · cases h
theorem sAgg_eq (s : T) : sAgg s = pAgg s := by
  cases h : pAgg s with
  | some x => exact pAgg_s h
  | none =>
    cases h2 : sAgg s with
    | none => rfl
    | some x => rw [sAgg_p h2] at h; cases h
theorem pRows_len24 {s : T} : ((rRows (pRows s)).1).length ≤ 24 := by
  cases h : pRows s with
  | none => simp [rRows]
  | some l => exact ((vRows_iff l).1 (pRows_some.1 h).1).1
theorem sGTs_len : ∀ {ls : List T} {l : List GT}, sGTs ls = some l → l.length = ls.length ∧ ∀ t ∈ l, t.f0.length ≤ 24
  | [], l, h => by
    unfold sGTs at h
    injection h with h
    subst h
    exact ⟨rfl, fun t ht => by cases ht⟩
  | s :: r, l, h => by
    unfold sGTs at h
    cases q : sGT s with
    | none => rw [q] at h; cases h
    | some t =>
      rw [q] at h
      dsimp only at h
      cases q2 : sGTs r with
      | none => rw [q2] at h; cases h
      | some x =>
        rw [q2] at h
        injection h with h
        subst h
        obtain ⟨h1, h2⟩ := sGTs_len q2
        refine ⟨by simp [h1], fun y hy => ?_⟩
        rcases List.mem_cons.1 hy with rfl | hy
        · unfold sGT at q
          split at q
          · injection q with q
            subst q
            exact pRows_len24
          · cases q
        · exact h2 y hy
theorem two (ls : List T) (h : ls.length = 2) : ∃ a b, ls = [a, b] := by
  match ls, h with
  | [a, b], _ => exact ⟨a, b, rfl⟩
theorem sGT_none {s : T} (h : (split 59 s).length ≠ 2) : sGT s = none := by
  unfold sGT
  split
  · rename_i e; rw [e] at h; simp at h
  · rfl
theorem pGT_none {s : T} (h : (split 59 s).length ≠ 2) : pGT s = none := by
  unfold pGT
  split
  · rename_i e; rw [e] at h; simp at h
  · rfl
def sFin (s : T) (n : Int) (e : Bool) (acc : List GT) : Option (List GT) → Option Agg
  | some l => if fAgg (acc ++ l) n e = s then some (acc ++ l, n, e) else none
  | none => none
theorem spec_ParseAggregator_l0 (s : T) (hl : s.length ≤ 4294967296) (ls : List T) (hls : ls.length ≤ 1000000 + 100000) (hp : ∀ x ∈ ls, x.length ≤ s.length) (n : Int) (e : Bool) : ∀ (d j : Nat) (acc : List GT), ls.length - j = d → j ≤ ls.length → acc.length ≤ j → (∀ t ∈ acc, t.f0.length ≤ 24) →
    Ev (fun k => spec_ParseAggregator.l0 k (B s) (ls.map B) (j : Int) acc n e) (rAgg (sFin s n e acc (sGTs (ls.drop j)))) := by
  intro d
  induction d with
  | zero =>
    intro j acc hd hj ha h24
    obtain rfl : j = ls.length := by omega
    refine Ev.succ ?_
    have c1 : ¬ ((ls.length : Int) < ((ls.map B).length : Int)) := by rw [List.length_map]; omega
    simp only [spec_ParseAggregator.l0, c1, if_false]
    refine Ev.then (spec_FormatAggregator_ev acc n e (by omega) h24) ?_
    rw [List.drop_length]
    simp only [toList_B, sGTs, sFin, List.append_nil]
    by_cases h : fAgg acc n e = s
    · simp only [h, if_true]; exact Ev.val rfl
    · simp only [h, if_false]; exact Ev.val rfl
  | succ d ih =>
    intro j acc hd hj ha h24
    have h : j < ls.length := by omega
    refine Ev.succ ?_
    have c1 : (j : Int) < ((ls.map B).length : Int) := by rw [List.length_map]; omega
    have c2 : (0 : Int) ≤ (j : Int) := by omega
    have hx := hp _ (List.getElem_mem h)
    simp only [spec_ParseAggregator.l0, c1, c2, if_true, rdOf_B ls j h, succ64 j (by omega)]
    refine Ev.then (spec_l2Cut_ev ls[j] 59 (by omega)) ?_
    rw [List.drop_eq_getElem_cons h]
    by_cases h2 : (split 59 ls[j]).length = 2
    · obtain ⟨a, b, hs⟩ := two _ h2
      have hb : b.length ≤ ls[j].length := split_part 59 _ b (by rw [hs]; simp)
      have c0 : ((((split 59 ls[j]).map B).length : Nat) : Int) = 2 := by rw [hs]; rfl
      have r0 : rdOf ByteArray.empty ((split 59 ls[j]).map B) 0 = B a := by rw [hs]; rfl
      have r1 : rdOf ByteArray.empty ((split 59 ls[j]).map B) 1 = B b := by rw [hs]; rfl
      simp only [c0, if_true, show (0 : Int) < 2 from by decide, show (1 : Int) < 2 from by decide, r0, r1]
      refine Ev.then (spec_ParseInt_ev a) ?_
      refine Ev.then (spec_ParseRows_ev b (by omega)) ?_
      have c3 : acc.length < 4398046511104 := by omega
      simp only [c3, if_true]
      have e0 : sGT ls[j] = some (mGT a b) := by unfold sGT; rw [hs]
      have := ih (j + 1) (acc ++ [mGT a b]) (by omega) (by omega) (by simp; omega) (by
        intro t ht
        rcases List.mem_append.1 ht with ht | ht
        · exact h24 t ht
        · rw [List.mem_singleton.1 ht]; exact pRows_len24)
      unfold sGTs
      rw [e0]
      dsimp only
      cases q : sGTs (ls.drop (j + 1)) with
      | none => rw [q] at this; exact this
      | some x =>
        rw [q] at this
        simp only [sFin, List.append_assoc, List.singleton_append] at this ⊢
        exact this
    · have c0 : ¬ (((((split 59 ls[j]).map B).length : Nat) : Int) = 2) := by rw [List.length_map]; omega
      simp only [c0, if_false]
      unfold sGTs
      rw [sGT_none h2]
      exact Ev.val rfl
theorem byte_one (b : T) : ((B b).toList == ([49] : List UInt8)) = decide (b = [49]) := by
  rw [toList_B]
  by_cases h : b = [49]
  · rw [decide_eq_true h, beq_iff_eq.2 h]
  · rw [decide_eq_false h]; exact beq_eq_false_iff_ne.2 h
theorem spec_ParseAggregator_ev (s : T) (hl : s.length ≤ 1048576) : Ev (fun k => spec_ParseAggregator.f k (B s)) (rAgg (pAgg s)) := by
  rw [← sAgg_eq]
  unfold spec_ParseAggregator.f
  refine Ev.then (spec_l2Cut_ev s 47 (by omega)) ?_
  have hp : ∀ x ∈ split 47 s, x.length ≤ s.length := fun x hx => split_part 47 s x hx
  have hn := split_len 47 s
  unfold sAgg
  match hs : split 47 s with
  | [] => exact absurd hs (split_ne _ _)
  | [a] =>
    simp only [List.map_cons, List.map_nil, List.length_cons, List.length_nil]
    exact Ev.val rfl
  | a :: b :: ts =>
    have c0 : ¬ (((((a :: b :: ts).map B).length : Nat) : Int) < 2) := by simp only [List.map_cons, List.length_cons]; omega
    have c1 : (1 : Int) < ((((a :: b :: ts).map B).length : Nat) : Int) := by simp only [List.map_cons, List.length_cons]; omega
    have c2 : (0 : Int) < ((((a :: b :: ts).map B).length : Nat) : Int) := by omega
    have r0 : rdOf ByteArray.empty ((a :: b :: ts).map B) 0 = B a := rfl
    have r1 : rdOf ByteArray.empty ((a :: b :: ts).map B) 1 = B b := rfl
    simp only [c0, c1, c2, if_true, if_false, r0, r1]
    refine Ev.then (spec_ParseInt_ev a) ?_
    rw [hs] at hp hn
    rw [byte_one]
    have := spec_ParseAggregator_l0 s (by omega) (a :: b :: ts) (by omega) hp (pIr a).1 (decide (b = [49])) (ts.length) 2 [] (by simp) (by simp) (by simp) (fun t ht => by cases ht)
    refine Ev.of_eq this ?_
    show rAgg (sFin s (pIr a).1 (decide (b = [49])) [] (sGTs ts)) = _
    cases sGTs ts with
    | none => rfl
    | some l => rfl
def pFin (ok : Bool) (n : Int) (e : Bool) (acc : List GT) : Option (List GT) → Option Agg
  | some l => if ok = true ∧ vAgg (acc ++ l) n = true then some (acc ++ l, n, e) else none
  | none => none
theorem impl_ParseAggregator_l0 (ls : List T) (hls : ls.length ≤ 1000000 + 100000) (hp : ∀ x ∈ ls, x.length ≤ 4294967296) (ok : Bool) (n : Int) (e : Bool) : ∀ (d j : Nat) (acc : List GT), ls.length - j = d → j ≤ ls.length → acc.length ≤ j → (∀ t ∈ acc, t.f0.length ≤ 24) →
    Ev (fun k => impl_ParseAggregator.l0 k ok (ls.map B) ((ls.map B).length : Int) (j : Int) acc n e) (rAgg (pFin ok n e acc (pGTs (ls.drop j)))) := by
  intro d
  induction d with
  | zero =>
    intro j acc hd hj ha h24
    obtain rfl : j = ls.length := by omega
    refine Ev.succ ?_
    have c1 : ¬ ((ls.length : Int) < ((ls.map B).length : Int)) := by rw [List.length_map]; omega
    simp only [impl_ParseAggregator.l0, c1, if_false]
    rw [List.drop_length]
    simp only [pGTs, pFin, List.append_nil]
    cases ok
    · simp only [Bool.false_eq_true, if_false, false_and]; exact Ev.val rfl
    · simp only [if_true, true_and]
      refine Ev.then (impl_IsValidAggregator_ev acc n e (by omega) h24) ?_
      cases vAgg acc n
      · simp only [Bool.false_eq_true, if_false]; exact Ev.val rfl
      · simp only [if_true]; exact Ev.val rfl
  | succ d ih =>
    intro j acc hd hj ha h24
    have h : j < ls.length := by omega
    refine Ev.succ ?_
    have c1 : (j : Int) < ((ls.map B).length : Int) := by rw [List.length_map]; omega
    have c2 : (0 : Int) ≤ (j : Int) := by omega
    have hx := hp _ (List.getElem_mem h)
    simp only [impl_ParseAggregator.l0, c1, c2, if_true, rdOf_B ls j h, succ64 j (by omega)]
    refine Ev.then (impl_cut_ev ls[j] 59 (by omega)) ?_
    rw [List.drop_eq_getElem_cons h]
    by_cases h2 : (split 59 ls[j]).length = 2
    · obtain ⟨a, b, hs⟩ := two _ h2
      have hb : b.length ≤ ls[j].length := split_part 59 _ b (by rw [hs]; simp)
      have c0 : ((((split 59 ls[j]).map B).length : Nat) : Int) = 2 := by rw [hs]; rfl
      have r0 : rdOf ByteArray.empty ((split 59 ls[j]).map B) 0 = B a := by rw [hs]; rfl
      have r1 : rdOf ByteArray.empty ((split 59 ls[j]).map B) 1 = B b := by rw [hs]; rfl
      simp only [c0, if_true, show (0 : Int) < 2 from by decide, show (1 : Int) < 2 from by decide, r0, r1]
      refine Ev.then (impl_ParseInt_ev a) ?_
      refine Ev.then (impl_ParseRows_ev b (by omega)) ?_
      have c3 : acc.length < 4398046511104 := by omega
      have e0 : pGT ls[j] = if (pIr a).2 = true ∧ (rRows (pRows b)).2 = true then some (mGT a b) else none := by unfold pGT; rw [hs]
      unfold pGTs
      rw [e0]
      cases q1 : (pIr a).2
      · simp only [Bool.false_eq_true, if_false, false_and]; exact Ev.val rfl
      · cases q2 : (rRows (pRows b)).2
        · simp only [Bool.false_eq_true, if_true, if_false, and_false]; exact Ev.val rfl
        · simp only [if_true, and_self, c3]
          have := ih (j + 1) (acc ++ [mGT a b]) (by omega) (by omega) (by simp; omega) (by
            intro t ht
            rcases List.mem_append.1 ht with ht | ht
            · exact h24 t ht
            · rw [List.mem_singleton.1 ht]; exact pRows_len24)
          cases q : pGTs (ls.drop (j + 1)) with
          | none => rw [q] at this; exact this
          | some x =>
            rw [q] at this
            simp only [pFin, List.append_assoc, List.singleton_append] at this ⊢
            exact this
    · have c0 : ¬ (((((split 59 ls[j]).map B).length : Nat) : Int) = 2) := by rw [List.length_map]; omega
      simp only [c0, if_false]
      unfold pGTs
      rw [pGT_none h2]
      exact Ev.val rfl
theorem byte_ne (b : T) (c : UInt8) : ((B b).toList != ([c] : List UInt8)) = !(decide (b = [c])) := by
  rw [toList_B]
  by_cases h : b = [c]
  · rw [decide_eq_true h, h]; simp
  · rw [decide_eq_false h]; simp [h]
theorem impl_ParseAggregator_j0 (a b : T) (ts : List T) (hls : ts.length ≤ 1000000 + 100000) (hp : ∀ x ∈ ts, x.length ≤ 4294967296) (x : Bool) :
    Ev (fun k => impl_ParseAggregator.j0 k ((a :: b :: ts).map B) x) (if x = true then ([], 0, false, false) else rAgg (pFin (pIr a).2 (pIr a).1 (decide (b = [49])) [] (pGTs ts))) := by
  refine Ev.succ ?_
  simp only [impl_ParseAggregator.j0]
  cases x
  · have c1 : (1 : Int) < ((((a :: b :: ts).map B).length : Nat) : Int) := by simp only [List.map_cons, List.length_cons]; omega
    have c2 : (0 : Int) < ((((a :: b :: ts).map B).length : Nat) : Int) := by omega
    have c3 : (2 : Int) ≤ ((((a :: b :: ts).map B).length : Nat) : Int) := by omega
    have r0 : rdOf ByteArray.empty ((a :: b :: ts).map B) 0 = B a := rfl
    have r1 : rdOf ByteArray.empty ((a :: b :: ts).map B) 1 = B b := rfl
    simp only [Bool.false_eq_true, if_false, c1, c2, c3, if_true, r0, r1, byte_one, Option.bind_some]
    refine Ev.then (impl_ParseInt_ev a) ?_
    exact impl_ParseAggregator_l0 ts hls hp (pIr a).2 (pIr a).1 (decide (b = [49])) ts.length 0 [] rfl (by omega) (by simp) (fun t ht => by cases ht)
  · simp only [if_true]; exact Ev.val rfl
theorem impl_ParseAggregator_ev (s : T) (hl : s.length ≤ 1048576) : Ev (fun k => impl_ParseAggregator.f k (B s)) (rAgg (pAgg s)) := by
  unfold impl_ParseAggregator.f
  refine Ev.then (impl_cut_ev s 47 (by omega)) ?_
  have hp : ∀ x ∈ split 47 s, x.length ≤ s.length := fun x hx => split_part 47 s x hx
  have hn := split_len 47 s
  unfold pAgg
  match hs : split 47 s with
  | [] => exact absurd hs (split_ne _ _)
  | [a] =>
    simp only [List.map_cons, List.map_nil, List.length_cons, List.length_nil]
    refine Ev.succ ?_
    simp only [impl_ParseAggregator.j0, if_true]
    exact Ev.val rfl
  | a :: b :: ts =>
    have c0 : ¬ (((((a :: b :: ts).map B).length : Nat) : Int) < 2) := by simp only [List.map_cons, List.length_cons]; omega
    have c1 : (1 : Int) < ((((a :: b :: ts).map B).length : Nat) : Int) := by simp only [List.map_cons, List.length_cons]; omega
    have r1 : rdOf ByteArray.empty ((a :: b :: ts).map B) 1 = B b := rfl
    rw [hs] at hp hn
    simp only [List.length_cons] at hn
    have hj := impl_ParseAggregator_j0 a b ts (by omega) (fun x hx => by have := hp x (List.mem_cons_of_mem _ (List.mem_cons_of_mem _ hx)); omega)
    simp only [c0, c1, if_true, if_false, r1, toList_B]
    by_cases h0 : b = [48]
    · simp only [h0, if_true, true_or]
      subst h0
      refine Ev.of_eq (hj false) ?_
      simp only [Bool.false_eq_true, if_false]
      cases pGTs ts with
      | none => rfl
      | some l => rfl
    · simp only [h0, if_false, false_or]
      have e1 : (b != ([49] : List UInt8)) = !(decide (b = [49])) := by rw [← byte_ne, toList_B]
      rw [e1]
      refine Ev.of_eq (hj _) ?_
      by_cases h1 : b = [49]
      · simp only [h1, decide_true, Bool.not_true, Bool.false_eq_true, if_false, if_true]
        cases pGTs ts with
        | none => rfl
        | some l => rfl
      · simp only [h1, decide_false, Bool.not_false, if_true, if_false]
        rfl
theorem rAgg_len (o : Option Agg) (h : ∀ l n e, o = some (l, n, e) → vAgg l n = true) : (rAgg o).1.length ≤ 40 ∧ ∀ t ∈ (rAgg o).1, t.f0.length ≤ 24 := by
  match o, h with
  | none, _ => exact ⟨by simp [rAgg], fun t ht => by cases ht⟩
  | some (l, n, e), h =>
    have hv := vAgg_imp (h l n e rfl)
    exact ⟨hv.few, fun t ht => ((vRows_iff _).1 (hv.all t ht).1).1⟩
theorem pAgg_v {s : T} {l : List GT} {n : Int} {e : Bool} (h : pAgg s = some (l, n, e)) : vAgg l n = true := by
  unfold pAgg at h
  split at h
  · split at h
    · cases q : pGTs _ with
      | none => rw [q] at h; cases h
      | some x =>
        rw [q] at h
        dsimp only at h
        split at h
        · rename_i hc
          injection h with h
          injection h with h1 h2
          injection h2 with h2 h3
          subst h1 h2
          exact hc.2
        · cases h
    · cases h
  · cases h
end
open Plain Br
section
theorem law_ExactParseAggregator (s : T) : Ev (fun k => laws_FnExactParseAggregator.f k (B s)) true := by
  unfold laws_FnExactParseAggregator.f
  by_cases hs : s.length > 1048576
  · have c : ((B s).size : Int) > 1048576 := by rw [size_B]; omega
    simp only [c, if_true]; exact Ev.val rfl
  · have c : ¬ (((B s).size : Int) > 1048576) := by rw [size_B]; omega
    simp only [c, if_false]
    have h1 := spec_ParseAggregator_ev s (by omega)
    have h2 := impl_ParseAggregator_ev s (by omega)
    obtain ⟨hl, hr⟩ := rAgg_len (pAgg s) (fun l n e h => pAgg_v h)
    obtain ⟨⟨l, n, e, ok⟩, hq⟩ : ∃ q, rAgg (pAgg s) = q := ⟨_, rfl⟩
    rw [hq] at h1 h2 hl hr
    dsimp only at hl hr
    refine Ev.then h1 ?_
    refine Ev.then h2 ?_
    refine Ev.then (laws_eqAggregator_self l n e (by omega) hr) ?_
    simp only [and_self, if_true]
    refine Ev.then (laws_markAggregator_ev l n e (by omega) hr) ?_
    have h24 : ∀ x ∈ l.map fun t => t.f0.length, x ≤ 24 := by intro x hx; obtain ⟨t, ht, rfl⟩ := List.mem_map.1 hx; exact hr t ht
    refine Ev.then (laws_heldAggregator_ev (l.map fun t => t.f0.length) n e (by rw [List.length_map]; omega) h24) ?_
    have hE := endG_ge (l.map fun t => t.f0.length) 1
    have c2 : ¬ (endG (l.map fun t => t.f0.length) 1 < 0) := by omega
    simp only [c2, not_false_eq_true, and_self, if_true]
    exact Ev.val rfl
theorem FnExactParseAggregator_pure : laws_FnExactParseAggregator.Pure := by
  intro a _
  rw [← B_L a]
  exact Ev.rounds (law_ExactParseAggregator (L a))
end
end Go.Proofs.Ytphkghnppcfdpaa.P
