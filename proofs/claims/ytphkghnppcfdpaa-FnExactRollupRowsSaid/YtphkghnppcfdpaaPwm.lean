/- For every list of rows the law FnExactRollupRows of the given program returns true and leaves its argument as it was; no condition. -/
import Derived.Test.YtphkghnppcfdpaaPwf3
namespace Go.Proofs.Ytphkghnppcfdpaa.P
open Go.RowKit Go.Proofs.YtphkghnppcfdpaaW.PrintWords Go.Proofs.YtphkghnppcfdpaaW.PrintLast
set_option linter.unusedVariables false
set_option linter.unusedSimpArgs false
namespace Plain

abbrev T := List UInt8

def split (s : UInt8) : T → List T
 | [] => [[]]
 | c :: r => if c = s then [] :: split s r else match split s r with
  | h :: t => (c :: h) :: t
  | [] => [[c]]
end Plain
open Plain
namespace Br

theorem Ev.succ {α : Type} {g : Nat → Option α} {r : α} (h : Ev (fun k => g (k + 1)) r) : Ev g r := by
 obtain ⟨K, h⟩ := h
 refine ⟨K + 1, fun k hk => ?_⟩
 have := h (k - 1) (by omega)
 simpa [show k - 1 + 1 = k by omega] using this
theorem Ev.val {α : Type} {v r : α} (h : v = r) : Ev (fun _ => some v) r := ⟨0, fun _ _ => by rw [h]⟩
theorem Ev.then {α β : Type} {g : Nat → Option α} {f : Nat → α → Option β} {a : α} {r : β} (h : Ev g a) (k : Ev (fun n => f n a) r) : Ev (fun n => (g n).bind (f n)) r := Ev.bind h k
theorem Ev.one {α : Type} {g : Nat → Option α} {a : α} (h : Ev g a) : Ev (fun n => (g n).bind fun t => some t) a := Ev.bind h (Ev.val rfl)
def L (s : ByteArray) : T := s.data.toList
theorem w64 {n : Int} (h1 : -9223372036854775808 ≤ n) (h2 : n ≤ 9223372036854775807) : wrap64 n = n := by unfold wrap64; omega
end Br
open Plain Br
section
end
open Plain Br
section
theorem succ64 (j : Nat) (hj : j < 9223372036854775807) : wrap64 ((j : Int) + 1) = ((j + 1 : Nat) : Int) := by unfold wrap64; omega
end
open Plain Br
section
abbrev Row := S114
theorem rd_row (xs : List Row) (j : Nat) (h : j < xs.length) : rd_T114 xs (j : Int) = xs[j] := by
 unfold rd_T114
 rw [Int.toNat_natCast, List.getD_eq_getElem?_getD, List.getElem?_eq_getElem h]
 rfl
end
open Plain Br
section
end
open Plain Br
section
end
open Plain Br
section
abbrev Grp := S60
abbrev RR := S62
def inR (n : Int) : Prop := -9223372036854775808 ≤ n ∧ n ≤ 9223372036854775807
def okG (g : Grp) : Prop := inR g.f0 ∧ inR g.f1 ∧ inR g.f2 ∧ inR g.f3 ∧ inR g.f4
theorem wrap_in (n : Int) : inR (wrap64 n) := by unfold inR wrap64; omega
def cmb (a b : Grp) : Grp := if a.f0 = b.f0 then ⟨a.f0, wrap64 (a.f1 + b.f1), wrap64 (a.f2 + b.f2), mn a.f3 b.f3, mx a.f4 b.f4⟩ else a
theorem cmb_key (a b : Grp) : (cmb a b).f0 = a.f0 := by unfold cmb; split <;> rfl
theorem cmb_ne {a b : Grp} (h : a.f0 ≠ b.f0) : cmb a b = a := by unfold cmb; rw [if_neg h]
theorem mn_in {a b : Int} (h : inR a) (k : inR b) : inR (mn a b) := by unfold mn; split <;> assumption
theorem mx_in {a b : Int} (h : inR a) (k : inR b) : inR (mx a b) := by unfold mx; split <;> assumption
theorem cmb_ok {a b : Grp} (h : okG a) (k : okG b) : okG (cmb a b) := by
 unfold cmb
 split
 ·exact ⟨h.1, wrap_in _, wrap_in _, mn_in h.2.2.2.1 k.2.2.2.1, mx_in h.2.2.2.2 k.2.2.2.2⟩
 ·exact h
theorem impl_Combine_eq (a b : Grp) : impl_CombineGroups.f a.f0 a.f1 a.f2 a.f3 a.f4 b.f0 b.f1 b.f2 b.f3 b.f4 = some ((cmb a b).f0, (cmb a b).f1, (cmb a b).f2, (cmb a b).f3, (cmb a b).f4) := by
 unfold impl_CombineGroups.f cmb
 by_cases h : a.f0 = b.f0 <;> simp only [h, if_true, if_false]
theorem spec_Combine_eq (a b : Grp) : spec_CombineGroups.f a.f0 a.f1 a.f2 a.f3 a.f4 b.f0 b.f1 b.f2 b.f3 b.f4 = some ((cmb a b).f0, (cmb a b).f1, (cmb a b).f2, (cmb a b).f3, (cmb a b).f4) := by
 unfold spec_CombineGroups.f cmb
 by_cases h : a.f0 = b.f0 <;> simp only [h, if_true, if_false]
def keys (l : List Grp) : List Int := l.map (·.f0)
theorem set_eq_map {l : List Grp} {g : Grp} {i : Nat} (hd : (keys l).Nodup) (hi : i < l.length) (hk : l[i].f0 = g.f0) : l.set i (cmb l[i] g) = l.map (fun e => cmb e g) := by
 refine List.ext_getElem (by simp) ?_
 intro j h1 h2
 have hj : j < l.length := by simpa using h1
 rw [List.getElem_set, List.getElem_map]
 split
 ·rename_i q; subst q; rfl
 ·rename_i q
  have hne : l[j].f0 ≠ g.f0 := by
   intro e
   have : (keys l)[i]'(by simpa [keys] using hi) = (keys l)[j]'(by simpa [keys] using hj) := by simp [keys, hk, e]
   exact q ((List.getElem_inj hd).1 this)
  rw [cmb_ne hne]
def imStep (out : List Grp) (g : Grp) : List Grp := match (keys out).findIdx? (· == g.f0) with
 | some i => out.set i (cmb (out.getD i z60) g)
 | none => out ++ [g]
def smPos (S : List Grp) (key : Int) : Nat → Nat → Nat
 | 0, j => j
 | d + 1, j => if (S.getD j z60).f0 < key then smPos S key d (j + 1) else j
def smAt (S : List Grp) (g : Grp) (p : Nat) : List Grp := if p < S.length ∧ (S.getD p z60).f0 = g.f0 then S.set p (cmb (S.getD p z60) g) else S.take p ++ (g :: S.drop p)
def smStep (S : List Grp) (g : Grp) : List Grp := smAt S g (smPos S g.f0 S.length 0)
def mrg (gs : List Grp) : List Grp := gs.foldl smStep []
theorem getD_get {l : List Grp} {i : Nat} (h : i < l.length) : l.getD i z60 = l[i] := by rw [List.getD_eq_getElem?_getD, List.getElem?_eq_getElem h]; rfl
theorem smPos_spec (S : List Grp) (key : Int) : ∀ d j, d + j = S.length → (∀ i, i < j → (S.getD i z60).f0 < key) → smPos S key d j ≤ S.length ∧ (∀ i, i < smPos S key d j → (S.getD i z60).f0 < key) ∧ (smPos S key d j < S.length → key ≤ (S.getD (smPos S key d j) z60).f0)
 | 0, j, h, hj => ⟨by unfold smPos; omega, hj, fun q => by unfold smPos at q; omega⟩
 | d + 1, j, h, hj => by
  unfold smPos
  by_cases q : (S.getD j z60).f0 < key
  ·rw [if_pos q]
   refine smPos_spec S key d (j + 1) (by omega) ?_
   intro i hi
   by_cases e : i = j
   ·subst e; exact q
   ·exact hj i (by omega)
  ·rw [if_neg q]
   exact ⟨by omega, hj, fun _ => by omega⟩
structure Both (S I : List Grp) : Prop where
 perm : I.Perm S
 asc : S.Pairwise (fun a b => a.f0 < b.f0)
theorem Both.nodupS {S I : List Grp} (h : Both S I) : (keys S).Nodup := by
 unfold keys List.Nodup
 rw [List.pairwise_map]
 exact h.asc.imp (fun h => by omega)
theorem Both.nodupI {S I : List Grp} (h : Both S I) : (keys I).Nodup := by
 have := h.nodupS
 unfold keys at this ⊢
 exact (List.Perm.nodup_iff (h.perm.map _)).2 this
theorem imStep_cases {I : List Grp} (hd : (keys I).Nodup) (g : Grp) : (g.f0 ∈ keys I ∧ imStep I g = I.map (fun e => cmb e g)) ∨ (g.f0 ∉ keys I ∧ imStep I g = I ++ [g]) := by
 unfold imStep
 cases e : (keys I).findIdx? (· == g.f0) with
 | none =>
  right
  rw [List.findIdx?_eq_none_iff] at e
  exact ⟨fun hm => by have := e _ hm; simp at this, rfl⟩
 | some i =>
  left
  obtain ⟨hi, hp, _⟩ := List.findIdx?_eq_some_iff_getElem.1 e
  have hi' : i < I.length := by simpa [keys] using hi
  have hk : I[i].f0 = g.f0 := by simpa [keys] using hp
  refine ⟨List.mem_map.2 ⟨I[i], List.getElem_mem _, hk⟩, ?_⟩
  show I.set i (cmb (I.getD i z60) g) = _
  rw [getD_get hi']
  exact set_eq_map hd hi' hk
theorem smStep_cases {S : List Grp} (ha : S.Pairwise (fun a b => a.f0 < b.f0)) (hd : (keys S).Nodup) (g : Grp) : (g.f0 ∈ keys S ∧ smStep S g = S.map (fun e => cmb e g)) ∨ (g.f0 ∉ keys S ∧ (smStep S g).Perm (S ++ [g]) ∧ (smStep S g).Pairwise (fun a b => a.f0 < b.f0)) := by
 obtain ⟨p1, p2, p3⟩ := smPos_spec S g.f0 S.length 0 (by omega) (fun i hi => absurd hi (Nat.not_lt_zero i))
 unfold smStep smAt
 generalize smPos S g.f0 S.length 0 = p at p1 p2 p3
 by_cases q : p < S.length ∧ (S.getD p z60).f0 = g.f0
 ·rw [if_pos q]
  left
  obtain ⟨q1, q2⟩ := q
  rw [getD_get q1] at q2 ⊢
  exact ⟨List.mem_map.2 ⟨S[p], List.getElem_mem _, q2⟩, set_eq_map hd q1 q2⟩
 ·rw [if_neg q]
  right
  have hi : ∀ i (h : i < S.length), p ≤ i → g.f0 < S[i].f0 := by
   intro i h hp
   have hpl : p < S.length := by omega
   have h3 := p3 hpl
   rw [getD_get hpl] at h3 q
   have hne : S[p].f0 ≠ g.f0 := fun e => q ⟨hpl, e⟩
   by_cases e : p = i
   ·subst e; omega
   ·have := List.pairwise_iff_getElem.1 ha p i hpl h (by omega)
    omega
  have hlo : ∀ i (h : i < S.length), i < p → S[i].f0 < g.f0 := by
   intro i h hp
   have := p2 i hp
   rwa [getD_get h] at this
  refine ⟨?_, ?_, ?_⟩
  ·intro hm
   obtain ⟨e, he, hk⟩ := List.mem_map.1 hm
   obtain ⟨i, h, rfl⟩ := List.mem_iff_getElem.1 he
   by_cases hp : p ≤ i
   ·have := hi i h hp; omega
   ·have := hlo i h (by omega); omega
  ·have h1 := @List.perm_middle _ g (S.take p) (S.drop p)
   rw [List.take_append_drop] at h1
   exact h1.trans (List.perm_append_comm (l₁ := [g]) (l₂ := S))
  ·have h' : (S.take p ++ S.drop p).Pairwise (fun a b => a.f0 < b.f0) := by rw [List.take_append_drop]; exact ha
   obtain ⟨a1, a2, a3⟩ := List.pairwise_append.1 h'
   rw [List.pairwise_append]
   refine ⟨a1, List.pairwise_cons.2 ⟨?_, a2⟩, ?_⟩
   ·intro y hy
    obtain ⟨i, h, rfl⟩ := List.mem_iff_getElem.1 hy
    rw [List.length_drop] at h
    rw [List.getElem_drop]
    exact hi _ (by omega) (by omega)
   ·intro x hx y hy
    obtain ⟨i, h, rfl⟩ := List.mem_iff_getElem.1 hx
    rw [List.length_take] at h
    rw [List.getElem_take]
    rcases List.mem_cons.1 hy with rfl | hy
    ·exact hlo i (by omega) (by omega)
    ·have := hlo i (by omega) (by omega)
     obtain ⟨j, hj, rfl⟩ := List.mem_iff_getElem.1 hy
     rw [List.length_drop] at hj
     rw [List.getElem_drop]
     have := hi (p + j) (by omega) (by omega)
     omega
theorem both_step {S I : List Grp} (h : Both S I) (g : Grp) : Both (smStep S g) (imStep I g) := by
 have hm : g.f0 ∈ keys I ↔ g.f0 ∈ keys S := (h.perm.map (·.f0)).mem_iff
 rcases imStep_cases h.nodupI g with ⟨m1, e1⟩ | ⟨m1, e1⟩
 ·rcases smStep_cases h.asc h.nodupS g with ⟨m2, e2⟩ | ⟨m2, _⟩
  ·rw [e1, e2]
   refine ⟨h.perm.map _, ?_⟩
   rw [List.pairwise_map]
   exact h.asc.imp (fun q => by rw [cmb_key, cmb_key]; exact q)
  ·exact absurd (hm.1 m1) m2
 ·rcases smStep_cases h.asc h.nodupS g with ⟨m2, e2⟩ | ⟨m2, p2, a2⟩
  ·exact absurd (hm.2 m2) m1
  ·rw [e1]
   exact ⟨(h.perm.append_right [g]).trans p2.symm, a2⟩
theorem both_fold : ∀ (gs : List Grp) {S I : List Grp}, Both S I → Both (gs.foldl smStep S) (gs.foldl imStep I)
 | [], _, _, h => h
 | g :: gs, _, _, h => both_fold gs (both_step h g)
theorem both_mrg (gs : List Grp) : Both (mrg gs) (gs.foldl imStep []) := both_fold gs ⟨List.Perm.refl _, List.Pairwise.nil⟩
theorem sort_mrg (gs : List Grp) : mgSort (gs.foldl imStep []) = mrg gs := by
 have h := both_mrg gs
 exact (mgSort_unique h.nodupI h.perm.symm (h.asc.imp (fun q => by omega))).symm
theorem smStep_len (S : List Grp) (g : Grp) : (smStep S g).length ≤ S.length + 1 := by
 unfold smStep smAt
 split
 ·rw [List.length_set]; omega
 ·rw [List.length_append, List.length_cons, List.length_take, List.length_drop]; omega
theorem fold_len : ∀ (gs S : List Grp), (gs.foldl smStep S).length ≤ S.length + gs.length
 | [], S => by simp
 | g :: gs, S => by
  have h1 := fold_len gs (smStep S g)
  have h2 := smStep_len S g
  rw [List.foldl_cons, List.length_cons]
  omega
theorem mrg_len (gs : List Grp) : (mrg gs).length ≤ gs.length := by have := fold_len gs []; simpa [mrg] using this
theorem smStep_mem {P : Grp → Prop} (hc : ∀ a b, P a → P b → P (cmb a b)) {S : List Grp} {g : Grp} (hS : ∀ x ∈ S, P x) (hg : P g) : ∀ x ∈ smStep S g, P x := by
 intro x hx
 unfold smStep smAt at hx
 split at hx
 ·rename_i q
  rcases List.mem_or_eq_of_mem_set hx with h | h
  ·exact hS x h
  ·rw [h, getD_get q.1]
   exact hc _ _ (hS _ (List.getElem_mem _)) hg
 ·rcases List.mem_append.1 hx with h | h
  ·exact hS x (List.mem_of_mem_take h)
  ·rcases List.mem_cons.1 h with h | h
   ·rw [h]; exact hg
   ·exact hS x (List.mem_of_mem_drop h)
theorem fold_mem {P : Grp → Prop} (hc : ∀ a b, P a → P b → P (cmb a b)) : ∀ (gs S : List Grp), (∀ x ∈ S, P x) → (∀ x ∈ gs, P x) → ∀ x ∈ gs.foldl smStep S, P x
 | [], S, hS, _ => hS
 | g :: gs, S, hS, hg => fold_mem hc gs (smStep S g) (smStep_mem hc hS (hg g (by simp))) (fun x hx => hg x (by simp [hx]))
theorem mrg_ok {gs : List Grp} (h : ∀ x ∈ gs, okG x) : ∀ x ∈ mrg gs, okG x := fold_mem (fun _ _ => cmb_ok) gs [] (by simp) h

theorem wf64 {n : Int} (h : inR n) : (Lit.int .i64 n).wf = true := by
 simp [Lit.wf, IntKind.min, IntKind.max, IntKind.signed, IntKind.bits]
 exact h
theorem rd_grp (xs : List Grp) (j : Nat) (h : j < xs.length) : rd_T60 xs (j : Int) = xs[j] := by
 unfold rd_T60
 rw [Int.toNat_natCast]
 exact getD_get h
theorem rdg_at {L a : List Grp} {x : Grp} {b : List Grp} (h : a ++ x :: b = L) : rd_T60 L (a.length : Int) = x ∧ (a.length : Int) < (L.length : Int) ∧ (0 : Int) ≤ (a.length : Int) := by
 subst h
 refine ⟨?_, by rw [List.length_append, List.length_cons]; omega, by omega⟩
 rw [rd_grp _ _ (by rw [List.length_append, List.length_cons]; omega)]
 simp
theorem snocG_len {α : Type} (a : List α) (x : α) : (a ++ [x]).length = a.length + 1 := by simp
theorem snocG_eq {α : Type} {a : List α} {x : α} {b L : List α} (h : a ++ x :: b = L) : (a ++ [x]) ++ b = L := by rw [← h]; simp
theorem endG {α : Type} {L a : List α} (h : a ++ [] = L) : ¬ ((a.length : Int) < (L.length : Int)) := by rw [← h, List.append_nil]; omega
theorem imStep_len (S : List Grp) (g : Grp) : (imStep S g).length ≤ S.length + 1 := by
 unfold imStep
 split
 ·rw [List.length_set]; omega
 ·rw [List.length_append, List.length_singleton]; omega
theorem imStep_some {S : List Grp} {g : Grp} {i : Nat} (h : (keys S).findIdx? (· == g.f0) = some i) : imStep S g = S.set i (cmb (S.getD i z60) g) := by unfold imStep; rw [h]
theorem imStep_none {S : List Grp} {g : Grp} (h : (keys S).findIdx? (· == g.f0) = none) : imStep S g = S ++ [g] := by unfold imStep; rw [h]
theorem impl_Merge_l0 (L : List Grp) (hL : L.length ≤ 10000000) : ∀ (b a out : List Grp), a ++ b = L → (∀ x ∈ b, inR x.f0) → out.length + b.length ≤ 10000000 →
  Ev (fun k => impl_MergeGroups.l0 k out L (L.length : Int) (a.length : Int)) (b.foldl imStep out)
 | [], a, out, h, _, _ => by
  refine Ev.succ ?_
  simp only [impl_MergeGroups.l0, endG h, if_false]
  exact Ev.val rfl
 | g :: b, a, out, h, hk, hl => by
  obtain ⟨e, c1, c2⟩ := rdg_at h
  rw [List.length_cons] at hl
  have hs := imStep_len out g
  have ih := impl_Merge_l0 L hL b (a ++ [g]) (imStep out g) (snocG_eq h) (fun x hx => hk x (by simp [hx])) (by omega)
  rw [snocG_len] at ih
  have ha : a.length < L.length := by omega
  refine Ev.succ ?_
  simp only [impl_MergeGroups.l0, c1, c2, if_true, e, mgIdx, wf64 (hk g (by simp)), succ64 a.length (by omega), List.foldl_cons]
  cases q : (keys out).findIdx? (· == g.f0) with
  | none =>
   have q' : (out.map (·.f0)).findIdx? (· == g.f0) = none := q
   rw [imStep_none q] at ih ⊢
   have c3 : out.length < 3518437208883 := by omega
   simp only [q', Option.bind_some, Bool.false_eq_true, if_false, c3, if_true]
   exact ih
  | some i =>
   have q' : (out.map (·.f0)).findIdx? (· == g.f0) = some i := q
   rw [imStep_some q] at ih ⊢
   obtain ⟨hi, _, _⟩ := List.findIdx?_eq_some_iff_getElem.1 q
   have hi' : i < out.length := by simpa [keys] using hi
   have c3 : (0 : Int) ≤ (i : Int) := by omega
   have c4 : (i : Int) < (out.length : Int) := by omega
   simp only [q', Option.bind_some, if_true, c3, c4, rd_grp out i hi', impl_Combine_eq, Int.toNat_natCast]
   rw [getD_get hi'] at ih ⊢
   exact ih
theorem impl_Merge_ev (gs : List Grp) (hl : gs.length ≤ 10000000) (hk : ∀ x ∈ gs, inR x.f0) : Ev (fun k => impl_MergeGroups.f k gs) (mrg gs) := by
 have h := impl_Merge_l0 gs hl gs [] [] rfl hk (by simp; omega)
 unfold impl_MergeGroups.f
 refine Ev.then h ?_
 have hp := (both_mrg gs).perm.length_eq
 have hm := mrg_len gs
 rw [if_pos (by omega), sort_mrg]
 exact Ev.val rfl
theorem spec_Merge_l1 (L S : List Grp) (g : Grp) (j : Nat) (hj : j < L.length) (hg : L[j] = g) (hL : L.length ≤ 10000000) (hS : S.length ≤ 10000000) (r : List Grp) : ∀ (d p : Nat), d + p = S.length →
  Ev (fun k => spec_MergeGroups.l0 k L (smAt S g (smPos S g.f0 d p)) ((j + 1 : Nat) : Int)) r →
  Ev (fun k => spec_MergeGroups.l1 k L S (j : Int) (p : Int)) r := by
 have c2 : (0 : Int) ≤ (j : Int) := by omega
 have c3 : (j : Int) < (L.length : Int) := by omega
 have fin : ∀ p : Nat, p ≤ S.length → ([g] : List Grp).length + (S.drop p).length < 3518437208883 ∧ ([] : List Grp).length + (S.take p).length < 3518437208883 ∧ (S.take p).length + ([g] ++ S.drop p).length < 3518437208883 := by
  intro p hp
  refine ⟨by rw [List.length_drop, List.length_singleton]; omega, by rw [List.length_take, List.length_nil]; omega, by rw [List.length_append, List.length_take, List.length_drop, List.length_singleton]; omega⟩
 intro d
 induction d with
 | zero =>
  intro p hp H
  obtain rfl : p = S.length := by omega
  obtain ⟨f1, f2, f3⟩ := fin S.length (Nat.le_refl _)
  unfold smPos smAt at H
  rw [if_neg (by omega)] at H
  refine Ev.succ ?_
  have c5 : (0 : Int) ≤ (S.length : Int) := by omega
  simp only [spec_MergeGroups.l1, show ¬ ((S.length : Int) < (S.length : Int)) from by omega, if_false, c2, c3, c5, if_true, rd_grp L j hj, hg, Option.bind_some, Int.le_refl, Int.toNat_natCast, f1, f2, f3, List.nil_append, succ64 j (by omega)]
  exact H
 | succ d ih =>
  intro p hp H
  have hpl : p < S.length := by omega
  have c5 : (0 : Int) ≤ (p : Int) := by omega
  have c6 : (p : Int) < (S.length : Int) := by omega
  have c7 : (p : Int) ≤ (S.length : Int) := by omega
  obtain ⟨f1, f2, f3⟩ := fin p (by omega)
  unfold smPos at H
  rw [getD_get hpl] at H
  refine Ev.succ ?_
  simp only [spec_MergeGroups.l1, c2, c3, c5, c6, if_true, rd_grp L j hj, rd_grp S p hpl, hg]
  by_cases q : S[p].f0 < g.f0
  ·rw [if_pos q] at H
   simp only [q, if_true, succ64 p (by omega)]
   exact ih (p + 1) (by omega) H
  ·rw [if_neg q] at H
   unfold smAt at H
   rw [getD_get hpl] at H
   simp only [q, if_false]
   by_cases e : S[p].f0 = g.f0
   ·rw [if_pos ⟨hpl, e⟩] at H
    simp only [if_pos e, spec_Combine_eq, Option.bind_some, Int.toNat_natCast, succ64 j (by omega)]
    exact H
   ·rw [if_neg (fun x => e x.2)] at H
    simp only [if_neg e, Option.bind_some, c7, if_true, Int.toNat_natCast, f1, f2, f3, List.nil_append, succ64 j (by omega)]
    exact H
theorem spec_Merge_l0 (L : List Grp) (hL : L.length ≤ 10000000) : ∀ (b a S : List Grp), a ++ b = L → S.length + b.length ≤ 10000000 →
  Ev (fun k => spec_MergeGroups.l0 k L S (a.length : Int)) (b.foldl smStep S)
 | [], a, S, h, _ => by
  refine Ev.succ ?_
  simp only [spec_MergeGroups.l0, endG h, if_false]
  exact Ev.val rfl
 | g :: b, a, S, h, hl => by
  obtain ⟨e, c1, c2⟩ := rdg_at h
  rw [List.length_cons] at hl
  have hs := smStep_len S g
  have ih := spec_Merge_l0 L hL b (a ++ [g]) (smStep S g) (snocG_eq h) (by omega)
  rw [snocG_len] at ih
  have ha : a.length < L.length := by omega
  have hg : L[a.length] = g := by subst h; simp
  refine Ev.succ ?_
  simp only [spec_MergeGroups.l0, c1, if_true, List.foldl_cons]
  exact spec_Merge_l1 L S g a.length ha hg hL (by omega) _ S.length 0 (by omega) ih
theorem spec_Merge_ev (gs : List Grp) (hl : gs.length ≤ 10000000) : Ev (fun k => spec_MergeGroups.f k gs) (mrg gs) := by
 have h := spec_Merge_l0 gs hl gs [] [] rfl (by simp; omega)
 simpa [spec_MergeGroups.f, mrg] using h
end
open Plain Br
section
def rk (key lev : Int) : Int := if lev = 0 then key else if lev = 1 then wrap64 (Int.tdiv key 5) else 0
def rekey (lev : Int) (g : Grp) : Grp := ⟨rk g.f0 lev, g.f1, g.f2, g.f3, g.f4⟩
def lv (gs : List Grp) (v : Int) : List RR := (mrg (gs.map (rekey v))).map fun g => ⟨v, g⟩
def roll (gs : List Grp) : List RR := lv gs 0 ++ (lv gs 1 ++ lv gs 2)
def gfr (r : Row) : Grp := ⟨r.f0, 1, r.f1, r.f1, r.f1⟩
def refG (l : List Row) : List Grp := mrg (l.map gfr)
theorem impl_RollupKey_eq (a b : Int) : impl_RollupKey.f a b = some (rk a b) := by
 unfold impl_RollupKey.f rk
 by_cases h : b = 0
 ·simp only [h, if_true]
 ·by_cases h1 : b = 1 <;> simp only [h, h1, if_true, if_false, show ¬ ((1 : Int) = 0) from by decide]
theorem spec_RollupKey_eq (a b : Int) : spec_RollupKey.f a b = some (rk a b) := by
 unfold spec_RollupKey.f rk
 by_cases h : b = 0
 ·simp only [h, if_true]
 ·by_cases h1 : b = 1 <;> simp only [h, h1, if_true, if_false, show ¬ ((1 : Int) = 0) from by decide]
theorem rk_in {a b : Int} (h : inR a) : inR (rk a b) := by
 unfold rk
 split
 ·exact h
 ·split
  ·exact wrap_in _
  ·unfold inR; omega
theorem rekey_ok {v : Int} {g : Grp} (h : okG g) : okG (rekey v g) := ⟨rk_in h.1, h.2⟩
theorem lv_len (gs : List Grp) (v : Int) : (lv gs v).length ≤ gs.length := by
 have := mrg_len (gs.map (rekey v))
 unfold lv
 rw [List.length_map]
 rw [List.length_map] at this
 exact this
theorem impl_roll_l2 (gs M : List Grp) (v : Nat) (hM : M.length ≤ 10000000) (r : List RR) : ∀ (b a : List Grp) (out : List RR), a ++ b = M → out.length + b.length ≤ 1000000000 →
  Ev (fun k => impl_RollupGroups.l0 k gs (out ++ b.map fun g => ⟨(v : Int), g⟩) (wrap64 ((v : Int) + 1))) r →
  Ev (fun k => impl_RollupGroups.l2 k gs out (v : Int) (v : Int) M (M.length : Int) (a.length : Int)) r
 | [], a, out, h, _, H => by
  refine Ev.succ ?_
  simp only [impl_RollupGroups.l2, endG h, if_false]
  simpa using H
 | g :: b, a, out, h, hl, H => by
  obtain ⟨e, c1, c2⟩ := rdg_at h
  rw [List.length_cons] at hl
  have ha : a.length < M.length := by omega
  have ih := impl_roll_l2 gs M v hM r b (a ++ [g]) (out ++ [⟨(v : Int), g⟩]) (snocG_eq h) (by rw [snocG_len]; omega) (by rw [List.append_assoc]; exact H)
  rw [snocG_len] at ih
  refine Ev.succ ?_
  have c3 : out.length < 2932031007402 := by omega
  simp only [impl_RollupGroups.l2, c1, c2, c3, if_true, e, succ64 a.length (by omega)]
  exact ih
theorem impl_roll_l1 (gs : List Grp) (v : Nat) (out : List RR) (hl : gs.length ≤ 10000000) (r : List RR) : ∀ (b a acc : List Grp), a ++ b = gs → acc.length + b.length ≤ 10000000 →
  Ev (fun k => (impl_MergeGroups.f k (acc ++ b.map (rekey (v : Int)))).bind fun t => impl_RollupGroups.l2 k gs out (v : Int) (v : Int) t (t.length : Int) 0) r →
  Ev (fun k => impl_RollupGroups.l1 k gs out (v : Int) acc (v : Int) gs (gs.length : Int) (a.length : Int)) r
 | [], a, acc, h, _, H => by
  refine Ev.succ ?_
  simp only [impl_RollupGroups.l1, endG h, if_false]
  simpa using H
 | g :: b, a, acc, h, hb, H => by
  obtain ⟨e, c1, c2⟩ := rdg_at h
  rw [List.length_cons] at hb
  have ha : a.length < gs.length := by omega
  have ih := impl_roll_l1 gs v out hl r b (a ++ [g]) (acc ++ [rekey (v : Int) g]) (snocG_eq h) (by rw [snocG_len]; omega) (by rw [List.append_assoc]; exact H)
  rw [snocG_len] at ih
  refine Ev.succ ?_
  have c3 : acc.length < 3518437208883 := by omega
  simp only [impl_RollupGroups.l1, c1, c2, c3, if_true, e, impl_RollupKey_eq, Option.bind_some, succ64 a.length (by omega)]
  exact ih
theorem impl_roll_step (gs : List Grp) (hg : ∀ x ∈ gs, okG x) (hl : gs.length ≤ 10000000) (v : Nat) (hv : v < 3) (out : List RR) (ho : out.length ≤ 100000000) (r : List RR)
  (H : Ev (fun k => impl_RollupGroups.l0 k gs (out ++ lv gs (v : Int)) (wrap64 ((v : Int) + 1))) r) : Ev (fun k => impl_RollupGroups.l0 k gs out (v : Int)) r := by
 refine Ev.succ ?_
 simp only [impl_RollupGroups.l0, show (v : Int) < 3 from by omega, if_true]
 refine impl_roll_l1 gs v out hl r gs [] [] rfl (by simp; omega) ?_
 rw [List.nil_append]
 refine Ev.then (impl_Merge_ev _ (by rw [List.length_map]; exact hl) ?_) ?_
 ·intro x hx
  obtain ⟨y, hy, rfl⟩ := List.mem_map.1 hx
  exact (rekey_ok (hg y hy)).1
 ·have hm := mrg_len (gs.map (rekey (v : Int)))
  rw [List.length_map] at hm
  exact impl_roll_l2 gs _ v (by omega) r (mrg (gs.map (rekey (v : Int)))) [] out rfl (by omega) H
theorem impl_Rollup_ev (gs : List Grp) (hg : ∀ x ∈ gs, okG x) (hl : gs.length ≤ 10000000) : Ev (fun k => impl_RollupGroups.f k gs) (roll gs) := by
 have l0 := lv_len gs 0
 have l1 := lv_len gs 1
 unfold impl_RollupGroups.f
 refine impl_roll_step gs hg hl 0 (by omega) [] (by simp) _ ?_
 rw [List.nil_append, show wrap64 (((0 : Nat) : Int) + 1) = ((1 : Nat) : Int) from succ64 0 (by omega)]
 refine impl_roll_step gs hg hl 1 (by omega) _ (by show (lv gs 0).length ≤ _; omega) _ ?_
 rw [show wrap64 (((1 : Nat) : Int) + 1) = ((2 : Nat) : Int) from succ64 1 (by omega)]
 refine impl_roll_step gs hg hl 2 (by omega) _ (by rw [List.length_append]; show (lv gs 0).length + (lv gs 1).length ≤ _; omega) _ ?_
 rw [show wrap64 (((2 : Nat) : Int) + 1) = ((3 : Nat) : Int) from succ64 2 (by omega)]
 refine Ev.succ ?_
 simp only [impl_RollupGroups.l0, show ¬ (((3 : Nat) : Int) < 3) from by omega, if_false, List.append_assoc]
 exact Ev.val rfl
theorem spec_roll_l2 (gs M : List Grp) (v : Nat) (hM : M.length ≤ 10000000) (r : List RR) : ∀ (b a : List Grp) (out : List RR), a ++ b = M → out.length + b.length ≤ 1000000000 →
  Ev (fun k => spec_RollupGroups.l0 k gs (out ++ b.map fun g => ⟨(v : Int), g⟩) (wrap64 ((v : Int) + 1))) r →
  Ev (fun k => spec_RollupGroups.l2 k gs out (v : Int) M (a.length : Int)) r
 | [], a, out, h, _, H => by
  refine Ev.succ ?_
  simp only [spec_RollupGroups.l2, endG h, if_false]
  simpa using H
 | g :: b, a, out, h, hl, H => by
  obtain ⟨e, c1, c2⟩ := rdg_at h
  rw [List.length_cons] at hl
  have ha : a.length < M.length := by omega
  have ih := spec_roll_l2 gs M v hM r b (a ++ [g]) (out ++ [⟨(v : Int), g⟩]) (snocG_eq h) (by rw [snocG_len]; omega) (by rw [List.append_assoc]; exact H)
  rw [snocG_len] at ih
  refine Ev.succ ?_
  have c3 : out.length < 2932031007402 := by omega
  simp only [spec_RollupGroups.l2, c1, c2, c3, if_true, e, succ64 a.length (by omega)]
  exact ih
theorem spec_roll_l1 (gs : List Grp) (v : Nat) (out : List RR) (hl : gs.length ≤ 10000000) (r : List RR) : ∀ (b a acc : List Grp), a ++ b = gs → acc.length + b.length ≤ 10000000 →
  Ev (fun k => (spec_MergeGroups.f k (acc ++ b.map (rekey (v : Int)))).bind fun t => spec_RollupGroups.l2 k gs out (v : Int) t 0) r →
  Ev (fun k => spec_RollupGroups.l1 k gs out (v : Int) acc (a.length : Int)) r
 | [], a, acc, h, _, H => by
  refine Ev.succ ?_
  simp only [spec_RollupGroups.l1, endG h, if_false]
  simpa using H
 | g :: b, a, acc, h, hb, H => by
  obtain ⟨e, c1, c2⟩ := rdg_at h
  rw [List.length_cons] at hb
  have ha : a.length < gs.length := by omega
  have ih := spec_roll_l1 gs v out hl r b (a ++ [g]) (acc ++ [rekey (v : Int) g]) (snocG_eq h) (by rw [snocG_len]; omega) (by rw [List.append_assoc]; exact H)
  rw [snocG_len] at ih
  refine Ev.succ ?_
  have c3 : acc.length < 3518437208883 := by omega
  simp only [spec_RollupGroups.l1, c1, c2, c3, if_true, e, spec_RollupKey_eq, Option.bind_some, succ64 a.length (by omega)]
  exact ih
theorem spec_roll_step (gs : List Grp) (hl : gs.length ≤ 10000000) (v : Nat) (hv : v < 3) (out : List RR) (ho : out.length ≤ 100000000) (r : List RR)
  (H : Ev (fun k => spec_RollupGroups.l0 k gs (out ++ lv gs (v : Int)) (wrap64 ((v : Int) + 1))) r) : Ev (fun k => spec_RollupGroups.l0 k gs out (v : Int)) r := by
 refine Ev.succ ?_
 simp only [spec_RollupGroups.l0, show (v : Int) < 3 from by omega, if_true]
 refine spec_roll_l1 gs v out hl r gs [] [] rfl (by simp; omega) ?_
 rw [List.nil_append]
 refine Ev.then (spec_Merge_ev _ (by rw [List.length_map]; exact hl)) ?_
 have hm := mrg_len (gs.map (rekey (v : Int)))
 rw [List.length_map] at hm
 exact spec_roll_l2 gs _ v (by omega) r (mrg (gs.map (rekey (v : Int)))) [] out rfl (by omega) H
theorem spec_Rollup_ev (gs : List Grp) (hl : gs.length ≤ 10000000) : Ev (fun k => spec_RollupGroups.f k gs) (roll gs) := by
 have l0 := lv_len gs 0
 have l1 := lv_len gs 1
 unfold spec_RollupGroups.f
 refine spec_roll_step gs hl 0 (by omega) [] (by simp) _ ?_
 rw [List.nil_append, show wrap64 (((0 : Nat) : Int) + 1) = ((1 : Nat) : Int) from succ64 0 (by omega)]
 refine spec_roll_step gs hl 1 (by omega) _ (by show (lv gs 0).length ≤ _; omega) _ ?_
 rw [show wrap64 (((1 : Nat) : Int) + 1) = ((2 : Nat) : Int) from succ64 1 (by omega)]
 refine spec_roll_step gs hl 2 (by omega) _ (by rw [List.length_append]; show (lv gs 0).length + (lv gs 1).length ≤ _; omega) _ ?_
 rw [show wrap64 (((2 : Nat) : Int) + 1) = ((3 : Nat) : Int) from succ64 2 (by omega)]
 refine Ev.succ ?_
 simp only [spec_RollupGroups.l0, show ¬ (((3 : Nat) : Int) < 3) from by omega, if_false, List.append_assoc]
 exact Ev.val rfl
theorem gfr_ok {r : Row} (h : inR r.f0 ∧ inR r.f1) : okG (gfr r) := ⟨h.1, by unfold inR gfr; dsimp only; omega, h.2, h.2, h.2⟩
theorem rdr_at {L a : List Row} {x : Row} {b : List Row} (h : a ++ x :: b = L) : rd_T114 L (a.length : Int) = x ∧ (a.length : Int) < (L.length : Int) ∧ (0 : Int) ≤ (a.length : Int) := by
 subst h
 refine ⟨?_, by rw [List.length_append, List.length_cons]; omega, by omega⟩
 rw [rd_row _ _ (by rw [List.length_append, List.length_cons]; omega)]
 simp
theorem impl_Ref_l0 (L : List Row) (hL : L.length ≤ 10000000) (hr : ∀ r ∈ L, inR r.f0 ∧ inR r.f1) : ∀ (b a : List Row), a ++ b = L →
  Ev (fun k => impl_ReferenceGroups.l0 k (a.map gfr) L (L.length : Int) (a.length : Int)) (refG L)
 | [], a, h => by
  have e : a = L := by rw [← h, List.append_nil]
  refine Ev.succ ?_
  simp only [impl_ReferenceGroups.l0, endG h, if_false]
  refine Ev.one ?_
  rw [e]
  refine impl_Merge_ev _ (by rw [List.length_map]; exact hL) ?_
  intro x hx
  obtain ⟨y, hy, rfl⟩ := List.mem_map.1 hx
  exact (hr y hy).1
 | g :: b, a, h => by
  obtain ⟨e, c1, c2⟩ := rdr_at h
  have ha : a.length < L.length := by omega
  have ih := impl_Ref_l0 L hL hr b (a ++ [g]) (snocG_eq h)
  rw [snocG_len, List.map_append] at ih
  refine Ev.succ ?_
  have c3 : (a.map gfr).length < 3518437208883 := by rw [List.length_map]; omega
  simp only [impl_ReferenceGroups.l0, c1, c2, c3, if_true, e, impl_GroupFromRow.f, Option.bind_some, succ64 a.length (by omega)]
  exact ih
theorem impl_Ref_ev (L : List Row) (hL : L.length ≤ 10000000) (hr : ∀ r ∈ L, inR r.f0 ∧ inR r.f1) : Ev (fun k => impl_ReferenceGroups.f k L) (refG L) := impl_Ref_l0 L hL hr L [] rfl
theorem spec_Ref_l0 (L : List Row) (hL : L.length ≤ 10000000) : ∀ (b a : List Row), a ++ b = L →
  Ev (fun k => spec_ReferenceGroups.l0 k L (a.map gfr) (a.length : Int)) (refG L)
 | [], a, h => by
  have e : a = L := by rw [← h, List.append_nil]
  refine Ev.succ ?_
  simp only [spec_ReferenceGroups.l0, endG h, if_false]
  refine Ev.one ?_
  rw [e]
  exact spec_Merge_ev _ (by rw [List.length_map]; exact hL)
 | g :: b, a, h => by
  obtain ⟨e, c1, c2⟩ := rdr_at h
  have ha : a.length < L.length := by omega
  have ih := spec_Ref_l0 L hL b (a ++ [g]) (snocG_eq h)
  rw [snocG_len, List.map_append] at ih
  refine Ev.succ ?_
  have c3 : (a.map gfr).length < 3518437208883 := by rw [List.length_map]; omega
  simp only [spec_ReferenceGroups.l0, c1, c2, c3, if_true, e, spec_GroupFromRow.f, Option.bind_some, succ64 a.length (by omega)]
  exact ih
theorem spec_Ref_ev (L : List Row) (hL : L.length ≤ 10000000) : Ev (fun k => spec_ReferenceGroups.f k L) (refG L) := spec_Ref_l0 L hL L [] rfl
theorem refG_ok {L : List Row} (hr : ∀ r ∈ L, inR r.f0 ∧ inR r.f1) : ∀ x ∈ refG L, okG x := by
 refine mrg_ok ?_
 intro x hx
 obtain ⟨y, hy, rfl⟩ := List.mem_map.1 hx
 exact gfr_ok (hr y hy)
theorem refG_len (L : List Row) : (refG L).length ≤ L.length := by have := mrg_len (L.map gfr); rwa [List.length_map] at this
theorem impl_RollupRows_ev (L : List Row) (hL : L.length ≤ 10000000) (hr : ∀ r ∈ L, inR r.f0 ∧ inR r.f1) : Ev (fun k => impl_RollupRows.f k L) (roll (refG L)) := by
 unfold impl_RollupRows.f
 refine Ev.then (impl_Ref_ev L hL hr) ?_
 exact Ev.one (impl_Rollup_ev _ (refG_ok hr) (by have := refG_len L; omega))
theorem spec_RollupRows_ev (L : List Row) (hL : L.length ≤ 10000000) : Ev (fun k => spec_RollupRows.f k L) (roll (refG L)) := by
 unfold spec_RollupRows.f
 refine Ev.then (spec_Ref_ev L hL) ?_
 exact Ev.one (spec_Rollup_ev _ (by have := refG_len L; omega))
theorem roll_len (gs : List Grp) : (roll gs).length ≤ 3 * gs.length := by
 have l0 := lv_len gs 0
 have l1 := lv_len gs 1
 have l2 := lv_len gs 2
 unfold roll
 rw [List.length_append, List.length_append]
 omega
end
open Plain Br
section
theorem rdx_at {L a : List RR} {x : RR} {b : List RR} (h : a ++ x :: b = L) : rd_T62 L (a.length : Int) = x ∧ (a.length : Int) < (L.length : Int) ∧ (0 : Int) ≤ (a.length : Int) := by
 subst h
 refine ⟨?_, by rw [List.length_append, List.length_cons]; omega, by omega⟩
 unfold rd_T62
 rw [Int.toNat_natCast, List.getD_eq_getElem?_getD, List.getElem?_append_right (Nat.le_refl _)]
 simp
end
section
theorem inR_wf {n : Int} (h : (Lit.int .i64 n).wf = true) : inR n := by
 simp [Lit.wf, IntKind.min, IntKind.max, IntKind.signed, IntKind.bits] at h
 exact h
theorem cells_of_struct {H : Type} {enc : TypeId × Value → H} {W : World} {base : Nat} {spare : Nat → Bool} {held : Bool} {t : TypeId} {fs : Array Field} {fuel : Nat} {cs : List Value} {x : DataW H × List MemPlace}
  (ht : Try.prog.underlying t = some (.struct fs)) (hf : ∀ i, i < fs.size → ∃ f, fs[i]? = some f ∧ f.type = 3 ∧ f.offset = i) (hc : Try.prog.cellsOf 3 = 1) (hn : Try.prog.cellsOf t = fs.size)
  (h : DataW.trod enc Try.prog W base spare held fuel t cs = some x) : cs.length = fs.size ∧ ∀ i, i < fs.size → ∃ n, cs[i]? = some (.int .i64 n) ∧ inR n := by
 obtain ⟨xs, n, _, _, hl, hxl, hx⟩ := DataW.trod_struct ht h
 refine ⟨by omega, fun i hi => ?_⟩
 obtain ⟨f, e, e1, e2⟩ := hf i hi
 have := hx i f e
 rw [e1, e2, hc, List.getElem?_eq_getElem (by omega)] at this
 obtain ⟨m, h1, _, h2⟩ := DataW.trod_int Try.underlying3 this
 refine ⟨m, ?_, inR_wf h2⟩
 have hi' : i < cs.length := by omega
 have h3 : [cs[i]] = [Value.int .i64 m] := by rw [← h1, List.drop_eq_getElem_cons hi']; rfl
 have h4 : cs[i] = Value.int .i64 m := (List.cons.inj h3).1
 rw [List.getElem?_eq_getElem hi', h4]
theorem open_gen {H : Type} {α : Type} [Inhabited α] (d : Kd α) {enc : TypeId × Value → H} {W : World} {base : Nat} {spare : Nat → Bool} {held : Bool} {t e : TypeId} {fuel : Nat} {cs : List Value} {x : DataW H × List MemPlace} (Q : α → Prop)
  (ht : Try.prog.underlying t = some (.slice e)) (hc : Try.prog.cellsOf e = d.sz)
  (one : ∀ {fuel : Nat} {cs : List Value} {x : DataW H × List MemPlace}, DataW.trod enc Try.prog W base spare held fuel e cs = some x → ∃ y : α, d.K W y cs ∧ Q y)
  (h : DataW.trod enc Try.prog W base spare held fuel t cs = some x) :
  cs = [.slice none 0 0] ∨ ∃ a len cap, ∃ l : List α, cs = [.slice (some a) len cap] ∧ len ≤ cap ∧ l.length = len ∧ Kd.C d W (some a) len l ∧ ∀ g ∈ l, Q g := by
 rcases Deep.open_slice ht h with h0 | ⟨a, len, cap, m, n, D, Pl, rfl, hb, hl, hm, hmm, _, hx⟩
 ·exact .inl h0.1
 right
 have hlm : len ≤ m := by rw [hmm]; split <;> omega
 have each : ∀ i, i < len → ∃ y : α, (∃ cs', cs'.length = d.sz ∧ d.K W y cs' ∧ ∀ j u, cs'[j]? = some u → W.cell? (a.add (i * d.sz + j)) = some u) ∧ Q y := by
  intro i hi
  obtain ⟨cs', h1, h2⟩ := hx i (by omega)
  obtain ⟨y, hy, hq⟩ := one h2
  have hlen := d.K_len hy
  refine ⟨y, ⟨cs', hlen, hy, ?_⟩, hq⟩
  rw [hc] at h1
  obtain ⟨_, hl', hcell⟩ := World.cells?_some h1
  intro j u hu
  have hj : j < cs'.length := (List.getElem?_eq_some_iff.1 hu).1
  have := hcell j (by omega)
  rw [add_add] at this
  rw [this]
  exact hu
 obtain ⟨q, hq⟩ := Deep.choose_lt each
 refine ⟨a, len, cap, (List.range len).map q, rfl, hl, by simp, ⟨by simp, by unfold maxLen at hm; omega, fun _ => ⟨a, rfl, ?_⟩⟩, ?_⟩
 ·intro j p hp
  rw [List.getElem?_map] at hp
  cases hr : (List.range len)[j]? with
  | none => rw [hr] at hp; cases hp
  | some z =>
   rw [hr] at hp
   have hj : j < len := by have := (List.getElem?_eq_some_iff.1 hr).1; simpa using this
   have hz : z = j := by have := (List.getElem?_eq_some_iff.1 hr).2; simpa using this.symm
   cases hp
   subst hz
   exact (hq z hj).1
 ·intro g hg
  obtain ⟨i, hi, rfl⟩ := List.mem_map.1 hg
  exact (hq i (List.mem_range.1 hi)).2
abbrev LRow := S116
def okLR (g : LRow) : Prop := inR g.f0 ∧ inR g.f1 ∧ inR g.f2
theorem one_row {H : Type} {enc : TypeId × Value → H} {W : World} {base : Nat} {spare : Nat → Bool} {held : Bool} {fuel : Nat} {cs : List Value} {x : DataW H × List MemPlace}
  (h : DataW.trod enc Try.prog W base spare held fuel 116 cs = some x) : ∃ y : LRow, k116.K W y cs ∧ okLR y := by
 obtain ⟨hl, hx⟩ := cells_of_struct Try.underlying116 (by
  intro i hi
  match i, hi with
  | 0, _ => exact ⟨_, rfl, rfl, rfl⟩
  | 1, _ => exact ⟨_, rfl, rfl, rfl⟩
  | 2, _ => exact ⟨_, rfl, rfl, rfl⟩) (by kernel_rfl) (by kernel_rfl) h
 match cs, hl with
 | [c0, c1, c2], _ =>
  obtain ⟨n0, e0, r0⟩ := hx 0 (by decide)
  obtain ⟨n1, e1, r1⟩ := hx 1 (by decide)
  obtain ⟨n2, e2, r2⟩ := hx 2 (by decide)
  cases e0; cases e1; cases e2
  exact ⟨⟨n0, n1, n2⟩, k116_mk W ⟨n0, n1, n2⟩, r0, r1, r2⟩
end
open Plain Br
section
def cvR (g : LRow) : Row := ⟨g.f0, g.f1, g.f2⟩
theorem rdlr_at {L a : List LRow} {x : LRow} {b : List LRow} (h : a ++ x :: b = L) : rd_T116 L (a.length : Int) = x ∧ (a.length : Int) < (L.length : Int) ∧ (0 : Int) ≤ (a.length : Int) := by
 subst h
 refine ⟨?_, by rw [List.length_append, List.length_cons]; omega, by omega⟩
 unfold rd_T116
 rw [Int.toNat_natCast, List.getD_eq_getElem?_getD, List.getElem?_append_right (Nat.le_refl _)]
 simp
theorem toRowS_l0 (L : List LRow) (hL : L.length ≤ 10000000) : ∀ (b a : List LRow), a ++ b = L →
  Ev (fun k => laws_toRowS.l0 k L (a.map cvR ++ List.replicate b.length z114) (a.length : Int)) (L.map cvR)
 | [], a, h => by
  have e : a = L := by rw [← h, List.append_nil]
  refine Ev.succ ?_
  simp only [laws_toRowS.l0, endG h, if_false]
  exact Ev.val (by rw [e]; simp)
 | x :: b, a, h => by
  obtain ⟨e, c1, c2⟩ := rdlr_at h
  have ih := toRowS_l0 L hL b (a ++ [x]) (snocG_eq h)
  rw [snocG_len, List.map_append] at ih
  have ha : a.length < L.length := by omega
  refine Ev.succ ?_
  have c3 : (a.length : Int) < ((a.map cvR ++ List.replicate (x :: b).length z114).length : Int) := by rw [List.length_append, List.length_map, List.length_replicate, List.length_cons]; omega
  have st : ∀ y : Row, (a.map cvR ++ List.replicate (x :: b).length z114).set a.length y = a.map cvR ++ [y] ++ List.replicate b.length z114 := by
   intro y
   rw [List.length_cons, List.replicate_succ, List.set_append_right _ _ (by simp)]
   simp
  simp only [laws_toRowS.l0, c1, c2, c3, if_true, e, laws_toRow.f, Option.bind_some, Int.toNat_natCast, st, succ64 a.length (by omega)]
  exact ih
theorem toRowS_ev (L : List LRow) (hL : L.length ≤ 10000000) : Ev (fun k => laws_toRowS.f k L) (L.map cvR) := by
 unfold laws_toRowS.f
 have c1 : (0 : Int) ≤ (L.length : Int) := by omega
 have c2 : L.length ≤ 11728124029610 := by omega
 simp only [c1, Int.toNat_natCast, c2, if_true]
 exact toRowS_l0 L hL L [] rfl
theorem eqRRS_l0 (L : List RR) (hL : L.length ≤ 100000000) : ∀ (b a : List RR), a ++ b = L → Ev (fun k => laws_eqRollupRowS.l0 k L L (a.length : Int)) true
 | [], a, h => by
  refine Ev.succ ?_
  simp only [laws_eqRollupRowS.l0, endG h, if_false]
  exact Ev.val rfl
 | x :: b, a, h => by
  obtain ⟨e, c1, c2⟩ := rdx_at h
  have ih := eqRRS_l0 L hL b (a ++ [x]) (snocG_eq h)
  rw [snocG_len] at ih
  have ha : a.length < L.length := by omega
  refine Ev.succ ?_
  simp only [laws_eqRollupRowS.l0, c1, c2, if_true, e, laws_eqRollupRow.f, laws_eqGroup.f, Option.bind_some, succ64 a.length (by omega)]
  exact ih
theorem eqRRS_ev (L : List RR) (hL : L.length ≤ 100000000) : Ev (fun k => laws_eqRollupRowS.f k L L) true := by
 unfold laws_eqRollupRowS.f
 simp only [if_true]
 exact eqRRS_l0 L hL L [] rfl
theorem eqRS_l0 (L : List Row) (hL : L.length ≤ 100000000) : ∀ (b a : List Row), a ++ b = L → Ev (fun k => laws_eqRowS.l0 k L L (a.length : Int)) true
 | [], a, h => by
  refine Ev.succ ?_
  simp only [laws_eqRowS.l0, endG h, if_false]
  exact Ev.val rfl
 | x :: b, a, h => by
  obtain ⟨e, c1, c2⟩ := rdr_at h
  have ih := eqRS_l0 L hL b (a ++ [x]) (snocG_eq h)
  rw [snocG_len] at ih
  have ha : a.length < L.length := by omega
  refine Ev.succ ?_
  simp only [laws_eqRowS.l0, c1, c2, if_true, e, laws_eqRow.f, Option.bind_some, succ64 a.length (by omega)]
  exact ih
theorem eqRS_ev (L : List Row) (hL : L.length ≤ 100000000) : Ev (fun k => laws_eqRowS.f k L L) true := by
 unfold laws_eqRowS.f
 simp only [if_true]
 exact eqRS_l0 L hL L [] rfl

def mkRR (m : Int) : RR := ⟨m, ⟨m + 1, m + 2, m + 3, m + 4, m + 5⟩⟩
def marksRR : Nat → Int → List RR
 | 0, _ => []
 | n + 1, m => mkRR m :: marksRR n (m + 6)
theorem set_mid {α : Type} (a b : List α) (x y : α) : (a ++ x :: b).set a.length y = a ++ y :: b := by simp
theorem six {m : Int} (h0 : 0 ≤ m) (h1 : m ≤ 1000000000000) : wrap64 (m + 1) = m + 1 ∧ wrap64 (m + 1 + 1) = m + 2 ∧ wrap64 (m + 2 + 1) = m + 3 ∧ wrap64 (m + 3 + 1) = m + 4 ∧ wrap64 (m + 4 + 1) = m + 5 ∧ wrap64 (m + 5 + 1) = m + 6 :=
 ⟨w64 (by omega) (by omega), by rw [w64 (by omega) (by omega)]; omega, by rw [w64 (by omega) (by omega)]; omega, by rw [w64 (by omega) (by omega)]; omega, by rw [w64 (by omega) (by omega)]; omega, by rw [w64 (by omega) (by omega)]; omega⟩
theorem markRR_l0 : ∀ (b a : List RR) (m : Int), 0 ≤ m → m + b.length * 6 ≤ 1000000000000 → a.length + b.length ≤ 100000000 →
  Ev (fun k => laws_markRollupRowS.l0 k (a ++ b) m (a.length : Int)) (m + 6 * (b.length : Int), a ++ marksRR b.length m)
 | [], a, m, _, _, _ => by
  refine Ev.succ ?_
  simp only [laws_markRollupRowS.l0, endG (a := a) (L := a ++ []) rfl, if_false]
  exact Ev.val (by simp [marksRR])
 | x :: b, a, m, h0, h1, hl => by
  rw [List.length_cons] at h1 hl
  have r : ∀ y : RR, rd_T62 (a ++ y :: b) (a.length : Int) = y := fun y => (rdx_at (L := a ++ y :: b) rfl).1
  obtain ⟨_, c1, c2⟩ := rdx_at (L := a ++ x :: b) (a := a) rfl
  have ih := markRR_l0 b (a ++ [mkRR m]) (m + 6) (by omega) (by omega) (by rw [snocG_len]; omega)
  rw [snocG_len, List.append_assoc, List.append_assoc, List.singleton_append, List.singleton_append] at ih
  obtain ⟨w1, w2, w3, w4, w5, w6⟩ := six h0 (by omega)
  refine Ev.succ ?_
  simp only [laws_markRollupRowS.l0, c1, c2, if_true, Option.bind_some, Int.toNat_natCast, set_mid, r, w1, w2, w3, w4, w5, w6, succ64 a.length (by omega)]
  have e : m + 6 + 6 * (b.length : Int) = m + 6 * ((x :: b).length : Int) := by rw [List.length_cons]; omega
  rw [e] at ih
  exact ih
theorem markRR_ev (L : List RR) (hL : L.length ≤ 10000000) : Ev (fun k => laws_markRollupRowS.f k L 1) (1 + 6 * (L.length : Int), marksRR L.length 1) := by
 have := markRR_l0 L [] 1 (by omega) (by omega) (by simp; omega)
 simpa [laws_markRollupRowS.f] using this
theorem heldRR_l0 : ∀ (n : Nat) (a : List RR) (m : Int), 0 ≤ m → m + n * 6 ≤ 1000000000000 → a.length + n ≤ 100000000 →
  Ev (fun k => laws_heldRollupRowS.l0 k (a ++ marksRR n m) m (a.length : Int)) (m + 6 * (n : Int))
 | 0, a, m, _, _, _ => by
  refine Ev.succ ?_
  have : a ++ marksRR 0 m = a := by simp [marksRR]
  rw [this]
  simp only [laws_heldRollupRowS.l0, show ¬ ((a.length : Int) < (a.length : Int)) from by omega, if_false]
  exact Ev.val (by simp)
 | n + 1, a, m, h0, h1, hl => by
  obtain ⟨e, c1, c2⟩ := rdx_at (L := a ++ mkRR m :: marksRR n (m + 6)) (a := a) rfl
  have ih := heldRR_l0 n (a ++ [mkRR m]) (m + 6) (by omega) (by omega) (by rw [snocG_len]; omega)
  rw [snocG_len, List.append_assoc, List.singleton_append] at ih
  obtain ⟨w1, w2, w3, w4, w5, w6⟩ := six h0 (by omega)
  refine Ev.succ ?_
  show Ev (fun k => laws_heldRollupRowS.l0 (k + 1) (a ++ mkRR m :: marksRR n (m + 6)) m (a.length : Int)) _
  have p0 : (mkRR m).f0 = m := rfl
  have p1 : (mkRR m).f1.f0 = m + 1 := rfl
  have p2 : (mkRR m).f1.f1 = m + 2 := rfl
  have p3 : (mkRR m).f1.f2 = m + 3 := rfl
  have p4 : (mkRR m).f1.f3 = m + 4 := rfl
  have p5 : (mkRR m).f1.f4 = m + 5 := rfl
  simp only [laws_heldRollupRowS.l0, c1, c2, if_true, e, p0, p1, p2, p3, p4, p5, w1, w2, w3, w4, w5, w6, succ64 a.length (by omega)]
  have e2 : m + 6 + 6 * (n : Int) = m + 6 * ((n + 1 : Nat) : Int) := by omega
  rw [e2] at ih
  exact ih
theorem heldRR_ev (n : Nat) (hn : n ≤ 10000000) : Ev (fun k => laws_heldRollupRowS.f k (marksRR n 1) 1) (1 + 6 * (n : Int)) := by
 have := heldRR_l0 n [] 1 (by omega) (by omega) (by simp; omega)
 simpa [laws_heldRollupRowS.f] using this
theorem markR_l0 : ∀ (b a : List Row) (m : Int), 0 ≤ m → m + b.length * 6 ≤ 1000000000000 → a.length + b.length ≤ 100000000 →
  ∃ r, Ev (fun k => laws_markRowS.l0 k (a ++ b) m (a.length : Int)) (m + 3 * (b.length : Int), r)
 | [], a, m, _, _, _ => ⟨a ++ [], by
  refine Ev.succ ?_
  simp only [laws_markRowS.l0, endG (a := a) (L := a ++ []) rfl, if_false]
  exact Ev.val (by simp)⟩
 | x :: b, a, m, h0, h1, hl => by
  rw [List.length_cons] at h1 hl
  have r : ∀ y : Row, rd_T114 (a ++ y :: b) (a.length : Int) = y := fun y => (rdr_at (L := a ++ y :: b) rfl).1
  obtain ⟨_, c1, c2⟩ := rdr_at (L := a ++ x :: b) (a := a) rfl
  obtain ⟨q, ih⟩ := markR_l0 b (a ++ [⟨m, m + 1, m + 2⟩]) (m + 3) (by omega) (by omega) (by rw [snocG_len]; omega)
  rw [snocG_len, List.append_assoc, List.singleton_append] at ih
  obtain ⟨w1, w2, w3, w4, w5, w6⟩ := six h0 (by omega)
  refine ⟨q, Ev.succ ?_⟩
  simp only [laws_markRowS.l0, c1, c2, if_true, Option.bind_some, Int.toNat_natCast, set_mid, r, w1, w2, w3, succ64 a.length (by omega)]
  have e : m + 3 + 3 * (b.length : Int) = m + 3 * ((x :: b).length : Int) := by rw [List.length_cons]; omega
  rw [e] at ih
  exact ih
theorem markR_ev (L : List Row) (hL : L.length ≤ 10000000) : ∃ m r, Ev (fun k => laws_markRowS.f k L 1) (m, r) ∧ 0 ≤ m := by
 obtain ⟨r, h⟩ := markR_l0 L [] 1 (by omega) (by omega) (by simp; omega)
 exact ⟨1 + 3 * (L.length : Int), r, by simpa [laws_markRowS.f] using h, by omega⟩

theorem okcr {L : List LRow} (h : ∀ g ∈ L, okLR g) : ∀ r ∈ L.map cvR, inR r.f0 ∧ inR r.f1 := by
 intro g hg
 obtain ⟨x, hx, rfl⟩ := List.mem_map.1 hg
 exact ⟨(h x hx).1, (h x hx).2.1⟩
theorem law_ExactRollupRows (L : List LRow) (hl : L.length ≤ 9223372036854775807) (h : ∀ g ∈ L, okLR g) : Ev (fun k => laws_FnExactRollupRows.f k L) true := by
 unfold laws_FnExactRollupRows.f laws_szRowS.f
 have w : wrap64 (1048576 - (L.length : Int)) = 1048576 - (L.length : Int) := w64 (by omega) (by omega)
 simp only [w]
 by_cases q : 1048576 - (L.length : Int) < 0
 ·simp only [q, if_true, Option.bind_some, show (-1 : Int) < 0 from by decide]; exact Ev.val rfl
 ·simp only [q, if_false, Option.bind_some]
  have hL : L.length ≤ 1048576 := by omega
  have ok := okcr h
  have hm : (L.map cvR).length ≤ 1048576 := by rw [List.length_map]; exact hL
  have hg := refG_len (L.map cvR)
  have hr := roll_len (refG (L.map cvR))
  refine Ev.then (toRowS_ev L (by omega)) ?_
  refine Ev.then (spec_RollupRows_ev _ (by omega)) ?_
  refine Ev.then (toRowS_ev L (by omega)) ?_
  refine Ev.then (impl_RollupRows_ev _ (by omega) ok) ?_
  refine Ev.then (eqRRS_ev _ (by omega)) ?_
  simp only [if_true]
  refine Ev.then (toRowS_ev L (by omega)) ?_
  refine Ev.then (eqRS_ev _ (by omega)) ?_
  simp only [if_true]
  obtain ⟨m, r, E, m0⟩ := markR_ev (L.map cvR) (by omega)
  refine Ev.then E ?_
  simp only [show ¬ (m < 0) from by omega, if_false]
  refine Ev.then (eqRRS_ev _ (by omega)) ?_
  refine Ev.succ ?_
  simp only [laws_FnExactRollupRows.j0, Bool.not_true, Bool.false_eq_true, if_false]
  refine Ev.then (markRR_ev _ (by omega)) ?_
  refine Ev.then (heldRR_ev _ (by omega)) ?_
  simp only [show ¬ (1 + 6 * ((roll (refG (L.map cvR))).length : Int) < 0) from by omega, if_false, if_true]
  refine Ev.then (toRowS_ev L (by omega)) ?_
  refine Ev.then (impl_RollupRows_ev _ (by omega) ok) ?_
  refine Ev.then (eqRRS_ev _ (by omega)) ?_
  simp only [if_true]
  refine Ev.then (heldRR_ev _ (by omega)) ?_
  simp only [show ¬ (1 + 6 * ((roll (refG (L.map cvR))).length : Int) < 0) from by omega, if_false, if_true]
  exact Ev.val rfl
theorem C_none {α : Type} (d : Kd α) (W : World) : Kd.C d W none ([] : List α).length [] := ⟨rfl, by simp, fun h => absurd h (Nat.lt_irrefl 0)⟩
theorem FnExactRollupRows_pure {H : Type} {enc : TypeId × Value → H} {W : World} {base : Nat} {spare : Nat → Bool} {held : Bool} {fuel : Nat} {a0 : Option Addr} {len0 cap0 : Nat} {x : DataW H × List MemPlace}
  (hf : DataW.trod enc Try.prog W base spare held fuel 41 [.slice a0 len0 cap0] = some x) : Calls Try.prog 5 #[.slice a0 len0 cap0] W fun e w' => e = .returned (.bool true) ∧ Below W.heap.size W w' := by
 haveI : Inhabited LRow := ⟨z116⟩
 rcases open_gen k116 okLR Try.underlying41 (by kernel_rfl) (fun h => one_row h) hf with hcs | ⟨a, len, cap, l, hcs, hle, hll, hC, hq⟩
 ·cases hcs
  obtain ⟨K, hK⟩ := law_ExactRollupRows [] (by simp) (by simp)
  exact laws_FnExactRollupRows.calls K none 0 [] true W (C_none _ W) (Nat.le_refl _) (hK K (Nat.le_refl _))
 ·cases hcs
  subst hll
  obtain ⟨K, hK⟩ := law_ExactRollupRows l hC.2.1 hq
  exact laws_FnExactRollupRows.calls K _ _ l true W hC hle (hK K (Nat.le_refl _))
end
end Go.Proofs.Ytphkghnppcfdpaa.P
