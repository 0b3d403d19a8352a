/- For every string the law FnExactParseJoiner of the given program returns true and leaves its argument as it was; no condition. -/
import Derived.Test.YtobndcjmjhehjaaPjf2
namespace Go.Proofs.Ytobndcjmjhehjaa.P
open Go.RowKit Go.Proofs.YtobndcjmjhehjaaW.PrintWords Go.Proofs.YtobndcjmjhehjaaW.PrintLast Go.Proofs.YtobndcjmjhehjaaW.PrintMore
attribute [local go_sem] max2_int min2_int max_two min_two max_three min_three max_four min_four   -- for this text's walks alone
set_option linter.unusedVariables false
set_option linter.unusedSimpArgs false
set_option maxHeartbeats 8000000
set_option maxRecDepth 100000
def laws_markBoolS.l0 : Nat → List Bool → Int → Int → Option (Int × List Bool)
 | 0, _, _, _ => none
 | k + 1, x0, x1, x5 => if x5 < (x0.length : Int) then (if 0 ≤ x5 then (laws_markBoolS.l0 k (x0.set (x5 : Int).toNat ((Int.tmod x1 3) == 0)) (wrap64 (x1 + 1)) (wrap64 (x5 + 1))) else (none)) else (some (x1, x0))
def laws_markBoolS.f (k : Nat) (l0 : List Bool) (a1 : Int) : Option (Int × List Bool) := laws_markBoolS.l0 k l0 a1 0
theorem laws_markBoolS.calls (k : Nat) (P0_ : Nat → Prop) (u9000_ : Value) (l0 : List Bool) (a1 : Int) (r1 : Int) (r2 : List Bool) (w0 w : World) (hB : Below w0.heap.size w0 w) (ho0 : Kd.R Kd.bool 4 w w0.heap.size P0_ u9000_ l0) (h : laws_markBoolS.f k l0 a1 = some (r1, r2)) :
  Calls Try.prog 143 #[u9000_, .int .i64 a1] w fun e w' => e = .returned (.int .i64 r1) ∧ Kd.R Kd.bool 4 w' w0.heap.size (fun k_ => (P0_ k_ ∨ w.heap.size ≤ k_)) u9000_ r2 ∧ Below w0.heap.size w0 w' ∧ Kept w w' (fun k_ => P0_ k_) := by
 have HO0 := Aside0.mk (show Kd.R Kd.bool 4 w w0.heap.size (fun k_ => (P0_ k_ ∨ w.heap.size ≤ k_)) u9000_ l0 from Kd.R_mono ho0 (fun k_ hk => (.inl hk)))
 have HK := Aside0.mk (Kept.refl w (fun k_ => P0_ k_))
 have HW0 := Aside0.mk hB.size
 have HB := Aside0.mk hB
 clear hB
 have H : (laws_markBoolS.l0 k l0 a1 0) = some (r1, r2) := h
 clear h
 have H' := Aside0.mk H
 clear H
 go_enter Try.func143, Try.ntmps143
 go_wp2
 go_loopg [1, 5] k (fun kq v1 v5 w' => ∃ (x0_1 : List Bool) (x1_1 : Int) (x5_1 : Int), v1 = .int .i64 x1_1 ∧ v5 = .int .i64 x5_1 ∧ Aside0 (laws_markBoolS.l0 kq x0_1 x1_1 x5_1 = some (r1, r2)) ∧ Aside0 (kq ≤ k) ∧ Aside0 (Kd.R Kd.bool 4 w' w0.heap.size (fun k_ => (P0_ k_ ∨ w.heap.size ≤ k_)) u9000_ x0_1) ∧ Aside0 (Kept w w' (fun k_ => P0_ k_)) ∧ Aside0 (Below w0.heap.size w0 w'))
 case atStart => exact ⟨(l0), (a1), (0), rfl, rfl, H', ⟨Nat.le_refl _⟩, ⟨HO0.out⟩, ⟨HK.out⟩, ⟨HB.out⟩⟩
 case round =>
  clear H'
  obtain ⟨x0_1, x1_1, x5_1, rfl, rfl, HA, HK1, HO_0, HK, HB⟩ := hrel
  cases gk with
  | zero => exact absurd HA.out (by simp [laws_markBoolS.l0])
  | succ k1 =>
   have H := HA.out
   clear HA
   simp only [laws_markBoolS.l0] at H
   by_cases c3 : x5_1 < (x0_1.length : Int)
   ·rw [if_pos c3] at H
    have c3b0 : decide (x5_1 < (x0_1.length : Int)) = true := decide_eq_true c3
    clear c3
    by_cases c4 : 0 ≤ x5_1
    ·rw [if_pos c4] at H
     have c4b0 : decide (0 ≤ x5_1) = true := decide_eq_true c4
     clear c4
     obtain ⟨y1327, hy1327⟩ : ∃ y_ : List Bool, y_ = (x0_1.set (x5_1 : Int).toNat ((Int.tmod x1_1 3) == 0)) := ⟨_, rfl⟩
     replace H : (laws_markBoolS.l0 k1 y1327 (wrap64 (x1_1 + 1)) (wrap64 (x5_1 + 1))) = some (r1, r2) := by (rw [hy1327]; with_reducible exact H)
     have Ny1327 := Aside0.mk hy1327
     clear hy1327
     have H' := Aside0.mk H
     clear H
     obtain ⟨Ao6, co6, eo6⟩ := Kd.R_slice HO_0.out
     subst eo6
     have p5 : 0 ≤ (x5_1 : Int) := of_decide_eq_true (by (with_reducible assumption))
     have q5 : (x5_1 : Int) < ((x0_1.length : Int) : Int) := of_decide_eq_true (by (with_reducible assumption))
     obtain ⟨go5, co5, eo5, gb5, gl5, cl5, HG5⟩ := Kd.R_form HO_0.out (by omega)
     (cases eo5)
     have GB5 := Aside0.mk gb5
     have GG5 := Aside0.mk HG5
     clear gb5 gl5 HG5
     have HMgo5 := Aside0.mk (show (P0_ go5 ∨ w.heap.size ≤ go5) from (HO_0.out.1 _ rfl))
     obtain ⟨hx5_0, hf5_0⟩ := Kd.R_celln false HO_0.out (x5_1 : Int) p5 q5
     replace p5 := eq_true p5
     replace q5 := eq_true q5
     have HP7 := Kd.R_putg HO_0.out (x5_1 : Int) ((Int.tmod x1_1 3) == 0)
     go_wp2_with (((with_reducible refine gate_store (t := 4) (p := 17) rfl ?_); refine store_event (t := 4) (p := 17) (v := ?vo_w8) (w1 := (wr.setCell ⟨go5, (x5_1 : Int).toNat, none⟩ (.bool ((Int.tmod x1_1 3) == 0)))) ?hg ?ho ?hn ?hr ?_; (case ho => rfl); (case hg => rfl); (case hn => rfl); (case hr => (go_simp; done)); intro w8 hw; have hg : wr.grownBy w8 (some go5) := (by rw [hw]; exact HP7.2); have hp_ : Kd.R Kd.bool 4 w8 w0.heap.size (fun k_ => (P0_ k_ ∨ w.heap.size ≤ k_)) (.slice (some ⟨go5, 0, none⟩) x0_1.length co6) y1327 := (by rw [hw, Ny1327.out]; exact HP7.1); clear HP7; have n0_ := Aside0.mk (hp_); have n1_ := Aside0.mk (by rw [hw]; exact below_set HB.out GB5.out : Below w0.heap.size w0 w8); have n2_ := Aside0.mk (Kept.of_grown (S := (fun k_ => P0_ k_)) hg HK.out (fun k_ e_ => (HO_0.out.1 k_ e_))); clear HO_0; clear HB; clear HK; have HO_0 := n0_; have HB := n1_; have HK := n2_; clear n0_ n1_ n2_; clear hg hw hp_))
     go_roundg k1
     case measure => have := HK1.out; omega
     case rel => exact ⟨(y1327), (wrap64 (x1_1 + 1)), (wrap64 (x5_1 + 1)), rfl, rfl, H', ⟨by have := HK1.out; omega⟩, ⟨HO_0.out⟩, ⟨HK.out⟩, ⟨HB.out⟩⟩
    ·rw [if_neg c4] at H
     exact absurd H (by simp)
   ·rw [if_neg c3] at H
    have c3b0 : decide (x5_1 < (x0_1.length : Int)) = false := decide_eq_false c3
    clear c3
    simp only [Option.some.injEq, Prod.mk.injEq] at H
    obtain ⟨rfl, rfl⟩ := H
    obtain ⟨Ao9, co9, eo9⟩ := Kd.R_slice HO_0.out
    subst eo9
    go_wp2
    go_ret
    exact ⟨rfl, HO_0.out, HB.out, HK.out⟩

def Ap12 (cs : List Value) : Prop := ∀ v1 v2, cs[1]? = some v1 → cs[2]? = some v2 → ∀ k, v1.ownBlock = some k → v2.ownBlock ≠ some k
def k40a : Kd S40 where
 sz := k40.sz
 E := k40.E
 K := k40.K
 M := fun w base ok x cs => k40.M w base ok x cs ∧ Ap12 cs
 K_len := fun h => k40.K_len h
 K_one := fun h => k40.K_one h
 K_below := fun hb h => k40.K_below hb h
 K_of_M := fun h => k40.K_of_M h.1
 M_mono := fun hok h => ⟨k40.M_mono hok h.1, h.2⟩
 M_bound := fun h => ⟨k40.M_bound h.1, h.2⟩
 M_move := fun hm h => ⟨k40.M_move hm h.1, h.2⟩
 M_lower := fun hb h => ⟨k40.M_lower hb h.1, h.2⟩
theorem ap12_mk {x0 x3 x4 v1 v2 : Value} (h : ∀ k, v1.ownBlock = some k → v2.ownBlock ≠ some k) : Ap12 [x0, v1, v2, x3, x4] := by
 intro a b ha hb
 cases ha
 cases hb
 exact h
theorem ap12_get {x0 x3 x4 v1 v2 : Value} (h : Ap12 [x0, v1, v2, x3, x4]) : ∀ k, v1.ownBlock = some k → v2.ownBlock ≠ some k := h v1 v2 rfl rfl
/-- Element i of a row of tasks: its cells, its three rows, and what a mark of one of them does to the whole. -/
theorem S40_open {W : World} {base : Nat} {ok : Nat → Prop} {g n cap : Nat} {xs : List S40} (h : Kd.S k40a 40 W base ok (.slice (some ⟨g, 0, none⟩) n cap) xs) (i : Int) (h0 : 0 ≤ i) (h1 : i < n) :
  ∃ v1 v2 v3 : Value, (W.cell? ⟨g, i.toNat * 5, none⟩ = some (.int .i64 (rd_T40 xs i).f0) ∧ W.cell? ⟨g, i.toNat * 5 + 1, none⟩ = some v1 ∧ W.cell? ⟨g, i.toNat * 5 + 2, none⟩ = some v2 ∧ W.cell? ⟨g, i.toNat * 5 + 3, none⟩ = some v3 ∧ W.cell? ⟨g, i.toNat * 5 + 4, none⟩ = some (.int .i64 (rd_T40 xs i).f4)) ∧ (∀ j, W.frozen? ⟨g, i.toNat * 5 + j, none⟩ = false) ∧
   Kd.R k60 60 W base (fun k => some k = v1.ownBlock) v1 (rd_T40 xs i).f1 ∧ Kd.R k60 60 W base (fun k => some k = v2.ownBlock) v2 (rd_T40 xs i).f2 ∧ Kd.R Kd.bool 4 W base (fun k => some k = v3.ownBlock) v3 (rd_T40 xs i).f3 ∧
   ((∀ k, some k = v1.ownBlock → ok k) ∧ (∀ k, some k = v2.ownBlock → ok k) ∧ ∀ k, some k = v3.ownBlock → ok k) ∧
   (∀ (w1 : World) (t : List S60), Kept W w1 (fun k => some k = v1.ownBlock) → Kd.R k60 60 w1 base (fun k => some k = v1.ownBlock ∨ W.heap.size ≤ k) v1 t → Kd.S k40a 40 w1 base ok (.slice (some ⟨g, 0, none⟩) n cap) (xs.set i.toNat ⟨(rd_T40 xs i).f0, t, (rd_T40 xs i).f2, (rd_T40 xs i).f3, (rd_T40 xs i).f4⟩)) ∧
   (∀ (w1 : World) (t : List S60), Kept W w1 (fun k => some k = v2.ownBlock) → Kd.R k60 60 w1 base (fun k => some k = v2.ownBlock ∨ W.heap.size ≤ k) v2 t → Kd.S k40a 40 w1 base ok (.slice (some ⟨g, 0, none⟩) n cap) (xs.set i.toNat ⟨(rd_T40 xs i).f0, (rd_T40 xs i).f1, t, (rd_T40 xs i).f3, (rd_T40 xs i).f4⟩)) ∧
   (∀ (w1 : World) (t : List Bool), Kept W w1 (fun k => some k = v3.ownBlock) → Kd.R Kd.bool 4 w1 base (fun k => some k = v3.ownBlock ∨ W.heap.size ≤ k) v3 t → Kd.S k40a 40 w1 base ok (.slice (some ⟨g, 0, none⟩) n cap) (xs.set i.toNat ⟨(rd_T40 xs i).f0, (rd_T40 xs i).f1, (rd_T40 xs i).f2, t, (rd_T40 xs i).f4⟩)) := by
 obtain ⟨oki, c, hcl, hM, hcc, hfr, hoki, hH⟩ := Kd.S_elem h z40 i h0 h1
 obtain ⟨hM, hA⟩ := hM
 obtain ⟨v1, v2, v3, rfl, g1, g2, g3⟩ := k40_openM hM
 have ha := ap12_get hA
 have g1' : Kd.R k60 60 W base oki v1 (rd_T40 xs i).f1 := g1
 have g2' : Kd.R k60 60 W base oki v2 (rd_T40 xs i).f2 := g2
 have g3' : Kd.R Kd.bool 4 W base oki v3 (rd_T40 xs i).f3 := g3
 have t1 := Kd.R_tight rfl g1'
 have t2 := Kd.R_tight rfl g2'
 have t3 := Kd.R_tight rfl g3'
 have o1 : ∀ k, v1.ownBlock = some k → oki k := fun k hk => g1'.1 k hk
 have o2 : ∀ k, v2.ownBlock = some k → oki k := fun k hk => g2'.1 k hk
 have o3 : ∀ k, v3.ownBlock = some k → oki k := fun k hk => g3'.1 k hk
 have a13 := Kd.R_apart' t1 (Kd.R_typed t3) (by decide)
 have a23 := Kd.R_apart' t2 (Kd.R_typed t3) (by decide)
 have a31 := Kd.R_apart' t3 (Kd.R_typed t1) (by decide)
 have a32 := Kd.R_apart' t3 (Kd.R_typed t2) (by decide)
 refine ⟨v1, v2, v3, ⟨hcc 0 _ rfl, hcc 1 _ rfl, hcc 2 _ rfl, hcc 3 _ rfl, hcc 4 _ rfl⟩, hfr, t1, t2, t3, ⟨fun k hk => (hoki k (o1 k hk.symm)).1, fun k hk => (hoki k (o2 k hk.symm)).1, fun k hk => (hoki k (o3 k hk.symm)).1⟩, ?_, ?_, ?_⟩
 ·intro w1 t hk hr
  refine Kd.H_back (Kd.H_step (w1 := w1) hH (fun k _ hn hlt => hk.2 k hlt (fun e => hn (o1 k e.symm)))) (okp := oki) ⟨k40_mkM _ _ _ (⟨(rd_T40 xs i).f0, t, (rd_T40 xs i).f2, (rd_T40 xs i).f3, (rd_T40 xs i).f4⟩ : S40) (Kd.R_reok rfl hr o1) (Kd.R_reok rfl (Kd.R_keptB t2 hk (fun k e e' => ha k e'.symm e.symm)) o2) (Kd.R_reok rfl (Kd.R_keptB a31 hk (fun k e e' => e.2 e')) o3), hA⟩ (fun _ h => h)
 ·intro w1 t hk hr
  refine Kd.H_back (Kd.H_step (w1 := w1) hH (fun k _ hn hlt => hk.2 k hlt (fun e => hn (o2 k e.symm)))) (okp := oki) ⟨k40_mkM _ _ _ (⟨(rd_T40 xs i).f0, (rd_T40 xs i).f1, t, (rd_T40 xs i).f3, (rd_T40 xs i).f4⟩ : S40) (Kd.R_reok rfl (Kd.R_keptB t1 hk (fun k e e' => ha k e.symm e'.symm)) o1) (Kd.R_reok rfl hr o2) (Kd.R_reok rfl (Kd.R_keptB a32 hk (fun k e e' => e.2 e')) o3), hA⟩ (fun _ h => h)
 ·intro w1 t hk hr
  refine Kd.H_back (Kd.H_step (w1 := w1) hH (fun k _ hn hlt => hk.2 k hlt (fun e => hn (o3 k e.symm)))) (okp := oki) ⟨k40_mkM _ _ _ (⟨(rd_T40 xs i).f0, (rd_T40 xs i).f1, (rd_T40 xs i).f2, t, (rd_T40 xs i).f4⟩ : S40) (Kd.R_reok rfl (Kd.R_keptB a13 hk (fun k e e' => e.2 e')) o1) (Kd.R_reok rfl (Kd.R_keptB a23 hk (fun k e e' => e.2 e')) o2) (Kd.R_reok rfl hr o3), hA⟩ (fun _ h => h)
/-- Element i's kind or level is stored. -/
theorem S40_put {W : World} {base : Nat} {ok : Nat → Prop} {g n cap : Nat} {xs : List S40} (h : Kd.S k40a 40 W base ok (.slice (some ⟨g, 0, none⟩) n cap) xs) (i : Int) (h0 : 0 ≤ i) (h1 : i < n) (u : Int) :
  (Kd.S k40a 40 (W.setCell ⟨g, i.toNat * 5, none⟩ (.int .i64 u)) base ok (.slice (some ⟨g, 0, none⟩) n cap) (xs.set i.toNat ⟨u, (rd_T40 xs i).f1, (rd_T40 xs i).f2, (rd_T40 xs i).f3, (rd_T40 xs i).f4⟩) ∧ W.grownBy (W.setCell ⟨g, i.toNat * 5, none⟩ (.int .i64 u)) (some g)) ∧
  (Kd.S k40a 40 (W.setCell ⟨g, i.toNat * 5 + 4, none⟩ (.int .i64 u)) base ok (.slice (some ⟨g, 0, none⟩) n cap) (xs.set i.toNat ⟨(rd_T40 xs i).f0, (rd_T40 xs i).f1, (rd_T40 xs i).f2, (rd_T40 xs i).f3, u⟩) ∧ W.grownBy (W.setCell ⟨g, i.toNat * 5 + 4, none⟩ (.int .i64 u)) (some g)) := by
 have hX : Kd.S k40a 40 W base (fun k_ => ok k_ ∧ ¬ ((fun _ => False) : Nat → Prop) k_) (.slice (some ⟨g, 0, none⟩) n cap) xs := Kd.S_mono h (fun k_ hk => ⟨hk, fun e_ => e_⟩)
 obtain ⟨oki, c, hcl, hM, hcc, hfr, hoki, hH⟩ := Kd.S_elem hX z40 i h0 h1
 obtain ⟨hM, hA⟩ := hM
 obtain ⟨v1, v2, v3, rfl, g1, g2, g3⟩ := k40_openM hM
 have ha := ap12_get hA
 constructor
 ·exact Kd.S_seg hH h0 h1 (seg := [.int .i64 u]) (j := 0) (show 1 ≤ 5 from by decide) (x' := (⟨u, (rd_T40 xs i).f1, (rd_T40 xs i).f2, (rd_T40 xs i).f3, (rd_T40 xs i).f4⟩ : S40)) ⟨k40_mkM _ _ _ (⟨u, (rd_T40 xs i).f1, (rd_T40 xs i).f2, (rd_T40 xs i).f3, (rd_T40 xs i).f4⟩ : S40) g1 g2 g3, ap12_mk ha⟩ (fun _ hk => .inl hk) (fun k_ hk_ => hk_.elim)
 ·exact Kd.S_seg hH h0 h1 (seg := [.int .i64 u]) (j := 4) (show 5 ≤ 5 from by decide) (x' := (⟨(rd_T40 xs i).f0, (rd_T40 xs i).f1, (rd_T40 xs i).f2, (rd_T40 xs i).f3, u⟩ : S40)) ⟨k40_mkM _ _ _ (⟨(rd_T40 xs i).f0, (rd_T40 xs i).f1, (rd_T40 xs i).f2, (rd_T40 xs i).f3, u⟩ : S40) g1 g2 g3, ap12_mk ha⟩ (fun _ hk => .inl hk) (fun k_ hk_ => hk_.elim)


/- the kind k40a stands beside laws_markBoolS.f -/
def impl_ParseJoiner.l0 : Nat → Bool → Bool → List ByteArray → Int → Int → List (S40) → Int → Int → Option ((List (S40)) × Int × Int × Bool)
 | 0, _, _, _, _, _, _, _, _ => none
 | k + 1, x6, x8, x38, x39, x40, x1593000, x1593001, x1593002 => if x40 < x39 then (if 0 ≤ x40 then (if x40 < (x38.length : Int) then ((impl_ParseTask.f k (rdOf ByteArray.empty x38 x40)).bind fun bt1598 => (if bt1598.2.2.2.2.2 = true then (if x1593000.length < 1599289640401 then (impl_ParseJoiner.l0 k x6 x8 x38 x39 (wrap64 (x40 + 1)) (x1593000 ++ [(⟨bt1598.1, bt1598.2.1, bt1598.2.2.1, bt1598.2.2.2.1, bt1598.2.2.2.2.1⟩ : S40)]) x1593001 x1593002) else (none)) else (some (([] : List (S40)), 0, 0, false)))) else (none)) else (none)) else (if x6 = true then (if x8 = true then ((impl_IsValidJoiner.f k x1593000 x1593001 x1593002).bind fun t1614 => (if t1614 = true then (some (x1593000, x1593001, x1593002, true)) else (some (([] : List (S40)), 0, 0, false)))) else (some (([] : List (S40)), 0, 0, false))) else (some (([] : List (S40)), 0, 0, false)))
def impl_ParseJoiner.f (k : Nat) (a0 : ByteArray) : Option ((List (S40)) × Int × Int × Bool) := (impl_cut.f k a0 47).bind fun t1583 => (if (t1583.length : Int) < 2 then (some (([] : List (S40)), 0, 0, false)) else (if 0 < (t1583.length : Int) then ((impl_ParseInt.f k (rdOf ByteArray.empty t1583 0)).bind fun bt1587 => (if 1 < (t1583.length : Int) then ((impl_ParseInt.f k (rdOf ByteArray.empty t1583 1)).bind fun bt1590 => (if 2 ≤ (t1583.length : Int) then ((some (t1583.drop 2 : List ByteArray)).bind fun y1593 => (impl_ParseJoiner.l0 k bt1587.2 bt1590.2 y1593 (y1593.length : Int) 0 ([] : List (S40)) bt1587.1 bt1590.1)) else (none))) else (none))) else (none)))
theorem impl_ParseJoiner.calls (k : Nat) (a0 : ByteArray) (r1 : List (S40)) (r2 : Int) (r3 : Int) (r4 : Bool) (w : World) (h : impl_ParseJoiner.f k a0 = some (r1, r2, r3, r4)) :
  Calls Try.prog 52 #[.string a0] w fun e w' => ∃ v0_ : Value, e = .returned (.tuple #[.agg #[v0_, .int .i64 r2, .int .i64 r3], .bool r4]) ∧ Kd.S k40a 40 w' w.heap.size (fun _ => True) v0_ r1 ∧ Below w.heap.size w w' := by
 have hu68 := Try.underlying68
 have hu40 := Try.underlying40
 have HB := Aside0.mk (Below.refl w.heap.size w)
 have H : ((impl_cut.f k a0 47).bind fun t1583 => (if (t1583.length : Int) < 2 then (some (([] : List (S40)), 0, 0, false)) else (if 0 < (t1583.length : Int) then ((impl_ParseInt.f k (rdOf ByteArray.empty t1583 0)).bind fun bt1587 => (if 1 < (t1583.length : Int) then ((impl_ParseInt.f k (rdOf ByteArray.empty t1583 1)).bind fun bt1590 => (if 2 ≤ (t1583.length : Int) then ((some (t1583.drop 2 : List ByteArray)).bind fun y1593 => (impl_ParseJoiner.l0 k bt1587.2 bt1590.2 y1593 (y1593.length : Int) 0 ([] : List (S40)) bt1587.1 bt1590.1)) else (none))) else (none))) else (none)))) = some (r1, r2, r3, r4) := h
 clear h
 replace H := Option.bind_eq_some_iff.mp H
 obtain ⟨t1583, A20, H⟩ := H
 have A2 := Aside0.mk A20
 clear A20
 by_cases c3 : (t1583.length : Int) < 2
 ·rw [if_pos c3] at H
  have c3b0 : decide ((t1583.length : Int) < 2) = true := decide_eq_true c3
  have c3b1 : decide (t1583.length < 2) = true := decide_eq_true (by omega)
  clear c3
  simp only [Option.some.injEq, Prod.mk.injEq] at H
  obtain ⟨rfl, rfl, rfl, rfl⟩ := H
  go_enter Try.func52, Try.ntmps52
  go_wp2_with (first | ((with_reducible refine gate_dst (N := 2) rfl ?_); refine box_event ?hg (N := 2) ?hd (cs := #[.slice none 0 0, .int .i64 0, .int .i64 0]) (t := 68) ?hr ?_; (case hd => rfl); (case hg => rfl); (case hr => (go_simp; done)); intro gb1582 hg w4 hbox hb; have n0_ := Aside0.mk (below_step HB.out hb); have n1_ := Aside0.mk (hbox); have n2_ := Aside0.mk ((by rw [hg]; exact (below_size HB.out) : w.heap.size ≤ gb1582)); have n3_ := Aside0.mk ((by rw [hg]; exact (below_size HB.out) : w.heap.size ≤ gb1582)); clear HB; have HB := n0_; have BK1582 := n1_; have GW1582 := n2_; have GE1582 := n3_; clear n0_ n1_ n2_ n3_; clear hb hbox hg) | ((with_reducible refine gate_callee (f := 139) rfl ?_); refine goesL_ (some 15) rfl rfl Try.func139 (by kernel_rfl) rfl #[.string a0, .int .u8 47] rfl (by (try simp only [List.map_toArray, List.map_cons, List.map_nil]); rfl) ?_; (with_reducible refine (impl_cut.calls k a0 47 t1583 _ A2.out).mono ?_); rintro e w5 ⟨v1584, rfl, ho0, hb⟩; refine ⟨_, rfl, ?_⟩; have n0_ := Aside0.mk (Kd.R_lower ho0 (below_size HB.out)); have n1_ := Aside0.mk (blk_below (g := gb1582) (o := .cells #[.slice none 0 0, .int .i64 0, .int .i64 0] 68 (0, 0)) BK1582.out hb); have n2_ := Aside0.mk (below_step HB.out hb); clear BK1582; clear HB; have HO1585 := n0_; have BK1582 := n1_; have HB := n2_; clear n0_ n1_ n2_; (try clear hb); (try clear ho0); obtain ⟨Ao6, co6, eo6⟩ := Kd.R_slice HO1585.out; subst eo6; have hcz7_0 : w5.cell? ⟨gb1582, 0, none⟩ = some (.slice none 0 0) := (blk_cell BK1582.out 0).trans rfl; have hcz7_1 : w5.cell? ⟨gb1582, 1, none⟩ = some (.int .i64 0) := (blk_cell BK1582.out 1).trans rfl; have hcz7_2 : w5.cell? ⟨gb1582, 2, none⟩ = some (.int .i64 0) := (blk_cell BK1582.out 2).trans rfl; have hfz7_0 := blk_frozen BK1582.out 0; have hfz7_1 := blk_frozen BK1582.out 1; have hfz7_2 := blk_frozen BK1582.out 2))
  refine bodyPost_ret (results_ct rfl _ _ gb1582 68 #[.slice none 0 0, .int .i64 0, .int .i64 0] (0, 0) _ rfl (by refine blk_put (cs := #[.slice none 0 0, .int .i64 0, .int .i64 0]) ?_ 2 _ rfl; refine blk_put (cs := #[.slice none 0 0, .int .i64 0, .int .i64 0]) ?_ 1 _ rfl; refine blk_put (cs := #[.slice none 0 0, .int .i64 0, .int .i64 0]) ?_ 0 _ rfl; exact BK1582.out) Try.underlying68 rfl (by kernel_rfl)) rfl ?_
  exact ⟨_, rfl, by exact Kd.S_nil _ _ _ _ _, by repeat ((with_reducible first | exact HB.out | refine below_set ?_ GE1582.out))⟩
 ·rw [if_neg c3] at H
  have c3b0 : decide ((t1583.length : Int) < 2) = false := decide_eq_false c3
  have c3b1 : decide (t1583.length < 2) = false := decide_eq_false (by omega)
  clear c3
  by_cases c8 : 0 < (t1583.length : Int)
  ·rw [if_pos c8] at H
   have c8b0 : decide (0 < (t1583.length : Int)) = true := decide_eq_true c8
   have c8b1 : decide (0 < t1583.length) = true := decide_eq_true (by omega)
   clear c8
   replace H := Option.bind_eq_some_iff.mp H
   obtain ⟨⟨t1587, t1588⟩, A90, H⟩ := H
   have A9 := Aside0.mk A90
   clear A90
   by_cases c10 : 1 < (t1583.length : Int)
   ·rw [if_pos c10] at H
    have c10b0 : decide (1 < (t1583.length : Int)) = true := decide_eq_true c10
    have c10b1 : decide (1 < t1583.length) = true := decide_eq_true (by omega)
    clear c10
    replace H := Option.bind_eq_some_iff.mp H
    obtain ⟨⟨t1590, t1591⟩, A110, H⟩ := H
    have A11 := Aside0.mk A110
    clear A110
    by_cases c12 : 2 ≤ (t1583.length : Int)
    ·rw [if_pos c12] at H
     have c12b0 := eq_true c12
     have c12b1 : decide (2 ≤ (t1583.length : Int)) = true := decide_eq_true c12
     clear c12
     obtain ⟨y1593, hy1593, H⟩ := bindO_ H
     have Ny1593 := Aside0.mk hy1593
     clear hy1593
     have H' := Aside0.mk H
     clear H
     go_enter Try.func52, Try.ntmps52
     go_wp2_with (first | ((with_reducible refine gate_dst (N := 2) rfl ?_); refine box_event ?hg (N := 2) ?hd (cs := #[.slice none 0 0, .int .i64 0, .int .i64 0]) (t := 68) ?hr ?_; (case hd => rfl); (case hg => rfl); (case hr => (go_simp; done)); intro gb1582 hg w13 hbox hb; have n0_ := Aside0.mk (below_step HB.out hb); have n1_ := Aside0.mk (hbox); have n2_ := Aside0.mk ((by rw [hg]; exact (below_size HB.out) : w.heap.size ≤ gb1582)); have n3_ := Aside0.mk ((by rw [hg]; exact (below_size HB.out) : w.heap.size ≤ gb1582)); clear HB; have HB := n0_; have BK1582 := n1_; have GW1582 := n2_; have GE1582 := n3_; clear n0_ n1_ n2_ n3_; clear hb hbox hg) | ((with_reducible refine gate_callee (f := 139) rfl ?_); refine goesL_ (some 15) rfl rfl Try.func139 (by kernel_rfl) rfl #[.string a0, .int .u8 47] rfl (by (try simp only [List.map_toArray, List.map_cons, List.map_nil]); rfl) ?_; (with_reducible refine (impl_cut.calls k a0 47 t1583 _ A2.out).mono ?_); rintro e w14 ⟨v1584, rfl, ho0, hb⟩; refine ⟨_, rfl, ?_⟩; have n0_ := Aside0.mk (Kd.R_lower ho0 (below_size HB.out)); have n1_ := Aside0.mk (blk_below (g := gb1582) (o := .cells #[.slice none 0 0, .int .i64 0, .int .i64 0] 68 (0, 0)) BK1582.out hb); have n2_ := Aside0.mk (below_step HB.out hb); clear BK1582; clear HB; have HO1585 := n0_; have BK1582 := n1_; have HB := n2_; clear n0_ n1_ n2_; (try clear hb); (try clear ho0); obtain ⟨Ao15, co15, eo15⟩ := Kd.R_slice HO1585.out; subst eo15; have p1586 : 0 ≤ (0 : Int) := (by omega); have q1586 : 0 < (t1583.length : Int) := of_decide_eq_true (by (with_reducible assumption)); obtain ⟨ad1586, e1586, hx1586_0⟩ := Kd.at_string (Kd.R_reads' HO1585.out).2.2 0 p1586 q1586; cases e1586; have qi1586 : (0 < t1583.length) = True := eq_true (by omega); (try rw [show ((0 : Int)).toNat = 0 from rfl] at hx1586_0); (try rw [Addr.add_zero'] at hx1586_0); replace p1586 := eq_true p1586; replace q1586 := eq_true q1586) | ((with_reducible refine gate_callee (f := 140) rfl ?_); refine goesL_ (some 24) rfl rfl Try.func140 (by kernel_rfl) rfl #[.string (rdOf ByteArray.empty t1583 0)] rfl (by (try simp only [List.map_toArray, List.map_cons, List.map_nil]); rfl) ?_; (with_reducible refine (impl_ParseInt.calls k (rdOf ByteArray.empty t1583 0) t1587 t1588 _ A9.out).mono ?_); rintro e w16 ⟨rfl, hb⟩; refine ⟨_, rfl, ?_⟩; have n0_ := Aside0.mk (Kd.R_below HO1585.out hb); have n1_ := Aside0.mk (blk_below (g := gb1582) (o := .cells #[.slice none 0 0, .int .i64 0, .int .i64 0] 68 (0, 0)) BK1582.out hb); have n2_ := Aside0.mk (below_step HB.out hb); clear HO1585; clear BK1582; clear HB; have HO1585 := n0_; have BK1582 := n1_; have HB := n2_; clear n0_ n1_ n2_; (try clear hb); have p1589 : 0 ≤ (1 : Int) := (by omega); have q1589 : 1 < (t1583.length : Int) := of_decide_eq_true (by (with_reducible assumption)); obtain ⟨ad1589, e1589, hx1589_0⟩ := Kd.at_string (Kd.R_reads' HO1585.out).2.2 1 p1589 q1589; obtain rfl : ad1586 = ad1589 := (by injection e1589); (try simp only [show (1 : Int).toNat = 1 from rfl, Nat.reduceMul, Nat.reduceEqDiff, Go.Addr.add, ↓reduceIte] at hx1589_0); have qi1589 : (1 < t1583.length) = True := eq_true (by omega); (try rw [show ((1 : Int)).toNat = 1 from rfl] at hx1589_0); replace p1589 := eq_true p1589; replace q1589 := eq_true q1589) | ((with_reducible refine gate_callee (f := 140) rfl ?_); refine goesL_ (some 31) rfl rfl Try.func140 (by kernel_rfl) rfl #[.string (rdOf ByteArray.empty t1583 1)] rfl (by (try simp only [List.map_toArray, List.map_cons, List.map_nil]); rfl) ?_; (with_reducible refine (impl_ParseInt.calls k (rdOf ByteArray.empty t1583 1) t1590 t1591 _ A11.out).mono ?_); rintro e w17 ⟨rfl, hb⟩; refine ⟨_, rfl, ?_⟩; have n0_ := Aside0.mk (Kd.R_below HO1585.out hb); have n1_ := Aside0.mk (blk_below (g := gb1582) (o := .cells #[.slice none 0 0, .int .i64 0, .int .i64 0] 68 (0, 0)) BK1582.out hb); have n2_ := Aside0.mk (below_step HB.out hb); clear HO1585; clear BK1582; clear HB; have HO1585 := n0_; have BK1582 := n1_; have HB := n2_; clear n0_ n1_ n2_; (try clear hb)) | ((with_reducible refine gate_dst (N := 9) rfl ?_); refine box_event ?hg (N := 9) ?hd (cs := #[.slice none 0 0, .int .i64 0, .int .i64 0]) (t := 68) ?hr ?_; (case hd => rfl); (case hg => rfl); (case hr => (go_simp; done)); intro gb1592 hg w18 hbox hb; have n0_ := Aside0.mk (Kd.R_below HO1585.out hb); have n1_ := Aside0.mk (blk_below (g := gb1582) (o := .cells #[.slice none 0 0, .int .i64 0, .int .i64 0] 68 (0, 0)) BK1582.out hb); have n2_ := Aside0.mk (below_step HB.out hb); have n3_ := Aside0.mk (hbox); have n4_ := Aside0.mk ((by rw [hg]; exact (below_size HB.out) : w.heap.size ≤ gb1592)); have n5_ := Aside0.mk ((by rw [hg]; exact (below_size HB.out) : w.heap.size ≤ gb1592)); have n6_ := Aside0.mk ((by rw [hg]; exact Nat.ne_of_lt (blk_lt (g := gb1582) (o := .cells #[.slice none 0 0, .int .i64 0, .int .i64 0] 68 (0, 0)) BK1582.out) : gb1582 ≠ gb1592)); have n7_ := Aside0.mk ((by rw [hg]; exact Nat.ne_of_gt (blk_lt (g := gb1582) (o := .cells #[.slice none 0 0, .int .i64 0, .int .i64 0] 68 (0, 0)) BK1582.out) : gb1592 ≠ gb1582)); clear HO1585; clear BK1582; clear HB; have HO1585 := n0_; have BK1582 := n1_; have HB := n2_; have BK1592 := n3_; have GW1592 := n4_; have GE1592 := n5_; have NB1582_1592 := n6_; have NB1592_1582 := n7_; clear n0_ n1_ n2_ n3_ n4_ n5_ n6_ n7_; clear hb hbox hg; have hnb19 := NB1592_1582.out; have hnc19 := NB1582_1592.out; have hcz20_0 : w18.cell? ⟨gb1592, 0, none⟩ = some (.slice none 0 0) := (blk_cell BK1592.out 0).trans rfl; have hcz20_1 : w18.cell? ⟨gb1592, 1, none⟩ = some (.int .i64 0) := (blk_cell BK1592.out 1).trans rfl; have hcz20_2 : w18.cell? ⟨gb1592, 2, none⟩ = some (.int .i64 0) := (blk_cell BK1592.out 2).trans rfl; have hfz20_0 := blk_frozen BK1592.out 0; have hfz20_1 := blk_frozen BK1592.out 1; have hfz20_2 := blk_frozen BK1592.out 2) | ((with_reducible refine gate_store (t := 68) (p := 9) rfl ?_); refine store_event (t := 68) (p := 9) (v := ?vo_w21) (w1 := (((w18.setCell ⟨gb1592, 0, none⟩ (.slice none 0 0)).setCell ⟨gb1592, 1, none⟩ (.int .i64 t1587)).setCell ⟨gb1592, 2, none⟩ (.int .i64 t1590))) ?hg ?ho ?hn ?hr ?_; (case ho => rfl); (case hg => rfl); (case hn => rfl); (case hr => (go_simp; done)); intro w21 hw; have n0_ : Aside0 (Kd.R Kd.string 9 w21 w.heap.size (fun _ => True) (.slice (some ad1586) t1583.length co15) t1583) := ⟨(by rw [hw]; exact (by exact Kd.R_mono (Kd.R_far (p := ⟨gb1592, 2, none⟩) (Kd.R_far (p := ⟨gb1592, 1, none⟩) (Kd.R_far (p := ⟨gb1592, 0, none⟩) (Kd.R_types HO1585.out BK1592.out (by decide)) (fun _ hk => hk.2) (.slice none 0 0)) (fun _ hk => hk.2) (.int .i64 t1587)) (fun _ hk => hk.2) (.int .i64 t1590)) (fun _ hk => trivial)))⟩; have n1_ : Aside0 (w21.heap[gb1582]? = some (.cells #[.slice none 0 0, .int .i64 0, .int .i64 0] 68 (0, 0))) := ⟨(by rw [hw]; exact (by refine blk_far ?_ NB1582_1592.out _; refine blk_far ?_ NB1582_1592.out _; refine blk_far ?_ NB1582_1592.out _; exact BK1582.out))⟩; have n2_ : Aside0 (w21.heap[gb1592]? = some (.cells #[.slice none 0 0, .int .i64 t1587, .int .i64 t1590] 68 (0, 0))) := ⟨(by rw [hw]; exact (by refine blk_put (cs := #[.slice none 0 0, .int .i64 t1587, .int .i64 0]) ?_ 2 _ rfl; refine blk_put (cs := #[.slice none 0 0, .int .i64 0, .int .i64 0]) ?_ 1 _ rfl; refine blk_put (cs := #[.slice none 0 0, .int .i64 0, .int .i64 0]) ?_ 0 _ rfl; exact BK1592.out))⟩; have n3_ : Aside0 (Below w.heap.size w w21) := ⟨(by rw [hw]; exact (by repeat (with_reducible first | exact HB.out | refine below_set ?_ GE1592.out)))⟩; clear hw; clear HO1585; clear BK1582; clear BK1592; clear HB; have HO1585 := n0_; have BK1582 := n1_; have BK1592 := n2_; have HB := n3_; clear n0_ n1_ n2_ n3_; have q22 : (2 : Int) ≤ ((t1583.length : Int) : Int) := of_decide_eq_true (by (with_reducible assumption)); obtain ⟨i022, hi022, _, hsz22, _⟩ := info_parts info9; have hroom22 : t1583.length ≤ co15 := (Kd.R_reads' HO1585.out).2.1; have hC22 : Kd.C Kd.string _ (some ad1586) t1583.length t1583 := (Kd.R_reads' HO1585.out).2.2; have hcut22 := cut_from (P := Try.prog) 134 9 .i64 Try.underlying134 hi022 1 hsz22 (some ad1586) t1583.length co15 2 (by omega) q22; have hr22 := Kd.C_drop (m := (2 : Int).toNat) (c := co15) hC22 (by omega) hroom22; obtain ⟨A22, hA22⟩ : ∃ A1, A1 = (if co15 = (2 : Int).toNat then (some ad1586) else ((some ad1586) : Option Addr).map (·.add ((2 : Int).toNat * 1))) := ⟨_, rfl⟩; obtain ⟨c22, hc22⟩ : ∃ c1, c1 = co15 - (2 : Int).toNat := ⟨_, rfl⟩; have hy22 : y1593.length = t1583.length - (2 : Int).toNat := (by rw [Ny1593.out, List.length_drop] <;> omega); rw [show (t1583).drop (2 : Int).toNat = y1593 from Ny1593.out.symm] at hr22; replace hr22 : Kd.C Kd.string _ A22 y1593.length y1593 := (by rw [hA22]; exact hr22); rw [← hy22, ← hA22, ← hc22] at hcut22; have HR1596 := Aside0.mk hr22; have HC1596 := Aside0.mk (show y1593.length ≤ c22 from by rw [hy22, hc22]; exact Nat.sub_le_sub_right hroom22 _); clear hr22 hC22 hroom22 hi022 hsz22 hc22; have KY22 := Aside0.mk hy22; have KA22 := Aside0.mk hA22; clear hy22 hA22; have KL22 := Aside0.mk (show 2 ≤ t1583.length from by omega); replace q22 := eq_true q22))
     go_loopg [40] k (fun kq v40 w' => ∃ (x40_1 : Int) (x1583001_1 : Int) (x1583002_1 : Int) (x1593000_1 : List (S40)) (u1593000 : Value), v40 = .int .i64 x40_1 ∧ Aside0 (impl_ParseJoiner.l0 kq t1588 t1591 y1593 (y1593.length : Int) x40_1 x1593000_1 t1587 t1590 = some (r1, r2, r3, r4)) ∧ Aside0 (kq ≤ k) ∧ Aside0 (Kd.S k40a 40 w' w.heap.size (fun _ => True) u1593000 x1593000_1) ∧ Aside0 (w'.heap[gb1582]? = some (.cells #[(.slice none 0 0), .int .i64 x1583001_1, .int .i64 x1583002_1] 68 (0, 0))) ∧ Aside0 (w'.heap[gb1592]? = some (.cells #[u1593000, .int .i64 t1587, .int .i64 t1590] 68 (0, 0))) ∧ Aside0 (Kd.R Kd.string 9 w' w.heap.size (fun _ => True) (.slice (some ad1586) t1583.length co15) t1583) ∧ Aside0 (Below w.heap.size w w'))
     case atStart => exact ⟨(0), (0), (0), (([] : List (S40))), (.slice none 0 0), rfl, H', ⟨Nat.le_refl _⟩, ⟨by exact Kd.S_nil _ _ _ _ _⟩, ⟨BK1582.out⟩, ⟨BK1592.out⟩, ⟨HO1585.out⟩, ⟨HB.out⟩⟩
     case round =>
      clear H'
      try clear c3b0
      try clear c3b1
      try clear c8b0
      try clear c8b1
      try clear c10b0
      try clear c10b1
      try clear c12b0
      try clear c12b1
      try clear q22
      try clear hcz20_0
      try clear hcz20_1
      try clear hcz20_2
      try clear hfz20_0
      try clear hfz20_1
      try clear hfz20_2
      try clear hx1586_0
      try clear hx1589_0
      try clear p1586
      try clear p1589
      try clear q1586
      try clear q1589
      try clear HO1585
      try clear HR1596
      obtain ⟨x40_1, x1583001_1, x1583002_1, x1593000_1, u1593000, rfl, HA, HK1, HO_1593000, BK1582, BK1592, HO1585, HB⟩ := hrel
      have HR1596 : Aside0 (Kd.C Kd.string wr A22 y1593.length y1593) := ⟨by have hr_ := Kd.C_drop (m := (2 : Int).toNat) (c := co15) (Kd.R_reads' HO1585.out).2.2 (by have := KL22.out; omega) (Kd.R_reads' HO1585.out).2.1; rw [show (t1583).drop (2 : Int).toNat = y1593 from Ny1593.out.symm] at hr_; rw [KA22.out]; exact hr_⟩
      cases gk with
      | zero => exact absurd HA.out (by simp [impl_ParseJoiner.l0])
      | succ k1 =>
       have H := HA.out
       clear HA
       simp only [impl_ParseJoiner.l0] at H
       by_cases c23 : x40_1 < (y1593.length : Int)
       ·rw [if_pos c23] at H
        have c23b0 : decide (x40_1 < (y1593.length : Int)) = true := decide_eq_true c23
        clear c23
        by_cases c24 : 0 ≤ x40_1
        ·rw [if_pos c24] at H
         have c24b0 : decide (0 ≤ x40_1) = true := decide_eq_true c24
         clear c24
         by_cases c25 : x40_1 < (y1593.length : Int)
         ·rw [if_pos c25] at H
          have c25b0 : decide (x40_1 < (y1593.length : Int)) = true := decide_eq_true c25
          clear c25
          replace H := Option.bind_eq_some_iff.mp H
          obtain ⟨⟨t1598, t1599, t1602, t1605, t1608, t1609⟩, A260, H⟩ := H
          have A26 := Aside0.mk A260
          clear A260
          by_cases c27 : t1609 = true
          ·subst c27
           rw [if_pos rfl] at H
           by_cases c28 : x1593000_1.length < 1599289640401
           ·rw [if_pos c28] at H
            have LMc28 := Aside0.mk c28
            clear c28
            obtain ⟨y1611, hy1611⟩ : ∃ y_ : List (S40), y_ = (x1593000_1 ++ [(⟨t1598, t1599, t1602, t1605, t1608⟩ : S40)]) := ⟨_, rfl⟩
            replace H : (impl_ParseJoiner.l0 k1 t1588 t1591 y1593 (y1593.length : Int) (wrap64 (x40_1 + 1)) y1611 t1587 t1590) = some (r1, r2, r3, r4) := by (rw [hy1611]; with_reducible exact H)
            have Ny1611 := Aside0.mk hy1611
            clear hy1611
            have H' := Aside0.mk H
            clear H
            have p1597 : 0 ≤ (x40_1 : Int) := of_decide_eq_true (by (with_reducible assumption))
            have q1597 : x40_1 < (y1593.length : Int) := of_decide_eq_true (by (with_reducible assumption))
            obtain ⟨ad1597, e1597, hx1597_0⟩ := Kd.at_string HR1596.out x40_1 p1597 q1597
            cases e1597
            skip
            replace p1597 := eq_true p1597
            replace q1597 := eq_true q1597
            go_wp2_with (first | ((with_reducible refine gate_callee (f := 41) rfl ?_); refine goesL_ (some 46) rfl rfl Try.func41 (by kernel_rfl) rfl #[.string (rdOf ByteArray.empty y1593 x40_1)] rfl (by (try simp only [List.map_toArray, List.map_cons, List.map_nil]); rfl) ?_; (with_reducible refine (impl_ParseTask.calls k1 (rdOf ByteArray.empty y1593 x40_1) t1598 t1599 t1602 t1605 t1608 true _ A26.out).mono ?_); rintro e w29 ⟨v1600, v1603, v1606, rfl, ho0, ho1, ho2, hb⟩; refine ⟨_, rfl, ?_⟩; have n0_ := Aside0.mk (Kd.S_mono (Kd.S_told (Kd.S_told (Kd.S_told (Kd.S_old HO_1593000.out hb) (Kd.R_base ho0)) (Kd.R_base ho1)) (Kd.R_base ho2)) (fun _ h_ => h_.1)); have n1_ := Aside0.mk (Kd.R_lower ho0 (below_size HB.out)); have n2_ := Aside0.mk (Kd.R_lower ho1 (below_size HB.out)); have n3_ := Aside0.mk (Kd.R_lower ho2 (below_size HB.out)); have n4_ := Aside0.mk (blk_below (g := gb1582) (o := .cells #[.slice none 0 0, .int .i64 x1583001_1, .int .i64 x1583002_1] 68 (0, 0)) BK1582.out hb); have n5_ := Aside0.mk (blk_below (g := gb1592) (o := .cells #[u1593000, .int .i64 t1587, .int .i64 t1590] 68 (0, 0)) BK1592.out hb); have n6_ := Aside0.mk (below_step HB.out hb); have nz_ := Aside0.mk (Kd.R_below HO1585.out hb); clear HO1585; have HO1585 := nz_; clear nz_; clear HO_1593000; clear BK1582; clear BK1592; clear HB; have HO_1593000 := n0_; have HO1601 := n1_; have HO1604 := n2_; have HO1607 := n3_; have BK1582 := n4_; have BK1592 := n5_; have HB := n6_; clear n0_ n1_ n2_ n3_ n4_ n5_ n6_; (try clear hb); (try clear ho0); (try clear ho1); (try clear ho2)) | ((with_reducible refine gate_dst (N := 12) rfl ?_); refine box_event ?hg (N := 12) ?hd (cs := #[.int .i64 0, .slice none 0 0, .slice none 0 0, .slice none 0 0, .int .i64 0]) (t := 40) ?hr ?_; (case hd => rfl); (case hg => rfl); (case hr => (go_simp; done)); intro gb1610 hg w30 hbox hb; have n0_ := Aside0.mk (Kd.S_below (Kd.S_elderB HO_1593000.out gb1610 (Nat.le_of_eq hg.symm)) hb); have n1_ := Aside0.mk (Kd.R_below HO1601.out hb); have n2_ := Aside0.mk (Kd.R_below HO1604.out hb); have n3_ := Aside0.mk (Kd.R_below HO1607.out hb); have n4_ := Aside0.mk (blk_below (g := gb1582) (o := .cells #[.slice none 0 0, .int .i64 x1583001_1, .int .i64 x1583002_1] 68 (0, 0)) BK1582.out hb); have n5_ := Aside0.mk (blk_below (g := gb1592) (o := .cells #[u1593000, .int .i64 t1587, .int .i64 t1590] 68 (0, 0)) BK1592.out hb); have n6_ := Aside0.mk (below_step HB.out hb); have n7_ := Aside0.mk (hbox); have n8_ := Aside0.mk ((by rw [hg]; exact (below_size HB.out) : w.heap.size ≤ gb1610)); have n9_ := Aside0.mk ((by rw [hg]; exact (below_size HB.out) : w.heap.size ≤ gb1610)); have n10_ := Aside0.mk ((by rw [hg]; exact Nat.ne_of_lt (blk_lt (g := gb1582) (o := .cells #[.slice none 0 0, .int .i64 x1583001_1, .int .i64 x1583002_1] 68 (0, 0)) BK1582.out) : gb1582 ≠ gb1610)); have n11_ := Aside0.mk ((by rw [hg]; exact Nat.ne_of_gt (blk_lt (g := gb1582) (o := .cells #[.slice none 0 0, .int .i64 x1583001_1, .int .i64 x1583002_1] 68 (0, 0)) BK1582.out) : gb1610 ≠ gb1582)); have n12_ := Aside0.mk ((by rw [hg]; exact Nat.ne_of_lt (blk_lt (g := gb1592) (o := .cells #[u1593000, .int .i64 t1587, .int .i64 t1590] 68 (0, 0)) BK1592.out) : gb1592 ≠ gb1610)); have n13_ := Aside0.mk ((by rw [hg]; exact Nat.ne_of_gt (blk_lt (g := gb1592) (o := .cells #[u1593000, .int .i64 t1587, .int .i64 t1590] 68 (0, 0)) BK1592.out) : gb1610 ≠ gb1592)); have nz_ := Aside0.mk (Kd.R_below HO1585.out hb); clear HO1585; have HO1585 := nz_; clear nz_; clear HO_1593000; clear HO1601; clear HO1604; clear HO1607; clear BK1582; clear BK1592; clear HB; have HO_1593000 := n0_; have HO1601 := n1_; have HO1604 := n2_; have HO1607 := n3_; have BK1582 := n4_; have BK1592 := n5_; have HB := n6_; have BK1610 := n7_; have GW1610 := n8_; have GE1610 := n9_; have NB1582_1610 := n10_; have NB1610_1582 := n11_; have NB1592_1610 := n12_; have NB1610_1592 := n13_; clear n0_ n1_ n2_ n3_ n4_ n5_ n6_ n7_ n8_ n9_ n10_ n11_ n12_ n13_; clear hb hbox hg; have hnb31 := NB1610_1582.out; have hnc31 := NB1582_1610.out; have hnb32 := NB1610_1592.out; have hnc32 := NB1592_1610.out; have hcz33_0 : w30.cell? ⟨gb1610, 0, none⟩ = some (.int .i64 0) := (blk_cell BK1610.out 0).trans rfl; have hcz33_1 : w30.cell? ⟨gb1610, 1, none⟩ = some (.slice none 0 0) := (blk_cell BK1610.out 1).trans rfl; have hcz33_2 : w30.cell? ⟨gb1610, 2, none⟩ = some (.slice none 0 0) := (blk_cell BK1610.out 2).trans rfl; have hcz33_3 : w30.cell? ⟨gb1610, 3, none⟩ = some (.slice none 0 0) := (blk_cell BK1610.out 3).trans rfl; have hcz33_4 : w30.cell? ⟨gb1610, 4, none⟩ = some (.int .i64 0) := (blk_cell BK1610.out 4).trans rfl; have hfz33_0 := blk_frozen BK1610.out 0; have hfz33_1 := blk_frozen BK1610.out 1; have hfz33_2 := blk_frozen BK1610.out 2; have hfz33_3 := blk_frozen BK1610.out 3; have hfz33_4 := blk_frozen BK1610.out 4; obtain ⟨Ao34, co34, eo34⟩ := Kd.R_slice HO1601.out; subst eo34; obtain ⟨Ao35, co35, eo35⟩ := Kd.R_slice HO1604.out; subst eo35; obtain ⟨Ao36, co36, eo36⟩ := Kd.R_slice HO1607.out; subst eo36) | ((with_reducible refine gate_store (t := 40) (p := 12) rfl ?_); refine store_event (t := 40) (p := 12) (v := ?vo_w37) (w1 := (((((w30.setCell ⟨gb1610, 0, none⟩ (.int .i64 t1598)).setCell ⟨gb1610, 1, none⟩ (.slice Ao34 t1599.length co34)).setCell ⟨gb1610, 2, none⟩ (.slice Ao35 t1602.length co35)).setCell ⟨gb1610, 3, none⟩ (.slice Ao36 t1605.length co36)).setCell ⟨gb1610, 4, none⟩ (.int .i64 t1608))) ?hg ?ho ?hn ?hr ?_; (case ho => rfl); (case hg => rfl); (case hn => rfl); (case hr => (go_simp; done)); intro w37 hw; have n0_ : Aside0 (Kd.S k40a 40 w37 w.heap.size (fun k_ => some k_ ≠ (.slice Ao34 t1599.length co34 : Value).ownBlock ∧ some k_ ≠ (.slice Ao35 t1602.length co35 : Value).ownBlock ∧ some k_ ≠ (.slice Ao36 t1605.length co36 : Value).ownBlock ∧ k_ ≠ gb1610) u1593000 x1593000_1) := ⟨(by rw [hw]; exact (by exact Kd.S_mono (Kd.S_far (p := ⟨gb1610, 4, none⟩) (Kd.S_far (p := ⟨gb1610, 3, none⟩) (Kd.S_far (p := ⟨gb1610, 2, none⟩) (Kd.S_far (p := ⟨gb1610, 1, none⟩) (Kd.S_far (p := ⟨gb1610, 0, none⟩) (Kd.S_mono HO_1593000.out (fun k_ hk => (⟨hk, hk.2⟩ : _ ∧ k_ ≠ gb1610))) (fun _ hk => hk.2) (.int .i64 t1598)) (fun _ hk => hk.2) (.slice Ao34 t1599.length co34)) (fun _ hk => hk.2) (.slice Ao35 t1602.length co35)) (fun _ hk => hk.2) (.slice Ao36 t1605.length co36)) (fun _ hk => hk.2) (.int .i64 t1608)) (fun _ hk => ⟨hk.1.1.1.1.2, ⟨hk.1.1.1.2, ⟨hk.1.1.2, hk.1.2⟩⟩⟩)))⟩; have n1_ : Aside0 (Kd.R k60 60 w37 w.heap.size (fun k_ => some k_ ≠ (.slice Ao35 t1602.length co35 : Value).ownBlock) (.slice Ao34 t1599.length co34) t1599) := ⟨(by rw [hw]; exact (by exact Kd.R_mono (Kd.R_far (p := ⟨gb1610, 4, none⟩) (Kd.R_far (p := ⟨gb1610, 3, none⟩) (Kd.R_far (p := ⟨gb1610, 2, none⟩) (Kd.R_far (p := ⟨gb1610, 1, none⟩) (Kd.R_far (p := ⟨gb1610, 0, none⟩) (Kd.R_types HO1601.out BK1610.out (by decide)) (fun _ hk => hk.2) (.int .i64 t1598)) (fun _ hk => hk.2) (.slice Ao34 t1599.length co34)) (fun _ hk => hk.2) (.slice Ao35 t1602.length co35)) (fun _ hk => hk.2) (.slice Ao36 t1605.length co36)) (fun _ hk => hk.2) (.int .i64 t1608)) (fun _ hk => hk.1)))⟩; have n2_ : Aside0 (Kd.R k60 60 w37 w.heap.size (fun k_ => some k_ ≠ (.slice Ao34 t1599.length co34 : Value).ownBlock) (.slice Ao35 t1602.length co35) t1602) := ⟨(by rw [hw]; exact (by exact Kd.R_mono (Kd.R_far (p := ⟨gb1610, 4, none⟩) (Kd.R_far (p := ⟨gb1610, 3, none⟩) (Kd.R_far (p := ⟨gb1610, 2, none⟩) (Kd.R_far (p := ⟨gb1610, 1, none⟩) (Kd.R_far (p := ⟨gb1610, 0, none⟩) (Kd.R_types HO1604.out BK1610.out (by decide)) (fun _ hk => hk.2) (.int .i64 t1598)) (fun _ hk => hk.2) (.slice Ao34 t1599.length co34)) (fun _ hk => hk.2) (.slice Ao35 t1602.length co35)) (fun _ hk => hk.2) (.slice Ao36 t1605.length co36)) (fun _ hk => hk.2) (.int .i64 t1608)) (fun _ hk => hk.1)))⟩; have n3_ : Aside0 (Kd.R Kd.bool 4 w37 w.heap.size (fun _ => True) (.slice Ao36 t1605.length co36) t1605) := ⟨(by rw [hw]; exact (by exact Kd.R_mono (Kd.R_far (p := ⟨gb1610, 4, none⟩) (Kd.R_far (p := ⟨gb1610, 3, none⟩) (Kd.R_far (p := ⟨gb1610, 2, none⟩) (Kd.R_far (p := ⟨gb1610, 1, none⟩) (Kd.R_far (p := ⟨gb1610, 0, none⟩) (Kd.R_types HO1607.out BK1610.out (by decide)) (fun _ hk => hk.2) (.int .i64 t1598)) (fun _ hk => hk.2) (.slice Ao34 t1599.length co34)) (fun _ hk => hk.2) (.slice Ao35 t1602.length co35)) (fun _ hk => hk.2) (.slice Ao36 t1605.length co36)) (fun _ hk => hk.2) (.int .i64 t1608)) (fun _ hk => trivial)))⟩; have n4_ : Aside0 (w37.heap[gb1582]? = some (.cells #[.slice none 0 0, .int .i64 x1583001_1, .int .i64 x1583002_1] 68 (0, 0))) := ⟨(by rw [hw]; exact (by refine blk_far ?_ NB1582_1610.out _; refine blk_far ?_ NB1582_1610.out _; refine blk_far ?_ NB1582_1610.out _; refine blk_far ?_ NB1582_1610.out _; refine blk_far ?_ NB1582_1610.out _; exact BK1582.out))⟩; have n5_ : Aside0 (w37.heap[gb1592]? = some (.cells #[u1593000, .int .i64 t1587, .int .i64 t1590] 68 (0, 0))) := ⟨(by rw [hw]; exact (by refine blk_far ?_ NB1592_1610.out _; refine blk_far ?_ NB1592_1610.out _; refine blk_far ?_ NB1592_1610.out _; refine blk_far ?_ NB1592_1610.out _; refine blk_far ?_ NB1592_1610.out _; exact BK1592.out))⟩; have n6_ : Aside0 (w37.heap[gb1610]? = some (.cells #[.int .i64 t1598, .slice Ao34 t1599.length co34, .slice Ao35 t1602.length co35, .slice Ao36 t1605.length co36, .int .i64 t1608] 40 (0, 0))) := ⟨(by rw [hw]; exact (by refine blk_put (cs := #[.int .i64 t1598, .slice Ao34 t1599.length co34, .slice Ao35 t1602.length co35, .slice Ao36 t1605.length co36, .int .i64 0]) ?_ 4 _ rfl; refine blk_put (cs := #[.int .i64 t1598, .slice Ao34 t1599.length co34, .slice Ao35 t1602.length co35, .slice none 0 0, .int .i64 0]) ?_ 3 _ rfl; refine blk_put (cs := #[.int .i64 t1598, .slice Ao34 t1599.length co34, .slice none 0 0, .slice none 0 0, .int .i64 0]) ?_ 2 _ rfl; refine blk_put (cs := #[.int .i64 t1598, .slice none 0 0, .slice none 0 0, .slice none 0 0, .int .i64 0]) ?_ 1 _ rfl; refine blk_put (cs := #[.int .i64 0, .slice none 0 0, .slice none 0 0, .slice none 0 0, .int .i64 0]) ?_ 0 _ rfl; exact BK1610.out))⟩; have n7_ : Aside0 (Below w.heap.size w w37) := ⟨(by rw [hw]; exact (by repeat (with_reducible first | exact HB.out | refine below_set ?_ GE1610.out)))⟩; have nz_ : Aside0 (Kd.R Kd.string 9 w37 w.heap.size (fun _ => True) (.slice (some ad1586) t1583.length co15) t1583) := ⟨(by rw [hw]; exact (by exact Kd.R_mono (Kd.R_far (p := ⟨gb1610, 4, none⟩) (Kd.R_far (p := ⟨gb1610, 3, none⟩) (Kd.R_far (p := ⟨gb1610, 2, none⟩) (Kd.R_far (p := ⟨gb1610, 1, none⟩) (Kd.R_far (p := ⟨gb1610, 0, none⟩) (Kd.R_types HO1585.out BK1610.out (by decide)) (fun _ hk => hk.2) (.int .i64 t1598)) (fun _ hk => hk.2) (.slice Ao34 t1599.length co34)) (fun _ hk => hk.2) (.slice Ao35 t1602.length co35)) (fun _ hk => hk.2) (.slice Ao36 t1605.length co36)) (fun _ hk => hk.2) (.int .i64 t1608)) (fun _ hk => trivial)))⟩; clear HO1585; have HO1585 := nz_; clear nz_; clear hw; clear HO_1593000; clear HO1601; clear HO1604; clear HO1607; clear BK1582; clear BK1592; clear BK1610; clear HB; have HO_1593000 := n0_; have HO1601 := n1_; have HO1604 := n2_; have HO1607 := n3_; have BK1582 := n4_; have BK1592 := n5_; have BK1610 := n6_; have HB := n7_; clear n0_ n1_ n2_ n3_ n4_ n5_ n6_ n7_; have hnb38 := NB1592_1582.out; have hnc38 := NB1582_1592.out; have hcz39_0 : w37.cell? ⟨gb1592, 0, none⟩ = some (u1593000) := (blk_cell BK1592.out 0).trans rfl; have hcz39_1 : w37.cell? ⟨gb1592, 1, none⟩ = some (.int .i64 t1587) := (blk_cell BK1592.out 1).trans rfl; have hcz39_2 : w37.cell? ⟨gb1592, 2, none⟩ = some (.int .i64 t1590) := (blk_cell BK1592.out 2).trans rfl; have hfz39_0 := blk_frozen BK1592.out 0; have hfz39_1 := blk_frozen BK1592.out 1; have hfz39_2 := blk_frozen BK1592.out 2; have hcz40_0 : w37.cell? ⟨gb1610, 0, none⟩ = some (.int .i64 t1598) := (blk_cell BK1610.out 0).trans rfl; have hcz40_1 : w37.cell? ⟨gb1610, 1, none⟩ = some (.slice Ao34 t1599.length co34) := (blk_cell BK1610.out 1).trans rfl; have hcz40_2 : w37.cell? ⟨gb1610, 2, none⟩ = some (.slice Ao35 t1602.length co35) := (blk_cell BK1610.out 2).trans rfl; have hcz40_3 : w37.cell? ⟨gb1610, 3, none⟩ = some (.slice Ao36 t1605.length co36) := (blk_cell BK1610.out 3).trans rfl; have hcz40_4 : w37.cell? ⟨gb1610, 4, none⟩ = some (.int .i64 t1608) := (blk_cell BK1610.out 4).trans rfl; have hfz40_0 := blk_frozen BK1610.out 0; have hfz40_1 := blk_frozen BK1610.out 1; have hfz40_2 := blk_frozen BK1610.out 2; have hfz40_3 := blk_frozen BK1610.out 3; have hfz40_4 := blk_frozen BK1610.out 4) | ((with_reducible refine gate_builtin (b := .append) (xs := #[.tmp 53, .tmp 55]) rfl ?_); at_builtin; refine Kd.S_append k40a (w0 := w) w.heap.size rfl (.tmp 53) (.tmp 55) 66 40 (.agg #[(.int .i64 0), (.slice none 0 0), (.slice none 0 0), (.slice none 0 0), (.int .i64 0)]) 88 rfl Try.underlying66 info40 rfl (by decide) (by omega) u1593000 x1593000_1 (⟨t1598, t1599, t1602, t1605, t1608⟩ : S40) [.int .i64 t1598, .slice Ao34 t1599.length co34, .slice Ao35 t1602.length co35, .slice Ao36 t1605.length co36, .int .i64 t1608] (fun k_ => k_ ≠ gb1610) (fun k_ => some k_ = (.slice Ao34 t1599.length co34 : Value).ownBlock ∨ some k_ = (.slice Ao35 t1602.length co35 : Value).ownBlock ∨ some k_ = (.slice Ao36 t1605.length co36 : Value).ownBlock) rfl rfl ?aP (fun k_ hk_ => hk_.elim (fun h_ => ((Kd.R_mono (ok' := fun k_ => (fun k_ => k_ ≠ gb1610) k_ ∧ some k_ ≠ (u1593000 : Value).ownBlock) (Kd.R_types (Kd.R_apart' HO1601.out (Kd.S_typed HO_1593000.out) (by decide)) BK1610.out (by decide)) (fun k_ hk => ⟨hk.2, hk.1.2⟩))).1 k_ h_.symm) (fun h_ => h_.elim (fun h_ => ((Kd.R_mono (ok' := fun k_ => (fun k_ => k_ ≠ gb1610) k_ ∧ some k_ ≠ (u1593000 : Value).ownBlock) (Kd.R_types (Kd.R_apart' HO1604.out (Kd.S_typed HO_1593000.out) (by decide)) BK1610.out (by decide)) (fun k_ hk => ⟨hk.2, hk.1.2⟩))).1 k_ h_.symm) (fun h_ => ((Kd.R_mono (ok' := fun k_ => (fun k_ => k_ ≠ gb1610) k_ ∧ some k_ ≠ (u1593000 : Value).ownBlock) (Kd.R_types (Kd.R_apart' HO1607.out (Kd.S_typed HO_1593000.out) (by decide)) BK1610.out (by decide)) (fun k_ hk => ⟨hk.2, hk.1.2⟩))).1 k_ h_.symm))) ?aF ?aO ?aB ?aS ?aL ?_; (case aP => exact ⟨k40_mkM _ _ _ (⟨t1598, t1599, t1602, t1605, t1608⟩ : S40) (Kd.R_mono (Kd.R_tight rfl (Kd.R_mono (ok' := fun k_ => (fun k_ => k_ ≠ gb1610) k_ ∧ some k_ ≠ (u1593000 : Value).ownBlock) (Kd.R_types (Kd.R_apart' HO1601.out (Kd.S_typed HO_1593000.out) (by decide)) BK1610.out (by decide)) (fun k_ hk => ⟨hk.2, hk.1.2⟩))) (fun _ h_ => Or.inl h_)) (Kd.R_mono (Kd.R_tight rfl (Kd.R_mono (ok' := fun k_ => (fun k_ => k_ ≠ gb1610) k_ ∧ some k_ ≠ (u1593000 : Value).ownBlock) (Kd.R_types (Kd.R_apart' HO1604.out (Kd.S_typed HO_1593000.out) (by decide)) BK1610.out (by decide)) (fun k_ hk => ⟨hk.2, hk.1.2⟩))) (fun _ h_ => Or.inr (Or.inl h_))) (Kd.R_mono (Kd.R_tight rfl (Kd.R_mono (ok' := fun k_ => (fun k_ => k_ ≠ gb1610) k_ ∧ some k_ ≠ (u1593000 : Value).ownBlock) (Kd.R_types (Kd.R_apart' HO1607.out (Kd.S_typed HO_1593000.out) (by decide)) BK1610.out (by decide)) (fun k_ hk => ⟨hk.2, hk.1.2⟩))) (fun _ h_ => Or.inr (Or.inr (h_)))), ap12_mk (fun k_ h1_ h2_ => (HO1601.out.1 k_ h1_) h2_.symm)⟩); (case aB => exact HB.out); (case aF => exact (fun k_ hk => Kd.freshB (g := gb1610) (o := .cells #[.int .i64 t1598, .slice Ao34 t1599.length co34, .slice Ao35 t1602.length co35, .slice Ao36 t1605.length co36, .int .i64 t1608] 40 (0, 0)) BK1610.out k_ hk)); (case aO => exact (by exact Kd.S_mono HO_1593000.out (fun k_ hk => ⟨hk.2.2.2, fun e_ => e_.elim (fun h_ => hk.1 h_) (fun h_ => h_.elim (fun h_ => hk.2.1 h_) (fun h_ => hk.2.2.1 h_))⟩))); (case aS => exact (below_size HB.out)); (case aL => have := LMc28.out; omega); intro v1612 w41 ho hb hg hat; rw [← Ny1611.out] at ho; have n0_ := Aside0.mk (blk_grown (g := gb1582) (o := .cells #[.slice none 0 0, .int .i64 x1583001_1, .int .i64 x1583002_1] 68 (0, 0)) BK1582.out hg (Kd.S_ne HO_1593000.out BK1582.out (by decide))); have n1_ := Aside0.mk (blk_grown (g := gb1592) (o := .cells #[u1593000, .int .i64 t1587, .int .i64 t1590] 68 (0, 0)) BK1592.out hg (Kd.S_ne HO_1593000.out BK1592.out (by decide))); have n2_ := Aside0.mk (blk_grown (g := gb1610) (o := .cells #[.int .i64 t1598, .slice Ao34 t1599.length co34, .slice Ao35 t1602.length co35, .slice Ao36 t1605.length co36, .int .i64 t1608] 40 (0, 0)) BK1610.out hg (Kd.S_away HO_1593000.out (fun _ hk => hk.2.2.2))); have n3_ := Aside0.mk (hb); have n4_ := Aside0.mk (ho); have nz_ := Aside0.mk (Kd.R_over' HO1585.out (Kd.S_typed HO_1593000.out) (by decide) hg); clear HO1585; have HO1585 := nz_; clear nz_; clear BK1582; clear BK1592; clear BK1610; clear HB; clear HO_1593000; clear HO1601; clear HO1604; clear HO1607; have BK1582 := n0_; have BK1592 := n1_; have BK1610 := n2_; have HB := n3_; have HO1613 := n4_; clear n0_ n1_ n2_ n3_ n4_; clear ho hb hg hat; obtain ⟨Ao42, co42, eo42⟩ := Kd.S_slice HO1613.out; subst eo42; have hcz43_0 : w41.cell? ⟨gb1592, 0, none⟩ = some (u1593000) := (blk_cell BK1592.out 0).trans rfl; have hcz43_1 : w41.cell? ⟨gb1592, 1, none⟩ = some (.int .i64 t1587) := (blk_cell BK1592.out 1).trans rfl; have hcz43_2 : w41.cell? ⟨gb1592, 2, none⟩ = some (.int .i64 t1590) := (blk_cell BK1592.out 2).trans rfl; have hfz43_0 := blk_frozen BK1592.out 0; have hfz43_1 := blk_frozen BK1592.out 1; have hfz43_2 := blk_frozen BK1592.out 2))
            go_roundg k1
            case measure => have := HK1.out; omega
            case rel => exact ⟨(wrap64 (x40_1 + 1)), (x1583001_1), (x1583002_1), (y1611), (.slice Ao42 y1611.length co42), rfl, H', ⟨by have := HK1.out; omega⟩, ⟨by exact Kd.S_mono (Kd.S_far (p := ⟨gb1592, 0, none⟩) (Kd.S_types HO1613.out BK1592.out (by decide)) (fun _ hk => hk.2) (.slice Ao42 y1611.length co42)) (fun _ hk => trivial)⟩, ⟨by refine blk_far ?_ NB1582_1592.out _; exact BK1582.out⟩, ⟨by refine blk_put (cs := #[u1593000, .int .i64 t1587, .int .i64 t1590]) ?_ 0 _ rfl; exact BK1592.out⟩, ⟨by exact Kd.R_mono (Kd.R_far (p := ⟨gb1592, 0, none⟩) (Kd.R_types HO1585.out BK1592.out (by decide)) (fun _ hk => hk.2) (.slice Ao42 y1611.length co42)) (fun _ hk => trivial)⟩, ⟨by repeat ((with_reducible first | exact HB.out | refine below_set ?_ GE1592.out))⟩⟩
           ·rw [if_neg c28] at H
            exact absurd H (by simp)
          ·replace c27 := Bool.eq_false_iff.mpr c27
           subst c27
           rw [if_neg (show ¬ (false = true) by decide)] at H
           simp only [Option.some.injEq, Prod.mk.injEq] at H
           obtain ⟨rfl, rfl, rfl, rfl⟩ := H
           have p1597 : 0 ≤ (x40_1 : Int) := of_decide_eq_true (by (with_reducible assumption))
           have q1597 : x40_1 < (y1593.length : Int) := of_decide_eq_true (by (with_reducible assumption))
           obtain ⟨ad1597, e1597, hx1597_0⟩ := Kd.at_string HR1596.out x40_1 p1597 q1597
           cases e1597
           skip
           replace p1597 := eq_true p1597
           replace q1597 := eq_true q1597
           go_wp2_with (first | ((with_reducible refine gate_callee (f := 41) rfl ?_); refine goesL_ (some 46) rfl rfl Try.func41 (by kernel_rfl) rfl #[.string (rdOf ByteArray.empty y1593 x40_1)] rfl (by (try simp only [List.map_toArray, List.map_cons, List.map_nil]); rfl) ?_; (with_reducible refine (impl_ParseTask.calls k1 (rdOf ByteArray.empty y1593 x40_1) t1598 t1599 t1602 t1605 t1608 false _ A26.out).mono ?_); rintro e w44 ⟨v1600, v1603, v1606, rfl, ho0, ho1, ho2, hb⟩; refine ⟨_, rfl, ?_⟩; have n0_ := Aside0.mk (Kd.S_mono (Kd.S_told (Kd.S_told (Kd.S_told (Kd.S_old HO_1593000.out hb) (Kd.R_base ho0)) (Kd.R_base ho1)) (Kd.R_base ho2)) (fun _ h_ => h_.1)); have n1_ := Aside0.mk (Kd.R_lower ho0 (below_size HB.out)); have n2_ := Aside0.mk (Kd.R_lower ho1 (below_size HB.out)); have n3_ := Aside0.mk (Kd.R_lower ho2 (below_size HB.out)); have n4_ := Aside0.mk (blk_below (g := gb1582) (o := .cells #[.slice none 0 0, .int .i64 x1583001_1, .int .i64 x1583002_1] 68 (0, 0)) BK1582.out hb); have n5_ := Aside0.mk (blk_below (g := gb1592) (o := .cells #[u1593000, .int .i64 t1587, .int .i64 t1590] 68 (0, 0)) BK1592.out hb); have n6_ := Aside0.mk (below_step HB.out hb); have nz_ := Aside0.mk (Kd.R_below HO1585.out hb); clear HO1585; have HO1585 := nz_; clear nz_; clear HO_1593000; clear BK1582; clear BK1592; clear HB; have HO_1593000 := n0_; have HO1601 := n1_; have HO1604 := n2_; have HO1607 := n3_; have BK1582 := n4_; have BK1592 := n5_; have HB := n6_; clear n0_ n1_ n2_ n3_ n4_ n5_ n6_; (try clear hb); (try clear ho0); (try clear ho1); (try clear ho2)) | ((with_reducible refine gate_dst (N := 12) rfl ?_); refine box_event ?hg (N := 12) ?hd (cs := #[.int .i64 0, .slice none 0 0, .slice none 0 0, .slice none 0 0, .int .i64 0]) (t := 40) ?hr ?_; (case hd => rfl); (case hg => rfl); (case hr => (go_simp; done)); intro gb1610 hg w45 hbox hb; have n0_ := Aside0.mk (Kd.S_below (Kd.S_elderB HO_1593000.out gb1610 (Nat.le_of_eq hg.symm)) hb); have n1_ := Aside0.mk (Kd.R_below HO1601.out hb); have n2_ := Aside0.mk (Kd.R_below HO1604.out hb); have n3_ := Aside0.mk (Kd.R_below HO1607.out hb); have n4_ := Aside0.mk (blk_below (g := gb1582) (o := .cells #[.slice none 0 0, .int .i64 x1583001_1, .int .i64 x1583002_1] 68 (0, 0)) BK1582.out hb); have n5_ := Aside0.mk (blk_below (g := gb1592) (o := .cells #[u1593000, .int .i64 t1587, .int .i64 t1590] 68 (0, 0)) BK1592.out hb); have n6_ := Aside0.mk (below_step HB.out hb); have n7_ := Aside0.mk (hbox); have n8_ := Aside0.mk ((by rw [hg]; exact (below_size HB.out) : w.heap.size ≤ gb1610)); have n9_ := Aside0.mk ((by rw [hg]; exact (below_size HB.out) : w.heap.size ≤ gb1610)); have n10_ := Aside0.mk ((by rw [hg]; exact Nat.ne_of_lt (blk_lt (g := gb1582) (o := .cells #[.slice none 0 0, .int .i64 x1583001_1, .int .i64 x1583002_1] 68 (0, 0)) BK1582.out) : gb1582 ≠ gb1610)); have n11_ := Aside0.mk ((by rw [hg]; exact Nat.ne_of_gt (blk_lt (g := gb1582) (o := .cells #[.slice none 0 0, .int .i64 x1583001_1, .int .i64 x1583002_1] 68 (0, 0)) BK1582.out) : gb1610 ≠ gb1582)); have n12_ := Aside0.mk ((by rw [hg]; exact Nat.ne_of_lt (blk_lt (g := gb1592) (o := .cells #[u1593000, .int .i64 t1587, .int .i64 t1590] 68 (0, 0)) BK1592.out) : gb1592 ≠ gb1610)); have n13_ := Aside0.mk ((by rw [hg]; exact Nat.ne_of_gt (blk_lt (g := gb1592) (o := .cells #[u1593000, .int .i64 t1587, .int .i64 t1590] 68 (0, 0)) BK1592.out) : gb1610 ≠ gb1592)); have nz_ := Aside0.mk (Kd.R_below HO1585.out hb); clear HO1585; have HO1585 := nz_; clear nz_; clear HO_1593000; clear HO1601; clear HO1604; clear HO1607; clear BK1582; clear BK1592; clear HB; have HO_1593000 := n0_; have HO1601 := n1_; have HO1604 := n2_; have HO1607 := n3_; have BK1582 := n4_; have BK1592 := n5_; have HB := n6_; have BK1610 := n7_; have GW1610 := n8_; have GE1610 := n9_; have NB1582_1610 := n10_; have NB1610_1582 := n11_; have NB1592_1610 := n12_; have NB1610_1592 := n13_; clear n0_ n1_ n2_ n3_ n4_ n5_ n6_ n7_ n8_ n9_ n10_ n11_ n12_ n13_; clear hb hbox hg; have hnb46 := NB1610_1582.out; have hnc46 := NB1582_1610.out; have hnb47 := NB1610_1592.out; have hnc47 := NB1592_1610.out; have hcz48_0 : w45.cell? ⟨gb1610, 0, none⟩ = some (.int .i64 0) := (blk_cell BK1610.out 0).trans rfl; have hcz48_1 : w45.cell? ⟨gb1610, 1, none⟩ = some (.slice none 0 0) := (blk_cell BK1610.out 1).trans rfl; have hcz48_2 : w45.cell? ⟨gb1610, 2, none⟩ = some (.slice none 0 0) := (blk_cell BK1610.out 2).trans rfl; have hcz48_3 : w45.cell? ⟨gb1610, 3, none⟩ = some (.slice none 0 0) := (blk_cell BK1610.out 3).trans rfl; have hcz48_4 : w45.cell? ⟨gb1610, 4, none⟩ = some (.int .i64 0) := (blk_cell BK1610.out 4).trans rfl; have hfz48_0 := blk_frozen BK1610.out 0; have hfz48_1 := blk_frozen BK1610.out 1; have hfz48_2 := blk_frozen BK1610.out 2; have hfz48_3 := blk_frozen BK1610.out 3; have hfz48_4 := blk_frozen BK1610.out 4; obtain ⟨Ao49, co49, eo49⟩ := Kd.R_slice HO1601.out; subst eo49; obtain ⟨Ao50, co50, eo50⟩ := Kd.R_slice HO1604.out; subst eo50; obtain ⟨Ao51, co51, eo51⟩ := Kd.R_slice HO1607.out; subst eo51; have hnb52 := NB1582_1592.out; have hnc52 := NB1592_1582.out; have hcz53_0 : w45.cell? ⟨gb1582, 0, none⟩ = some (.slice none 0 0) := (blk_cell BK1582.out 0).trans rfl; have hcz53_1 : w45.cell? ⟨gb1582, 1, none⟩ = some (.int .i64 x1583001_1) := (blk_cell BK1582.out 1).trans rfl; have hcz53_2 : w45.cell? ⟨gb1582, 2, none⟩ = some (.int .i64 x1583002_1) := (blk_cell BK1582.out 2).trans rfl; have hfz53_0 := blk_frozen BK1582.out 0; have hfz53_1 := blk_frozen BK1582.out 1; have hfz53_2 := blk_frozen BK1582.out 2))
           refine bodyPost_ret (results_ct rfl _ _ gb1582 68 #[.slice none 0 0, .int .i64 0, .int .i64 0] (0, 0) _ rfl (by refine blk_put (cs := #[.slice none 0 0, .int .i64 0, .int .i64 x1583002_1]) ?_ 2 _ rfl; refine blk_put (cs := #[.slice none 0 0, .int .i64 x1583001_1, .int .i64 x1583002_1]) ?_ 1 _ rfl; refine blk_put (cs := #[.slice none 0 0, .int .i64 x1583001_1, .int .i64 x1583002_1]) ?_ 0 _ rfl; refine blk_far ?_ NB1582_1610.out _; refine blk_far ?_ NB1582_1610.out _; refine blk_far ?_ NB1582_1610.out _; refine blk_far ?_ NB1582_1610.out _; refine blk_far ?_ NB1582_1610.out _; exact BK1582.out) Try.underlying68 rfl (by kernel_rfl)) rfl ?_
           exact ⟨_, rfl, by exact Kd.S_nil _ _ _ _ _, by repeat ((with_reducible first | exact HB.out | refine below_set ?_ GE1582.out | refine below_set ?_ GE1610.out))⟩
         ·rw [if_neg c25] at H
          exact absurd H (by simp)
        ·rw [if_neg c24] at H
         exact absurd H (by simp)
       ·rw [if_neg c23] at H
        have c23b0 : decide (x40_1 < (y1593.length : Int)) = false := decide_eq_false c23
        clear c23
        by_cases c54 : t1588 = true
        ·subst c54
         rw [if_pos rfl] at H
         by_cases c55 : t1591 = true
         ·subst c55
          rw [if_pos rfl] at H
          replace H := Option.bind_eq_some_iff.mp H
          obtain ⟨t1614, A560, H⟩ := H
          have A56 := Aside0.mk A560
          clear A560
          by_cases c57 : t1614 = true
          ·subst c57
           rw [if_pos rfl] at H
           simp only [Option.some.injEq, Prod.mk.injEq] at H
           obtain ⟨rfl, rfl, rfl, rfl⟩ := H
           have hnb58 := NB1592_1582.out
           have hnc58 := NB1582_1592.out
           have hcz59_0 : wr.cell? ⟨gb1592, 0, none⟩ = some (u1593000) := (blk_cell BK1592.out 0).trans rfl
           have hcz59_1 : wr.cell? ⟨gb1592, 1, none⟩ = some (.int .i64 t1587) := (blk_cell BK1592.out 1).trans rfl
           have hcz59_2 : wr.cell? ⟨gb1592, 2, none⟩ = some (.int .i64 t1590) := (blk_cell BK1592.out 2).trans rfl
           have hfz59_0 := blk_frozen BK1592.out 0
           have hfz59_1 := blk_frozen BK1592.out 1
           have hfz59_2 := blk_frozen BK1592.out 2
           obtain ⟨Ao60, co60, eo60⟩ := Kd.S_slice HO_1593000.out
           subst eo60
           go_wp2_with ((go_at_call 72; (with_reducible refine (impl_IsValidJoiner.calls k1 _ _ x1593000_1 t1587 t1590 true _ ?side1 ?side2 A56.out).mono ?_); (case side1 => repeat (exact (Kd.S_reads' HO_1593000.out).2.2)); (case side2 => exact (Kd.S_reads' HO_1593000.out).2.1); rintro e w61 ⟨rfl, hb⟩; have n0_ := Aside0.mk (Kd.S_below HO_1593000.out hb); have n1_ := Aside0.mk (blk_below (g := gb1582) (o := .cells #[.slice none 0 0, .int .i64 x1583001_1, .int .i64 x1583002_1] 68 (0, 0)) BK1582.out hb); have n2_ := Aside0.mk (blk_below (g := gb1592) (o := .cells #[.slice Ao60 x1593000_1.length co60, .int .i64 t1587, .int .i64 t1590] 68 (0, 0)) BK1592.out hb); have n3_ := Aside0.mk (below_step HB.out hb); have nz_ := Aside0.mk (Kd.R_below HO1585.out hb); clear HO1585; have HO1585 := nz_; clear nz_; clear HO_1593000; clear BK1582; clear BK1592; clear HB; have HO_1593000 := n0_; have BK1582 := n1_; have BK1592 := n2_; have HB := n3_; clear n0_ n1_ n2_ n3_; (try clear hb); have hcz62_0 : w61.cell? ⟨gb1592, 0, none⟩ = some (.slice Ao60 x1593000_1.length co60) := (blk_cell BK1592.out 0).trans rfl; have hcz62_1 : w61.cell? ⟨gb1592, 1, none⟩ = some (.int .i64 t1587) := (blk_cell BK1592.out 1).trans rfl; have hcz62_2 : w61.cell? ⟨gb1592, 2, none⟩ = some (.int .i64 t1590) := (blk_cell BK1592.out 2).trans rfl; have hfz62_0 := blk_frozen BK1592.out 0; have hfz62_1 := blk_frozen BK1592.out 1; have hfz62_2 := blk_frozen BK1592.out 2; have hcz63_0 : w61.cell? ⟨gb1582, 0, none⟩ = some (.slice none 0 0) := (blk_cell BK1582.out 0).trans rfl; have hcz63_1 : w61.cell? ⟨gb1582, 1, none⟩ = some (.int .i64 x1583001_1) := (blk_cell BK1582.out 1).trans rfl; have hcz63_2 : w61.cell? ⟨gb1582, 2, none⟩ = some (.int .i64 x1583002_1) := (blk_cell BK1582.out 2).trans rfl; have hfz63_0 := blk_frozen BK1582.out 0; have hfz63_1 := blk_frozen BK1582.out 1; have hfz63_2 := blk_frozen BK1582.out 2))
           refine bodyPost_ret (results_ct rfl _ _ gb1582 68 #[.slice Ao60 x1593000_1.length co60, .int .i64 t1587, .int .i64 t1590] (0, 0) _ rfl (by refine blk_put (cs := #[.slice Ao60 x1593000_1.length co60, .int .i64 t1587, .int .i64 x1583002_1]) ?_ 2 _ rfl; refine blk_put (cs := #[.slice Ao60 x1593000_1.length co60, .int .i64 x1583001_1, .int .i64 x1583002_1]) ?_ 1 _ rfl; refine blk_put (cs := #[.slice none 0 0, .int .i64 x1583001_1, .int .i64 x1583002_1]) ?_ 0 _ rfl; exact BK1582.out) Try.underlying68 rfl (by kernel_rfl)) rfl ?_
           exact ⟨_, rfl, by exact Kd.S_mono (Kd.S_far (p := ⟨gb1582, 2, none⟩) (Kd.S_far (p := ⟨gb1582, 1, none⟩) (Kd.S_far (p := ⟨gb1582, 0, none⟩) (Kd.S_types HO_1593000.out BK1582.out (by decide)) (fun _ hk => hk.2) (.slice Ao60 x1593000_1.length co60)) (fun _ hk => hk.2) (.int .i64 t1587)) (fun _ hk => hk.2) (.int .i64 t1590)) (fun _ hk => trivial), by repeat ((with_reducible first | exact HB.out | refine below_set ?_ GE1582.out))⟩
          ·replace c57 := Bool.eq_false_iff.mpr c57
           subst c57
           rw [if_neg (show ¬ (false = true) by decide)] at H
           simp only [Option.some.injEq, Prod.mk.injEq] at H
           obtain ⟨rfl, rfl, rfl, rfl⟩ := H
           have hnb64 := NB1592_1582.out
           have hnc64 := NB1582_1592.out
           have hcz65_0 : wr.cell? ⟨gb1592, 0, none⟩ = some (u1593000) := (blk_cell BK1592.out 0).trans rfl
           have hcz65_1 : wr.cell? ⟨gb1592, 1, none⟩ = some (.int .i64 t1587) := (blk_cell BK1592.out 1).trans rfl
           have hcz65_2 : wr.cell? ⟨gb1592, 2, none⟩ = some (.int .i64 t1590) := (blk_cell BK1592.out 2).trans rfl
           have hfz65_0 := blk_frozen BK1592.out 0
           have hfz65_1 := blk_frozen BK1592.out 1
           have hfz65_2 := blk_frozen BK1592.out 2
           obtain ⟨Ao66, co66, eo66⟩ := Kd.S_slice HO_1593000.out
           subst eo66
           go_wp2_with ((go_at_call 72; (with_reducible refine (impl_IsValidJoiner.calls k1 _ _ x1593000_1 t1587 t1590 false _ ?side1 ?side2 A56.out).mono ?_); (case side1 => repeat (exact (Kd.S_reads' HO_1593000.out).2.2)); (case side2 => exact (Kd.S_reads' HO_1593000.out).2.1); rintro e w67 ⟨rfl, hb⟩; have n0_ := Aside0.mk (Kd.S_below HO_1593000.out hb); have n1_ := Aside0.mk (blk_below (g := gb1582) (o := .cells #[.slice none 0 0, .int .i64 x1583001_1, .int .i64 x1583002_1] 68 (0, 0)) BK1582.out hb); have n2_ := Aside0.mk (blk_below (g := gb1592) (o := .cells #[.slice Ao66 x1593000_1.length co66, .int .i64 t1587, .int .i64 t1590] 68 (0, 0)) BK1592.out hb); have n3_ := Aside0.mk (below_step HB.out hb); have nz_ := Aside0.mk (Kd.R_below HO1585.out hb); clear HO1585; have HO1585 := nz_; clear nz_; clear HO_1593000; clear BK1582; clear BK1592; clear HB; have HO_1593000 := n0_; have BK1582 := n1_; have BK1592 := n2_; have HB := n3_; clear n0_ n1_ n2_ n3_; (try clear hb); have hcz68_0 : w67.cell? ⟨gb1582, 0, none⟩ = some (.slice none 0 0) := (blk_cell BK1582.out 0).trans rfl; have hcz68_1 : w67.cell? ⟨gb1582, 1, none⟩ = some (.int .i64 x1583001_1) := (blk_cell BK1582.out 1).trans rfl; have hcz68_2 : w67.cell? ⟨gb1582, 2, none⟩ = some (.int .i64 x1583002_1) := (blk_cell BK1582.out 2).trans rfl; have hfz68_0 := blk_frozen BK1582.out 0; have hfz68_1 := blk_frozen BK1582.out 1; have hfz68_2 := blk_frozen BK1582.out 2))
           refine bodyPost_ret (results_ct rfl _ _ gb1582 68 #[.slice none 0 0, .int .i64 0, .int .i64 0] (0, 0) _ rfl (by refine blk_put (cs := #[.slice none 0 0, .int .i64 0, .int .i64 x1583002_1]) ?_ 2 _ rfl; refine blk_put (cs := #[.slice none 0 0, .int .i64 x1583001_1, .int .i64 x1583002_1]) ?_ 1 _ rfl; refine blk_put (cs := #[.slice none 0 0, .int .i64 x1583001_1, .int .i64 x1583002_1]) ?_ 0 _ rfl; exact BK1582.out) Try.underlying68 rfl (by kernel_rfl)) rfl ?_
           exact ⟨_, rfl, by exact Kd.S_nil _ _ _ _ _, by repeat ((with_reducible first | exact HB.out | refine below_set ?_ GE1582.out))⟩
         ·replace c55 := Bool.eq_false_iff.mpr c55
          subst c55
          rw [if_neg (show ¬ (false = true) by decide)] at H
          simp only [Option.some.injEq, Prod.mk.injEq] at H
          obtain ⟨rfl, rfl, rfl, rfl⟩ := H
          have hnb69 := NB1582_1592.out
          have hnc69 := NB1592_1582.out
          have hcz70_0 : wr.cell? ⟨gb1582, 0, none⟩ = some (.slice none 0 0) := (blk_cell BK1582.out 0).trans rfl
          have hcz70_1 : wr.cell? ⟨gb1582, 1, none⟩ = some (.int .i64 x1583001_1) := (blk_cell BK1582.out 1).trans rfl
          have hcz70_2 : wr.cell? ⟨gb1582, 2, none⟩ = some (.int .i64 x1583002_1) := (blk_cell BK1582.out 2).trans rfl
          have hfz70_0 := blk_frozen BK1582.out 0
          have hfz70_1 := blk_frozen BK1582.out 1
          have hfz70_2 := blk_frozen BK1582.out 2
          go_wp2
          refine bodyPost_ret (results_ct rfl _ _ gb1582 68 #[.slice none 0 0, .int .i64 0, .int .i64 0] (0, 0) _ rfl (by refine blk_put (cs := #[.slice none 0 0, .int .i64 0, .int .i64 x1583002_1]) ?_ 2 _ rfl; refine blk_put (cs := #[.slice none 0 0, .int .i64 x1583001_1, .int .i64 x1583002_1]) ?_ 1 _ rfl; refine blk_put (cs := #[.slice none 0 0, .int .i64 x1583001_1, .int .i64 x1583002_1]) ?_ 0 _ rfl; exact BK1582.out) Try.underlying68 rfl (by kernel_rfl)) rfl ?_
          exact ⟨_, rfl, by exact Kd.S_nil _ _ _ _ _, by repeat ((with_reducible first | exact HB.out | refine below_set ?_ GE1582.out))⟩
        ·replace c54 := Bool.eq_false_iff.mpr c54
         subst c54
         rw [if_neg (show ¬ (false = true) by decide)] at H
         simp only [Option.some.injEq, Prod.mk.injEq] at H
         obtain ⟨rfl, rfl, rfl, rfl⟩ := H
         have hnb71 := NB1582_1592.out
         have hnc71 := NB1592_1582.out
         have hcz72_0 : wr.cell? ⟨gb1582, 0, none⟩ = some (.slice none 0 0) := (blk_cell BK1582.out 0).trans rfl
         have hcz72_1 : wr.cell? ⟨gb1582, 1, none⟩ = some (.int .i64 x1583001_1) := (blk_cell BK1582.out 1).trans rfl
         have hcz72_2 : wr.cell? ⟨gb1582, 2, none⟩ = some (.int .i64 x1583002_1) := (blk_cell BK1582.out 2).trans rfl
         have hfz72_0 := blk_frozen BK1582.out 0
         have hfz72_1 := blk_frozen BK1582.out 1
         have hfz72_2 := blk_frozen BK1582.out 2
         go_wp2
         refine bodyPost_ret (results_ct rfl _ _ gb1582 68 #[.slice none 0 0, .int .i64 0, .int .i64 0] (0, 0) _ rfl (by refine blk_put (cs := #[.slice none 0 0, .int .i64 0, .int .i64 x1583002_1]) ?_ 2 _ rfl; refine blk_put (cs := #[.slice none 0 0, .int .i64 x1583001_1, .int .i64 x1583002_1]) ?_ 1 _ rfl; refine blk_put (cs := #[.slice none 0 0, .int .i64 x1583001_1, .int .i64 x1583002_1]) ?_ 0 _ rfl; exact BK1582.out) Try.underlying68 rfl (by kernel_rfl)) rfl ?_
         exact ⟨_, rfl, by exact Kd.S_nil _ _ _ _ _, by repeat ((with_reducible first | exact HB.out | refine below_set ?_ GE1582.out))⟩
    ·rw [if_neg c12] at H
     exact absurd H (by simp)
   ·rw [if_neg c10] at H
    exact absurd H (by simp)
  ·rw [if_neg c8] at H
   exact absurd H (by simp)

def laws_eqRow.f (a0_0 : Int) (a0_1 : Int) (a0_2 : Int) (a1_0 : Int) (a1_1 : Int) (a1_2 : Int) : Option (Bool) := if a0_0 = a1_0 then (if a0_1 = a1_1 then (if a0_2 = a1_2 then (some true) else (some false)) else (some false)) else (some false)
theorem laws_eqRow.calls (a0_0 : Int) (a0_1 : Int) (a0_2 : Int) (a1_0 : Int) (a1_1 : Int) (a1_2 : Int) (r : Bool) (w : World) (h : laws_eqRow.f a0_0 a0_1 a0_2 a1_0 a1_1 a1_2 = some r) :
  Calls Try.prog 173 #[.agg #[.int .i64 a0_0, .int .i64 a0_1, .int .i64 a0_2], .agg #[.int .i64 a1_0, .int .i64 a1_1, .int .i64 a1_2]] w fun e w' => e = .returned (.bool r) ∧ Below w.heap.size w w' := by
 have hu60 := Try.underlying60
 have HB := Aside0.mk (Below.refl w.heap.size w)
 have H : (if a0_0 = a1_0 then (if a0_1 = a1_1 then (if a0_2 = a1_2 then (some true) else (some false)) else (some false)) else (some false)) = some r := h
 clear h
 by_cases c3 : a0_0 = a1_0
 ·rw [if_pos c3] at H
  have c3b0 : (a0_0 == a1_0) = true := beq_iff_eq.mpr c3
  have c3b1 : (a0_0 != a1_0) = false := bne_eq_false_iff_eq.mpr c3
  clear c3
  by_cases c4 : a0_1 = a1_1
  ·rw [if_pos c4] at H
   have c4b0 : (a0_1 == a1_1) = true := beq_iff_eq.mpr c4
   have c4b1 : (a0_1 != a1_1) = false := bne_eq_false_iff_eq.mpr c4
   clear c4
   by_cases c5 : a0_2 = a1_2
   ·rw [if_pos c5] at H
    have c5b0 : (a0_2 == a1_2) = true := beq_iff_eq.mpr c5
    have c5b1 : (a0_2 != a1_2) = false := bne_eq_false_iff_eq.mpr c5
    clear c5
    obtain rfl := Option.some.inj H
    go_enter Try.func173, Try.ntmps173
    go_wp2_with (first | ((with_reducible refine gate_dst (N := 2) rfl ?_); refine box_event ?hg (N := 2) ?hd (cs := #[.int .i64 a0_0, .int .i64 a0_1, .int .i64 a0_2]) (t := 60) ?hr ?_; (case hd => rfl); (case hg => rfl); (case hr => (go_simp; done)); intro gb1312 hg w6 hbox hb; have n0_ := Aside0.mk (below_step HB.out hb); have n1_ := Aside0.mk (hbox); have n2_ := Aside0.mk ((by rw [hg]; exact (below_size HB.out) : w.heap.size ≤ gb1312)); have n3_ := Aside0.mk ((by rw [hg]; exact (below_size HB.out) : w.heap.size ≤ gb1312)); clear HB; have HB := n0_; have BK1312 := n1_; have GW1312 := n2_; have GE1312 := n3_; clear n0_ n1_ n2_ n3_; clear hb hbox hg) | ((with_reducible refine gate_dst (N := 3) rfl ?_); refine box_event ?hg (N := 3) ?hd (cs := #[.int .i64 a1_0, .int .i64 a1_1, .int .i64 a1_2]) (t := 60) ?hr ?_; (case hd => rfl); (case hg => rfl); (case hr => (go_simp; done)); intro gb1313 hg w7 hbox hb; have n0_ := Aside0.mk (blk_below (g := gb1312) (o := .cells #[.int .i64 a0_0, .int .i64 a0_1, .int .i64 a0_2] 60 (0, 0)) BK1312.out hb); have n1_ := Aside0.mk (below_step HB.out hb); have n2_ := Aside0.mk (hbox); have n3_ := Aside0.mk ((by rw [hg]; exact (below_size HB.out) : w.heap.size ≤ gb1313)); have n4_ := Aside0.mk ((by rw [hg]; exact (below_size HB.out) : w.heap.size ≤ gb1313)); have n5_ := Aside0.mk ((by rw [hg]; exact Nat.ne_of_lt (blk_lt (g := gb1312) (o := .cells #[.int .i64 a0_0, .int .i64 a0_1, .int .i64 a0_2] 60 (0, 0)) BK1312.out) : gb1312 ≠ gb1313)); have n6_ := Aside0.mk ((by rw [hg]; exact Nat.ne_of_gt (blk_lt (g := gb1312) (o := .cells #[.int .i64 a0_0, .int .i64 a0_1, .int .i64 a0_2] 60 (0, 0)) BK1312.out) : gb1313 ≠ gb1312)); clear BK1312; clear HB; have BK1312 := n0_; have HB := n1_; have BK1313 := n2_; have GW1313 := n3_; have GE1313 := n4_; have NB1312_1313 := n5_; have NB1313_1312 := n6_; clear n0_ n1_ n2_ n3_ n4_ n5_ n6_; clear hb hbox hg; have hnb8 := NB1312_1313.out; have hnc8 := NB1313_1312.out; have hcz9_0 : w7.cell? ⟨gb1312, 0, none⟩ = some (.int .i64 a0_0) := (blk_cell BK1312.out 0).trans rfl; have hcz9_1 : w7.cell? ⟨gb1312, 1, none⟩ = some (.int .i64 a0_1) := (blk_cell BK1312.out 1).trans rfl; have hcz9_2 : w7.cell? ⟨gb1312, 2, none⟩ = some (.int .i64 a0_2) := (blk_cell BK1312.out 2).trans rfl; have hfz9_0 := blk_frozen BK1312.out 0; have hfz9_1 := blk_frozen BK1312.out 1; have hfz9_2 := blk_frozen BK1312.out 2; have hcz10_0 : w7.cell? ⟨gb1313, 0, none⟩ = some (.int .i64 a1_0) := (blk_cell BK1313.out 0).trans rfl; have hcz10_1 : w7.cell? ⟨gb1313, 1, none⟩ = some (.int .i64 a1_1) := (blk_cell BK1313.out 1).trans rfl; have hcz10_2 : w7.cell? ⟨gb1313, 2, none⟩ = some (.int .i64 a1_2) := (blk_cell BK1313.out 2).trans rfl; have hfz10_0 := blk_frozen BK1313.out 0; have hfz10_1 := blk_frozen BK1313.out 1; have hfz10_2 := blk_frozen BK1313.out 2))
    go_ret
    exact ⟨rfl, HB.out⟩
   ·rw [if_neg c5] at H
    have c5b0 : (a0_2 == a1_2) = false := beq_eq_false_iff_ne.mpr c5
    have c5b1 : (a0_2 != a1_2) = true := bne_iff_ne.mpr c5
    obtain rfl := Option.some.inj H
    go_enter Try.func173, Try.ntmps173
    go_wp2_with (first | ((with_reducible refine gate_dst (N := 2) rfl ?_); refine box_event ?hg (N := 2) ?hd (cs := #[.int .i64 a0_0, .int .i64 a0_1, .int .i64 a0_2]) (t := 60) ?hr ?_; (case hd => rfl); (case hg => rfl); (case hr => (go_simp; done)); intro gb1312 hg w11 hbox hb; have n0_ := Aside0.mk (below_step HB.out hb); have n1_ := Aside0.mk (hbox); have n2_ := Aside0.mk ((by rw [hg]; exact (below_size HB.out) : w.heap.size ≤ gb1312)); have n3_ := Aside0.mk ((by rw [hg]; exact (below_size HB.out) : w.heap.size ≤ gb1312)); clear HB; have HB := n0_; have BK1312 := n1_; have GW1312 := n2_; have GE1312 := n3_; clear n0_ n1_ n2_ n3_; clear hb hbox hg) | ((with_reducible refine gate_dst (N := 3) rfl ?_); refine box_event ?hg (N := 3) ?hd (cs := #[.int .i64 a1_0, .int .i64 a1_1, .int .i64 a1_2]) (t := 60) ?hr ?_; (case hd => rfl); (case hg => rfl); (case hr => (go_simp; done)); intro gb1313 hg w12 hbox hb; have n0_ := Aside0.mk (blk_below (g := gb1312) (o := .cells #[.int .i64 a0_0, .int .i64 a0_1, .int .i64 a0_2] 60 (0, 0)) BK1312.out hb); have n1_ := Aside0.mk (below_step HB.out hb); have n2_ := Aside0.mk (hbox); have n3_ := Aside0.mk ((by rw [hg]; exact (below_size HB.out) : w.heap.size ≤ gb1313)); have n4_ := Aside0.mk ((by rw [hg]; exact (below_size HB.out) : w.heap.size ≤ gb1313)); have n5_ := Aside0.mk ((by rw [hg]; exact Nat.ne_of_lt (blk_lt (g := gb1312) (o := .cells #[.int .i64 a0_0, .int .i64 a0_1, .int .i64 a0_2] 60 (0, 0)) BK1312.out) : gb1312 ≠ gb1313)); have n6_ := Aside0.mk ((by rw [hg]; exact Nat.ne_of_gt (blk_lt (g := gb1312) (o := .cells #[.int .i64 a0_0, .int .i64 a0_1, .int .i64 a0_2] 60 (0, 0)) BK1312.out) : gb1313 ≠ gb1312)); clear BK1312; clear HB; have BK1312 := n0_; have HB := n1_; have BK1313 := n2_; have GW1313 := n3_; have GE1313 := n4_; have NB1312_1313 := n5_; have NB1313_1312 := n6_; clear n0_ n1_ n2_ n3_ n4_ n5_ n6_; clear hb hbox hg; have hnb13 := NB1312_1313.out; have hnc13 := NB1313_1312.out; have hcz14_0 : w12.cell? ⟨gb1312, 0, none⟩ = some (.int .i64 a0_0) := (blk_cell BK1312.out 0).trans rfl; have hcz14_1 : w12.cell? ⟨gb1312, 1, none⟩ = some (.int .i64 a0_1) := (blk_cell BK1312.out 1).trans rfl; have hcz14_2 : w12.cell? ⟨gb1312, 2, none⟩ = some (.int .i64 a0_2) := (blk_cell BK1312.out 2).trans rfl; have hfz14_0 := blk_frozen BK1312.out 0; have hfz14_1 := blk_frozen BK1312.out 1; have hfz14_2 := blk_frozen BK1312.out 2; have hcz15_0 : w12.cell? ⟨gb1313, 0, none⟩ = some (.int .i64 a1_0) := (blk_cell BK1313.out 0).trans rfl; have hcz15_1 : w12.cell? ⟨gb1313, 1, none⟩ = some (.int .i64 a1_1) := (blk_cell BK1313.out 1).trans rfl; have hcz15_2 : w12.cell? ⟨gb1313, 2, none⟩ = some (.int .i64 a1_2) := (blk_cell BK1313.out 2).trans rfl; have hfz15_0 := blk_frozen BK1313.out 0; have hfz15_1 := blk_frozen BK1313.out 1; have hfz15_2 := blk_frozen BK1313.out 2))
    go_ret
    exact ⟨rfl, HB.out⟩
  ·rw [if_neg c4] at H
   have c4b0 : (a0_1 == a1_1) = false := beq_eq_false_iff_ne.mpr c4
   have c4b1 : (a0_1 != a1_1) = true := bne_iff_ne.mpr c4
   obtain rfl := Option.some.inj H
   go_enter Try.func173, Try.ntmps173
   go_wp2_with (first | ((with_reducible refine gate_dst (N := 2) rfl ?_); refine box_event ?hg (N := 2) ?hd (cs := #[.int .i64 a0_0, .int .i64 a0_1, .int .i64 a0_2]) (t := 60) ?hr ?_; (case hd => rfl); (case hg => rfl); (case hr => (go_simp; done)); intro gb1312 hg w16 hbox hb; have n0_ := Aside0.mk (below_step HB.out hb); have n1_ := Aside0.mk (hbox); have n2_ := Aside0.mk ((by rw [hg]; exact (below_size HB.out) : w.heap.size ≤ gb1312)); have n3_ := Aside0.mk ((by rw [hg]; exact (below_size HB.out) : w.heap.size ≤ gb1312)); clear HB; have HB := n0_; have BK1312 := n1_; have GW1312 := n2_; have GE1312 := n3_; clear n0_ n1_ n2_ n3_; clear hb hbox hg) | ((with_reducible refine gate_dst (N := 3) rfl ?_); refine box_event ?hg (N := 3) ?hd (cs := #[.int .i64 a1_0, .int .i64 a1_1, .int .i64 a1_2]) (t := 60) ?hr ?_; (case hd => rfl); (case hg => rfl); (case hr => (go_simp; done)); intro gb1313 hg w17 hbox hb; have n0_ := Aside0.mk (blk_below (g := gb1312) (o := .cells #[.int .i64 a0_0, .int .i64 a0_1, .int .i64 a0_2] 60 (0, 0)) BK1312.out hb); have n1_ := Aside0.mk (below_step HB.out hb); have n2_ := Aside0.mk (hbox); have n3_ := Aside0.mk ((by rw [hg]; exact (below_size HB.out) : w.heap.size ≤ gb1313)); have n4_ := Aside0.mk ((by rw [hg]; exact (below_size HB.out) : w.heap.size ≤ gb1313)); have n5_ := Aside0.mk ((by rw [hg]; exact Nat.ne_of_lt (blk_lt (g := gb1312) (o := .cells #[.int .i64 a0_0, .int .i64 a0_1, .int .i64 a0_2] 60 (0, 0)) BK1312.out) : gb1312 ≠ gb1313)); have n6_ := Aside0.mk ((by rw [hg]; exact Nat.ne_of_gt (blk_lt (g := gb1312) (o := .cells #[.int .i64 a0_0, .int .i64 a0_1, .int .i64 a0_2] 60 (0, 0)) BK1312.out) : gb1313 ≠ gb1312)); clear BK1312; clear HB; have BK1312 := n0_; have HB := n1_; have BK1313 := n2_; have GW1313 := n3_; have GE1313 := n4_; have NB1312_1313 := n5_; have NB1313_1312 := n6_; clear n0_ n1_ n2_ n3_ n4_ n5_ n6_; clear hb hbox hg; have hnb18 := NB1312_1313.out; have hnc18 := NB1313_1312.out; have hcz19_0 : w17.cell? ⟨gb1312, 0, none⟩ = some (.int .i64 a0_0) := (blk_cell BK1312.out 0).trans rfl; have hcz19_1 : w17.cell? ⟨gb1312, 1, none⟩ = some (.int .i64 a0_1) := (blk_cell BK1312.out 1).trans rfl; have hcz19_2 : w17.cell? ⟨gb1312, 2, none⟩ = some (.int .i64 a0_2) := (blk_cell BK1312.out 2).trans rfl; have hfz19_0 := blk_frozen BK1312.out 0; have hfz19_1 := blk_frozen BK1312.out 1; have hfz19_2 := blk_frozen BK1312.out 2; have hcz20_0 : w17.cell? ⟨gb1313, 0, none⟩ = some (.int .i64 a1_0) := (blk_cell BK1313.out 0).trans rfl; have hcz20_1 : w17.cell? ⟨gb1313, 1, none⟩ = some (.int .i64 a1_1) := (blk_cell BK1313.out 1).trans rfl; have hcz20_2 : w17.cell? ⟨gb1313, 2, none⟩ = some (.int .i64 a1_2) := (blk_cell BK1313.out 2).trans rfl; have hfz20_0 := blk_frozen BK1313.out 0; have hfz20_1 := blk_frozen BK1313.out 1; have hfz20_2 := blk_frozen BK1313.out 2))
   go_ret
   exact ⟨rfl, HB.out⟩
 ·rw [if_neg c3] at H
  have c3b0 : (a0_0 == a1_0) = false := beq_eq_false_iff_ne.mpr c3
  have c3b1 : (a0_0 != a1_0) = true := bne_iff_ne.mpr c3
  obtain rfl := Option.some.inj H
  go_enter Try.func173, Try.ntmps173
  go_wp2_with (first | ((with_reducible refine gate_dst (N := 2) rfl ?_); refine box_event ?hg (N := 2) ?hd (cs := #[.int .i64 a0_0, .int .i64 a0_1, .int .i64 a0_2]) (t := 60) ?hr ?_; (case hd => rfl); (case hg => rfl); (case hr => (go_simp; done)); intro gb1312 hg w21 hbox hb; have n0_ := Aside0.mk (below_step HB.out hb); have n1_ := Aside0.mk (hbox); have n2_ := Aside0.mk ((by rw [hg]; exact (below_size HB.out) : w.heap.size ≤ gb1312)); have n3_ := Aside0.mk ((by rw [hg]; exact (below_size HB.out) : w.heap.size ≤ gb1312)); clear HB; have HB := n0_; have BK1312 := n1_; have GW1312 := n2_; have GE1312 := n3_; clear n0_ n1_ n2_ n3_; clear hb hbox hg) | ((with_reducible refine gate_dst (N := 3) rfl ?_); refine box_event ?hg (N := 3) ?hd (cs := #[.int .i64 a1_0, .int .i64 a1_1, .int .i64 a1_2]) (t := 60) ?hr ?_; (case hd => rfl); (case hg => rfl); (case hr => (go_simp; done)); intro gb1313 hg w22 hbox hb; have n0_ := Aside0.mk (blk_below (g := gb1312) (o := .cells #[.int .i64 a0_0, .int .i64 a0_1, .int .i64 a0_2] 60 (0, 0)) BK1312.out hb); have n1_ := Aside0.mk (below_step HB.out hb); have n2_ := Aside0.mk (hbox); have n3_ := Aside0.mk ((by rw [hg]; exact (below_size HB.out) : w.heap.size ≤ gb1313)); have n4_ := Aside0.mk ((by rw [hg]; exact (below_size HB.out) : w.heap.size ≤ gb1313)); have n5_ := Aside0.mk ((by rw [hg]; exact Nat.ne_of_lt (blk_lt (g := gb1312) (o := .cells #[.int .i64 a0_0, .int .i64 a0_1, .int .i64 a0_2] 60 (0, 0)) BK1312.out) : gb1312 ≠ gb1313)); have n6_ := Aside0.mk ((by rw [hg]; exact Nat.ne_of_gt (blk_lt (g := gb1312) (o := .cells #[.int .i64 a0_0, .int .i64 a0_1, .int .i64 a0_2] 60 (0, 0)) BK1312.out) : gb1313 ≠ gb1312)); clear BK1312; clear HB; have BK1312 := n0_; have HB := n1_; have BK1313 := n2_; have GW1313 := n3_; have GE1313 := n4_; have NB1312_1313 := n5_; have NB1313_1312 := n6_; clear n0_ n1_ n2_ n3_ n4_ n5_ n6_; clear hb hbox hg; have hnb23 := NB1312_1313.out; have hnc23 := NB1313_1312.out; have hcz24_0 : w22.cell? ⟨gb1312, 0, none⟩ = some (.int .i64 a0_0) := (blk_cell BK1312.out 0).trans rfl; have hcz24_1 : w22.cell? ⟨gb1312, 1, none⟩ = some (.int .i64 a0_1) := (blk_cell BK1312.out 1).trans rfl; have hcz24_2 : w22.cell? ⟨gb1312, 2, none⟩ = some (.int .i64 a0_2) := (blk_cell BK1312.out 2).trans rfl; have hfz24_0 := blk_frozen BK1312.out 0; have hfz24_1 := blk_frozen BK1312.out 1; have hfz24_2 := blk_frozen BK1312.out 2; have hcz25_0 : w22.cell? ⟨gb1313, 0, none⟩ = some (.int .i64 a1_0) := (blk_cell BK1313.out 0).trans rfl; have hcz25_1 : w22.cell? ⟨gb1313, 1, none⟩ = some (.int .i64 a1_1) := (blk_cell BK1313.out 1).trans rfl; have hcz25_2 : w22.cell? ⟨gb1313, 2, none⟩ = some (.int .i64 a1_2) := (blk_cell BK1313.out 2).trans rfl; have hfz25_0 := blk_frozen BK1313.out 0; have hfz25_1 := blk_frozen BK1313.out 1; have hfz25_2 := blk_frozen BK1313.out 2))
  go_ret
  exact ⟨rfl, HB.out⟩

def laws_eqRowS.l0 : Nat → List (S60) → List (S60) → Int → Option (Bool)
 | 0, _, _, _ => none
 | k + 1, x0, x1, x5 => if x5 < (x0.length : Int) then (if 0 ≤ x5 then (if x5 < (x1.length : Int) then ((laws_eqRow.f ((rd_T60 x0 x5).f0) ((rd_T60 x0 x5).f1) ((rd_T60 x0 x5).f2) ((rd_T60 x1 x5).f0) ((rd_T60 x1 x5).f1) ((rd_T60 x1 x5).f2)).bind fun t1316 => (if t1316 = true then (laws_eqRowS.l0 k x0 x1 (wrap64 (x5 + 1))) else (some false))) else (none)) else (none)) else (some true)
def laws_eqRowS.f (k : Nat) (l0 : List (S60)) (l1 : List (S60)) : Option (Bool) := if (l0.length : Int) = (l1.length : Int) then (laws_eqRowS.l0 k l0 l1 0) else (some false)
def laws_eqRowS.T6 : Bool × List (List Nat × List Nat) := (true, [([], []), ([], []), ([0, 1], [0, 1]), ([2], [2]), ([], []), ([], []), ([4, 5], [4, 5]), ([6], [6]), ([3, 7], [3, 7]), ([8], [8])])
def laws_eqRowS.B6 : List Nat := [0, 0, 3, 7, 0, 0, 48, 112, 255, 511]
theorem laws_eqRowS.tab6 : rtab .any (opsOf Try.f91 6) = laws_eqRowS.T6 := by kernel_rfl
theorem laws_eqRowS.bits6 : waitsOk laws_eqRowS.T6.2 laws_eqRowS.B6 = true := by kernel_rfl
theorem laws_eqRowS.calls (k : Nat) (A0 : Option Addr) (c0 : Nat) (l0 : List (S60)) (A1 : Option Addr) (c1 : Nat) (l1 : List (S60)) (r : Bool) (w : World) (hr0 : Kd.C k60 w A0 l0.length l0) (hc0 : l0.length ≤ c0) (hr1 : Kd.C k60 w A1 l1.length l1) (hc1 : l1.length ≤ c1) (h : laws_eqRowS.f k l0 l1 = some r) :
  Calls Try.prog 91 #[.slice A0 l0.length c0, .slice A1 l1.length c1] w fun e w' => e = .returned (.bool r) ∧ Below w.heap.size w w' := by
 have hu60 := Try.underlying60
 have HR0 := Aside0.mk hr0
 have HC0 := Aside0.mk hc0
 clear hr0 hc0
 have HR1 := Aside0.mk hr1
 have HC1 := Aside0.mk hc1
 clear hr1 hc1
 have HB := Aside0.mk (Below.refl w.heap.size w)
 have H : (if (l0.length : Int) = (l1.length : Int) then (laws_eqRowS.l0 k l0 l1 0) else (some false)) = some r := h
 clear h
 by_cases c3 : (l0.length : Int) = (l1.length : Int)
 ·rw [if_pos c3] at H
  have c3b0 : ((l0.length : Int) == (l1.length : Int)) = true := beq_iff_eq.mpr c3
  have c3b1 : ((l0.length : Int) != (l1.length : Int)) = false := bne_eq_false_iff_eq.mpr c3
  have c3b2 : (l0.length == l1.length) = true := by (simp at c3 ⊢; omega)
  clear c3
  have H' := Aside0.mk H
  clear H
  go_enter Try.func91, Try.ntmps91
  go_wp2
  go_loopg [5] k (fun kq v5 w' => ∃ (x5_1 : Int), v5 = .int .i64 x5_1 ∧ Aside0 (laws_eqRowS.l0 kq l0 l1 x5_1 = some r) ∧ Aside0 (kq ≤ k) ∧ Aside0 (Below w.heap.size w w'))
  case atStart => exact ⟨(0), rfl, H', ⟨Nat.le_refl _⟩, ⟨HB.out⟩⟩
  case round =>
   clear H'
   try clear c3b0
   try clear c3b1
   try clear c3b2
   obtain ⟨x5_1, rfl, HA, HK1, HB⟩ := hrel
   cases gk with
   | zero => exact absurd HA.out (by simp [laws_eqRowS.l0])
   | succ k1 =>
    have H := HA.out
    clear HA
    simp only [laws_eqRowS.l0] at H
    by_cases c4 : x5_1 < (l0.length : Int)
    ·rw [if_pos c4] at H
     have c4b0 : decide (x5_1 < (l0.length : Int)) = true := decide_eq_true c4
     clear c4
     by_cases c5 : 0 ≤ x5_1
     ·rw [if_pos c5] at H
      have c5b0 : decide (0 ≤ x5_1) = true := decide_eq_true c5
      clear c5
      by_cases c6 : x5_1 < (l1.length : Int)
      ·rw [if_pos c6] at H
       have c6b0 : decide (x5_1 < (l1.length : Int)) = true := decide_eq_true c6
       clear c6
       replace H := Option.bind_eq_some_iff.mp H
       obtain ⟨t1316, A70, H⟩ := H
       have A7 := Aside0.mk A70
       clear A70
       by_cases c8 : t1316 = true
       ·subst c8
        rw [if_pos rfl] at H
        have H' := Aside0.mk H
        clear H
        try go_wp2
        have n0_ := Aside0.mk (below_drew1 HB.out)
        clear HB
        have HB := n0_
        clear n0_
        have p1314 : 0 ≤ (x5_1 : Int) := of_decide_eq_true (by (with_reducible assumption))
        have q1314 : x5_1 < (l0.length : Int) := of_decide_eq_true (by (with_reducible assumption))
        obtain ⟨ad1314, e1314, hx1314_0, hx1314_1, hx1314_2⟩ := at_T60 HR0.out x5_1 p1314 q1314
        have hw1314_2 := hx1314_2
        have hw1314_1 := hx1314_1
        have hw1314_0 := hx1314_0
        cases e1314
        replace hx1314_0 := (HB.out.cell (World.block_lt_of_cell? w _ hx1314_0)).trans hx1314_0
        replace hx1314_1 := (HB.out.cell (World.block_lt_of_cell? w _ hx1314_1)).trans hx1314_1
        replace hx1314_2 := (HB.out.cell (World.block_lt_of_cell? w _ hx1314_2)).trans hx1314_2
        replace p1314 := eq_true p1314
        replace q1314 := eq_true q1314
        have p1315 : 0 ≤ (x5_1 : Int) := of_decide_eq_true (by (with_reducible assumption))
        have q1315 : x5_1 < (l1.length : Int) := of_decide_eq_true (by (with_reducible assumption))
        obtain ⟨ad1315, e1315, hx1315_0, hx1315_1, hx1315_2⟩ := at_T60 HR1.out x5_1 p1315 q1315
        have hw1315_2 := hx1315_2
        have hw1315_1 := hx1315_1
        have hw1315_0 := hx1315_0
        cases e1315
        replace hx1315_0 := (HB.out.cell (World.block_lt_of_cell? w _ hx1315_0)).trans hx1315_0
        replace hx1315_1 := (HB.out.cell (World.block_lt_of_cell? w _ hx1315_1)).trans hx1315_1
        replace hx1315_2 := (HB.out.cell (World.block_lt_of_cell? w _ hx1315_2)).trans hx1315_2
        replace p1315 := eq_true p1315
        replace q1315 := eq_true q1315
        refine start_ (n := 10) (S := fun w' => w'.cell? (ad1314.add ((x5_1).toNat * 3)) = some (.int .i64 ((rd_T60 l0 x5_1).f0)) ∧ w'.cell? ⟨(ad1314.add ((x5_1).toNat * 3)).block, (ad1314.add ((x5_1).toNat * 3)).off + 1, none⟩ = some (.int .i64 ((rd_T60 l0 x5_1).f1)) ∧ w'.cell? ⟨(ad1314.add ((x5_1).toNat * 3)).block, (ad1314.add ((x5_1).toNat * 3)).off + 2, none⟩ = some (.int .i64 ((rd_T60 l0 x5_1).f2)) ∧ w'.cell? (ad1315.add ((x5_1).toNat * 3)) = some (.int .i64 ((rd_T60 l1 x5_1).f0)) ∧ w'.cell? ⟨(ad1315.add ((x5_1).toNat * 3)).block, (ad1315.add ((x5_1).toNat * 3)).off + 1, none⟩ = some (.int .i64 ((rd_T60 l1 x5_1).f1)) ∧ w'.cell? ⟨(ad1315.add ((x5_1).toNat * 3)).block, (ad1315.add ((x5_1).toNat * 3)).off + 2, none⟩ = some (.int .i64 ((rd_T60 l1 x5_1).f2))) (ds := []) #[false, false, false, false, false, false, false, false, false, false] (by kernel_rfl) rfl rfl ⟨((HB.out.cell (World.block_lt_of_cell? w _ hw1314_0)).trans hw1314_0), ((HB.out.cell (World.block_lt_of_cell? w _ hw1314_1)).trans hw1314_1), ((HB.out.cell (World.block_lt_of_cell? w _ hw1314_2)).trans hw1314_2), ((HB.out.cell (World.block_lt_of_cell? w _ hw1315_0)).trans hw1315_0), ((HB.out.cell (World.block_lt_of_cell? w _ hw1315_1)).trans hw1315_1), ((HB.out.cell (World.block_lt_of_cell? w _ hw1315_2)).trans hw1315_2)⟩ (fun hHeld => ?_); refine with_tabW laws_eqRowS.tab6 laws_eqRowS.bits6 (fun HT_ HW_ => ?_)
        generalize wr.drew = w9 at HB hx1314_0 hx1314_1 hx1314_2 hx1315_0 hx1315_1 hx1315_2 hHeld ⊢
        refine pure_ (i := 0) (N := some 17) (v := ?_) (a' := ?_) #[true, false, false, false, false, false, false, false, false, false] rfl rfl (any_of HT_.out (by kernel_rfl)) (fun _ _ _ h => h) (Or.inl ⟨rfl, ?_⟩) ?_ ?_
        rotate_left
        ·intro w'
         go_simp
         with_reducible rfl
        rotate_left
        ·simp only [Act.put, List.setIfInBounds_toArray, List.set_cons_zero, List.set_cons_succ, i64_w, i32_w]
         rfl
        refine pure_ (i := 1) (N := some 18) (v := ?_) (a' := ?_) #[true, true, false, false, false, false, false, false, false, false] rfl rfl (any_of HT_.out (by kernel_rfl)) (fun _ _ _ h => h) (Or.inl ⟨rfl, ?_⟩) ?_ ?_
        rotate_left
        ·intro w'
         go_simp
         with_reducible rfl
        rotate_left
        ·simp only [Act.put, List.setIfInBounds_toArray, List.set_cons_zero, List.set_cons_succ, i64_w, i32_w]
         rfl
        refine pure_ (i := 2) (N := some 19) (v := ?_) (a' := ?_) #[true, true, true, false, false, false, false, false, false, false] rfl rfl (any_of HT_.out (by kernel_rfl)) (fun _ _ _ h => h) (Or.inl ⟨rfl, ?_⟩) ?_ ?_
        rotate_left
        ·intro w'
         go_simp
         with_reducible rfl
        rotate_left
        ·simp only [Act.put, List.setIfInBounds_toArray, List.set_cons_zero, List.set_cons_succ, i64_w, i32_w]
         rfl
        refine pure_ (i := 4) (N := some 21) (v := ?_) (a' := ?_) #[true, true, true, false, true, false, false, false, false, false] rfl rfl (any_of HT_.out (by kernel_rfl)) (fun _ _ _ h => h) (Or.inl ⟨rfl, ?_⟩) ?_ ?_
        rotate_left
        ·intro w'
         go_simp
         with_reducible rfl
        rotate_left
        ·simp only [Act.put, List.setIfInBounds_toArray, List.set_cons_zero, List.set_cons_succ, i64_w, i32_w]
         rfl
        refine pure_ (i := 5) (N := some 22) (v := ?_) (a' := ?_) #[true, true, true, false, true, true, false, false, false, false] rfl rfl (any_of HT_.out (by kernel_rfl)) (fun _ _ _ h => h) (Or.inl ⟨rfl, ?_⟩) ?_ ?_
        rotate_left
        ·intro w'
         go_simp
         with_reducible rfl
        rotate_left
        ·simp only [Act.put, List.setIfInBounds_toArray, List.set_cons_zero, List.set_cons_succ, i64_w, i32_w]
         rfl
        refine pure_ (i := 6) (N := some 23) (v := ?_) (a' := ?_) #[true, true, true, false, true, true, true, false, false, false] rfl rfl (any_of HT_.out (by kernel_rfl)) (fun _ _ _ h => h) (Or.inl ⟨rfl, ?_⟩) ?_ ?_
        rotate_left
        ·intro w'
         go_simp
         with_reducible rfl
        rotate_left
        ·simp only [Act.put, List.setIfInBounds_toArray, List.set_cons_zero, List.set_cons_succ, i64_w, i32_w]
         rfl
        refine take_ (i := 3) (N := some 20) (v := ?_) (a' := ?_) #[true, true, true, true, true, true, true, false, false, false] rfl rfl (take_ofW HT_.out HW_.out (by kernel_rfl)) (fun _ _ _ h => h) (Or.inl ⟨rfl, ?_⟩) hHeld ?_ ?_
        rotate_left
        ·rintro w' ⟨s0, s1, s2, s3, s4, s5⟩
         go_simp
         with_reducible rfl
        rotate_left
        ·simp only [Act.put, List.setIfInBounds_toArray, List.set_cons_zero, List.set_cons_succ, i64_w, i32_w]
         rfl
        refine take_ (i := 7) (N := some 24) (v := ?_) (a' := ?_) #[true, true, true, true, true, true, true, true, false, false] rfl rfl (take_ofW HT_.out HW_.out (by kernel_rfl)) (fun _ _ _ h => h) (Or.inl ⟨rfl, ?_⟩) hHeld ?_ ?_
        rotate_left
        ·rintro w' ⟨s0, s1, s2, s3, s4, s5⟩
         go_simp
         with_reducible rfl
        rotate_left
        ·simp only [Act.put, List.setIfInBounds_toArray, List.set_cons_zero, List.set_cons_succ, i64_w, i32_w]
         rfl
        refine one_ (i := 8) (N := some 25) #[true, true, true, true, true, true, true, true, true, false] rfl rfl (one_of HT_.out (by kernel_rfl)) (by decide) (fun K hK => ?_)
        refine goes_ Try.func173 (by kernel_rfl) rfl #[.agg #[.int .i64 ((rd_T60 l0 x5_1).f0), .int .i64 ((rd_T60 l0 x5_1).f1), .int .i64 ((rd_T60 l0 x5_1).f2)], .agg #[.int .i64 ((rd_T60 l1 x5_1).f0), .int .i64 ((rd_T60 l1 x5_1).f1), .int .i64 ((rd_T60 l1 x5_1).f2)]] rfl rfl rfl (by (try simp only [List.map_toArray, List.map_cons, List.map_nil]); rfl) ?_
        with_reducible refine (laws_eqRow.calls ((rd_T60 l0 x5_1).f0) ((rd_T60 l0 x5_1).f1) ((rd_T60 l0 x5_1).f2) ((rd_T60 l1 x5_1).f0) ((rd_T60 l1 x5_1).f1) ((rd_T60 l1 x5_1).f2) true _ A7.out).mono ?_
        rintro e w10 ⟨rfl, hb⟩
        refine ⟨_, rfl, ?_⟩
        have n0_ := Aside0.mk (below_step HB.out hb)
        clear HB
        have HB := n0_
        clear n0_
        (try clear hb)
        (try clear hb2)
        (try clear hk)
        (try clear hi)
        refine hK.out _ _ ⟨((HB.out.cell (World.block_lt_of_cell? w _ hw1314_0)).trans hw1314_0), ((HB.out.cell (World.block_lt_of_cell? w _ hw1314_1)).trans hw1314_1), ((HB.out.cell (World.block_lt_of_cell? w _ hw1314_2)).trans hw1314_2), ((HB.out.cell (World.block_lt_of_cell? w _ hw1315_0)).trans hw1315_0), ((HB.out.cell (World.block_lt_of_cell? w _ hw1315_1)).trans hw1315_1), ((HB.out.cell (World.block_lt_of_cell? w _ hw1315_2)).trans hw1315_2)⟩ (fun hHeld => ?_)
        clear hK K
        refine norm_ (a' := ?_) ?_ ?_
        rotate_left
        ·show Act.put _ (some 25) _ = _
         simp only [Act.put, List.setIfInBounds_toArray, List.set_cons_zero, List.set_cons_succ, i64_w, i32_w]
         rfl
        refine pure_ (i := 9) (N := some 26) (v := ?_) (a' := ?_) #[true, true, true, true, true, true, true, true, true, true] rfl rfl (any_of HT_.out (by kernel_rfl)) (fun _ _ _ h => h) (Or.inl ⟨rfl, ?_⟩) ?_ ?_
        rotate_left
        ·intro w'
         go_simp
         with_reducible rfl
        rotate_left
        ·simp only [Act.put, List.setIfInBounds_toArray, List.set_cons_zero, List.set_cons_succ, i64_w, i32_w]
         rfl
        refine done_ (done_of HT_.out (by kernel_rfl)) ?_
        try go_wp2
        go_roundg k1
        case measure => have := HK1.out; omega
        case rel => exact ⟨(wrap64 (x5_1 + 1)), rfl, H', ⟨by have := HK1.out; omega⟩, ⟨HB.out⟩⟩
       ·replace c8 := Bool.eq_false_iff.mpr c8
        subst c8
        rw [if_neg (show ¬ (false = true) by decide)] at H
        obtain rfl := Option.some.inj H
        try go_wp2
        have n0_ := Aside0.mk (below_drew1 HB.out)
        clear HB
        have HB := n0_
        clear n0_
        have p1314 : 0 ≤ (x5_1 : Int) := of_decide_eq_true (by (with_reducible assumption))
        have q1314 : x5_1 < (l0.length : Int) := of_decide_eq_true (by (with_reducible assumption))
        obtain ⟨ad1314, e1314, hx1314_0, hx1314_1, hx1314_2⟩ := at_T60 HR0.out x5_1 p1314 q1314
        have hw1314_2 := hx1314_2
        have hw1314_1 := hx1314_1
        have hw1314_0 := hx1314_0
        cases e1314
        replace hx1314_0 := (HB.out.cell (World.block_lt_of_cell? w _ hx1314_0)).trans hx1314_0
        replace hx1314_1 := (HB.out.cell (World.block_lt_of_cell? w _ hx1314_1)).trans hx1314_1
        replace hx1314_2 := (HB.out.cell (World.block_lt_of_cell? w _ hx1314_2)).trans hx1314_2
        replace p1314 := eq_true p1314
        replace q1314 := eq_true q1314
        have p1315 : 0 ≤ (x5_1 : Int) := of_decide_eq_true (by (with_reducible assumption))
        have q1315 : x5_1 < (l1.length : Int) := of_decide_eq_true (by (with_reducible assumption))
        obtain ⟨ad1315, e1315, hx1315_0, hx1315_1, hx1315_2⟩ := at_T60 HR1.out x5_1 p1315 q1315
        have hw1315_2 := hx1315_2
        have hw1315_1 := hx1315_1
        have hw1315_0 := hx1315_0
        cases e1315
        replace hx1315_0 := (HB.out.cell (World.block_lt_of_cell? w _ hx1315_0)).trans hx1315_0
        replace hx1315_1 := (HB.out.cell (World.block_lt_of_cell? w _ hx1315_1)).trans hx1315_1
        replace hx1315_2 := (HB.out.cell (World.block_lt_of_cell? w _ hx1315_2)).trans hx1315_2
        replace p1315 := eq_true p1315
        replace q1315 := eq_true q1315
        refine start_ (n := 10) (S := fun w' => w'.cell? (ad1314.add ((x5_1).toNat * 3)) = some (.int .i64 ((rd_T60 l0 x5_1).f0)) ∧ w'.cell? ⟨(ad1314.add ((x5_1).toNat * 3)).block, (ad1314.add ((x5_1).toNat * 3)).off + 1, none⟩ = some (.int .i64 ((rd_T60 l0 x5_1).f1)) ∧ w'.cell? ⟨(ad1314.add ((x5_1).toNat * 3)).block, (ad1314.add ((x5_1).toNat * 3)).off + 2, none⟩ = some (.int .i64 ((rd_T60 l0 x5_1).f2)) ∧ w'.cell? (ad1315.add ((x5_1).toNat * 3)) = some (.int .i64 ((rd_T60 l1 x5_1).f0)) ∧ w'.cell? ⟨(ad1315.add ((x5_1).toNat * 3)).block, (ad1315.add ((x5_1).toNat * 3)).off + 1, none⟩ = some (.int .i64 ((rd_T60 l1 x5_1).f1)) ∧ w'.cell? ⟨(ad1315.add ((x5_1).toNat * 3)).block, (ad1315.add ((x5_1).toNat * 3)).off + 2, none⟩ = some (.int .i64 ((rd_T60 l1 x5_1).f2))) (ds := []) #[false, false, false, false, false, false, false, false, false, false] (by kernel_rfl) rfl rfl ⟨((HB.out.cell (World.block_lt_of_cell? w _ hw1314_0)).trans hw1314_0), ((HB.out.cell (World.block_lt_of_cell? w _ hw1314_1)).trans hw1314_1), ((HB.out.cell (World.block_lt_of_cell? w _ hw1314_2)).trans hw1314_2), ((HB.out.cell (World.block_lt_of_cell? w _ hw1315_0)).trans hw1315_0), ((HB.out.cell (World.block_lt_of_cell? w _ hw1315_1)).trans hw1315_1), ((HB.out.cell (World.block_lt_of_cell? w _ hw1315_2)).trans hw1315_2)⟩ (fun hHeld => ?_); refine with_tabW laws_eqRowS.tab6 laws_eqRowS.bits6 (fun HT_ HW_ => ?_)
        generalize wr.drew = w11 at HB hx1314_0 hx1314_1 hx1314_2 hx1315_0 hx1315_1 hx1315_2 hHeld ⊢
        refine pure_ (i := 0) (N := some 17) (v := ?_) (a' := ?_) #[true, false, false, false, false, false, false, false, false, false] rfl rfl (any_of HT_.out (by kernel_rfl)) (fun _ _ _ h => h) (Or.inl ⟨rfl, ?_⟩) ?_ ?_
        rotate_left
        ·intro w'
         go_simp
         with_reducible rfl
        rotate_left
        ·simp only [Act.put, List.setIfInBounds_toArray, List.set_cons_zero, List.set_cons_succ, i64_w, i32_w]
         rfl
        refine pure_ (i := 1) (N := some 18) (v := ?_) (a' := ?_) #[true, true, false, false, false, false, false, false, false, false] rfl rfl (any_of HT_.out (by kernel_rfl)) (fun _ _ _ h => h) (Or.inl ⟨rfl, ?_⟩) ?_ ?_
        rotate_left
        ·intro w'
         go_simp
         with_reducible rfl
        rotate_left
        ·simp only [Act.put, List.setIfInBounds_toArray, List.set_cons_zero, List.set_cons_succ, i64_w, i32_w]
         rfl
        refine pure_ (i := 2) (N := some 19) (v := ?_) (a' := ?_) #[true, true, true, false, false, false, false, false, false, false] rfl rfl (any_of HT_.out (by kernel_rfl)) (fun _ _ _ h => h) (Or.inl ⟨rfl, ?_⟩) ?_ ?_
        rotate_left
        ·intro w'
         go_simp
         with_reducible rfl
        rotate_left
        ·simp only [Act.put, List.setIfInBounds_toArray, List.set_cons_zero, List.set_cons_succ, i64_w, i32_w]
         rfl
        refine pure_ (i := 4) (N := some 21) (v := ?_) (a' := ?_) #[true, true, true, false, true, false, false, false, false, false] rfl rfl (any_of HT_.out (by kernel_rfl)) (fun _ _ _ h => h) (Or.inl ⟨rfl, ?_⟩) ?_ ?_
        rotate_left
        ·intro w'
         go_simp
         with_reducible rfl
        rotate_left
        ·simp only [Act.put, List.setIfInBounds_toArray, List.set_cons_zero, List.set_cons_succ, i64_w, i32_w]
         rfl
        refine pure_ (i := 5) (N := some 22) (v := ?_) (a' := ?_) #[true, true, true, false, true, true, false, false, false, false] rfl rfl (any_of HT_.out (by kernel_rfl)) (fun _ _ _ h => h) (Or.inl ⟨rfl, ?_⟩) ?_ ?_
        rotate_left
        ·intro w'
         go_simp
         with_reducible rfl
        rotate_left
        ·simp only [Act.put, List.setIfInBounds_toArray, List.set_cons_zero, List.set_cons_succ, i64_w, i32_w]
         rfl
        refine pure_ (i := 6) (N := some 23) (v := ?_) (a' := ?_) #[true, true, true, false, true, true, true, false, false, false] rfl rfl (any_of HT_.out (by kernel_rfl)) (fun _ _ _ h => h) (Or.inl ⟨rfl, ?_⟩) ?_ ?_
        rotate_left
        ·intro w'
         go_simp
         with_reducible rfl
        rotate_left
        ·simp only [Act.put, List.setIfInBounds_toArray, List.set_cons_zero, List.set_cons_succ, i64_w, i32_w]
         rfl
        refine take_ (i := 3) (N := some 20) (v := ?_) (a' := ?_) #[true, true, true, true, true, true, true, false, false, false] rfl rfl (take_ofW HT_.out HW_.out (by kernel_rfl)) (fun _ _ _ h => h) (Or.inl ⟨rfl, ?_⟩) hHeld ?_ ?_
        rotate_left
        ·rintro w' ⟨s0, s1, s2, s3, s4, s5⟩
         go_simp
         with_reducible rfl
        rotate_left
        ·simp only [Act.put, List.setIfInBounds_toArray, List.set_cons_zero, List.set_cons_succ, i64_w, i32_w]
         rfl
        refine take_ (i := 7) (N := some 24) (v := ?_) (a' := ?_) #[true, true, true, true, true, true, true, true, false, false] rfl rfl (take_ofW HT_.out HW_.out (by kernel_rfl)) (fun _ _ _ h => h) (Or.inl ⟨rfl, ?_⟩) hHeld ?_ ?_
        rotate_left
        ·rintro w' ⟨s0, s1, s2, s3, s4, s5⟩
         go_simp
         with_reducible rfl
        rotate_left
        ·simp only [Act.put, List.setIfInBounds_toArray, List.set_cons_zero, List.set_cons_succ, i64_w, i32_w]
         rfl
        refine one_ (i := 8) (N := some 25) #[true, true, true, true, true, true, true, true, true, false] rfl rfl (one_of HT_.out (by kernel_rfl)) (by decide) (fun K hK => ?_)
        refine goes_ Try.func173 (by kernel_rfl) rfl #[.agg #[.int .i64 ((rd_T60 l0 x5_1).f0), .int .i64 ((rd_T60 l0 x5_1).f1), .int .i64 ((rd_T60 l0 x5_1).f2)], .agg #[.int .i64 ((rd_T60 l1 x5_1).f0), .int .i64 ((rd_T60 l1 x5_1).f1), .int .i64 ((rd_T60 l1 x5_1).f2)]] rfl rfl rfl (by (try simp only [List.map_toArray, List.map_cons, List.map_nil]); rfl) ?_
        with_reducible refine (laws_eqRow.calls ((rd_T60 l0 x5_1).f0) ((rd_T60 l0 x5_1).f1) ((rd_T60 l0 x5_1).f2) ((rd_T60 l1 x5_1).f0) ((rd_T60 l1 x5_1).f1) ((rd_T60 l1 x5_1).f2) false _ A7.out).mono ?_
        rintro e w12 ⟨rfl, hb⟩
        refine ⟨_, rfl, ?_⟩
        have n0_ := Aside0.mk (below_step HB.out hb)
        clear HB
        have HB := n0_
        clear n0_
        (try clear hb)
        (try clear hb2)
        (try clear hk)
        (try clear hi)
        refine hK.out _ _ ⟨((HB.out.cell (World.block_lt_of_cell? w _ hw1314_0)).trans hw1314_0), ((HB.out.cell (World.block_lt_of_cell? w _ hw1314_1)).trans hw1314_1), ((HB.out.cell (World.block_lt_of_cell? w _ hw1314_2)).trans hw1314_2), ((HB.out.cell (World.block_lt_of_cell? w _ hw1315_0)).trans hw1315_0), ((HB.out.cell (World.block_lt_of_cell? w _ hw1315_1)).trans hw1315_1), ((HB.out.cell (World.block_lt_of_cell? w _ hw1315_2)).trans hw1315_2)⟩ (fun hHeld => ?_)
        clear hK K
        refine norm_ (a' := ?_) ?_ ?_
        rotate_left
        ·show Act.put _ (some 25) _ = _
         simp only [Act.put, List.setIfInBounds_toArray, List.set_cons_zero, List.set_cons_succ, i64_w, i32_w]
         rfl
        refine pure_ (i := 9) (N := some 26) (v := ?_) (a' := ?_) #[true, true, true, true, true, true, true, true, true, true] rfl rfl (any_of HT_.out (by kernel_rfl)) (fun _ _ _ h => h) (Or.inl ⟨rfl, ?_⟩) ?_ ?_
        rotate_left
        ·intro w'
         go_simp
         with_reducible rfl
        rotate_left
        ·simp only [Act.put, List.setIfInBounds_toArray, List.set_cons_zero, List.set_cons_succ, i64_w, i32_w]
         rfl
        refine done_ (done_of HT_.out (by kernel_rfl)) ?_
        try go_wp2
        go_ret
        exact ⟨rfl, HB.out⟩
      ·rw [if_neg c6] at H
       exact absurd H (by simp)
     ·rw [if_neg c5] at H
      exact absurd H (by simp)
    ·rw [if_neg c4] at H
     have c4b0 : decide (x5_1 < (l0.length : Int)) = false := decide_eq_false c4
     clear c4
     obtain rfl := Option.some.inj H
     go_wp2
     go_ret
     exact ⟨rfl, HB.out⟩
 ·rw [if_neg c3] at H
  have c3b0 : ((l0.length : Int) == (l1.length : Int)) = false := beq_eq_false_iff_ne.mpr c3
  have c3b1 : ((l0.length : Int) != (l1.length : Int)) = true := bne_iff_ne.mpr c3
  have c3b2 : (l0.length == l1.length) = false := by (simp at c3 ⊢; omega)
  obtain rfl := Option.some.inj H
  go_enter Try.func91, Try.ntmps91
  go_wp2
  go_ret
  exact ⟨rfl, HB.out⟩

def laws_eqBoolS.l0 : Nat → List Bool → List Bool → Int → Option (Bool)
 | 0, _, _, _ => none
 | k + 1, x0, x1, x5 => if x5 < (x0.length : Int) then (if 0 ≤ x5 then (if x5 < (x1.length : Int) then (if ((rdOf false x0 x5) != (rdOf false x1 x5)) = true then (some false) else (laws_eqBoolS.l0 k x0 x1 (wrap64 (x5 + 1)))) else (none)) else (none)) else (some true)
def laws_eqBoolS.f (k : Nat) (l0 : List Bool) (l1 : List Bool) : Option (Bool) := if (l0.length : Int) = (l1.length : Int) then (laws_eqBoolS.l0 k l0 l1 0) else (some false)
theorem laws_eqBoolS.calls (k : Nat) (A0 : Option Addr) (c0 : Nat) (l0 : List Bool) (A1 : Option Addr) (c1 : Nat) (l1 : List Bool) (r : Bool) (w : World) (hr0 : Kd.C Kd.bool w A0 l0.length l0) (hc0 : l0.length ≤ c0) (hr1 : Kd.C Kd.bool w A1 l1.length l1) (hc1 : l1.length ≤ c1) (h : laws_eqBoolS.f k l0 l1 = some r) :
  Calls Try.prog 142 #[.slice A0 l0.length c0, .slice A1 l1.length c1] w fun e w' => e = .returned (.bool r) ∧ Drawn0 w w' := by
 have HR0 := Aside0.mk hr0
 have HC0 := Aside0.mk hc0
 clear hr0 hc0
 have HR1 := Aside0.mk hr1
 have HC1 := Aside0.mk hc1
 clear hr1 hc1
 have H : (if (l0.length : Int) = (l1.length : Int) then (laws_eqBoolS.l0 k l0 l1 0) else (some false)) = some r := h
 clear h
 by_cases c3 : (l0.length : Int) = (l1.length : Int)
 ·rw [if_pos c3] at H
  have c3b0 : ((l0.length : Int) == (l1.length : Int)) = true := beq_iff_eq.mpr c3
  have c3b1 : ((l0.length : Int) != (l1.length : Int)) = false := bne_eq_false_iff_eq.mpr c3
  have c3b2 : (l0.length == l1.length) = true := by (simp at c3 ⊢; omega)
  clear c3
  have H' := Aside0.mk H
  clear H
  go_enter Try.func142, Try.ntmps142
  go_wp2
  repeat (go_quiet (fail))
  go_loopg [5] k (fun kq v5 w' => ∃ (x5_1 : Int), v5 = .int .i64 x5_1 ∧ Aside0 (laws_eqBoolS.l0 kq l0 l1 x5_1 = some r) ∧ Aside0 (kq ≤ k) ∧ Drawn0 w w')
  case atStart => exact ⟨(0), rfl, H', ⟨Nat.le_refl _⟩, by repeat (exact Drawn0.refl _)⟩
  case round =>
   clear H'
   try clear c3b0
   try clear c3b1
   try clear c3b2
   obtain ⟨x5_1, rfl, HA, HK1, ⟨m1, rfl⟩⟩ := hrel
   cases gk with
   | zero => exact absurd HA.out (by simp [laws_eqBoolS.l0])
   | succ k1 =>
    have H := HA.out
    clear HA
    simp only [laws_eqBoolS.l0] at H
    by_cases c4 : x5_1 < (l0.length : Int)
    ·rw [if_pos c4] at H
     have c4b0 : decide (x5_1 < (l0.length : Int)) = true := decide_eq_true c4
     clear c4
     by_cases c5 : 0 ≤ x5_1
     ·rw [if_pos c5] at H
      have c5b0 : decide (0 ≤ x5_1) = true := decide_eq_true c5
      clear c5
      by_cases c6 : x5_1 < (l1.length : Int)
      ·rw [if_pos c6] at H
       have c6b0 : decide (x5_1 < (l1.length : Int)) = true := decide_eq_true c6
       clear c6
       by_cases c7 : ((rdOf false l0 x5_1) != (rdOf false l1 x5_1)) = true
       ·rw [if_pos c7] at H
        have c7b0 : ((rdOf false l0 x5_1) != (rdOf false l1 x5_1)) = true := c7
        (try (have c7b1 : decide ((rdOf false l0 x5_1) = (rdOf false l1 x5_1)) = false := by simpa using c7))
        (try (have c7b2 : ((rdOf false l0 x5_1) == (rdOf false l1 x5_1)) = false := by simpa using c7))
        (try (have c7b3 : ¬ ((rdOf false l0 x5_1) = (rdOf false l1 x5_1)) := by simpa using c7))
        clear c7
        obtain rfl := Option.some.inj H
        have p1317 : 0 ≤ (x5_1 : Int) := of_decide_eq_true (by (with_reducible assumption))
        have q1317 : x5_1 < (l0.length : Int) := of_decide_eq_true (by (with_reducible assumption))
        obtain ⟨ad1317, e1317, hx1317_0⟩ := Kd.at_bool HR0.out x5_1 p1317 q1317
        cases e1317
        replace p1317 := eq_true p1317
        replace q1317 := eq_true q1317
        have p1318 : 0 ≤ (x5_1 : Int) := of_decide_eq_true (by (with_reducible assumption))
        have q1318 : x5_1 < (l1.length : Int) := of_decide_eq_true (by (with_reducible assumption))
        obtain ⟨ad1318, e1318, hx1318_0⟩ := Kd.at_bool HR1.out x5_1 p1318 q1318
        cases e1318
        replace p1318 := eq_true p1318
        replace q1318 := eq_true q1318
        go_wp2
        repeat (go_quiet (fail); try go_wp2)
        go_ret
        exact ⟨rfl, by repeat (first | exact Drawn0.refl _ | apply Drawn0.step)⟩
       ·rw [if_neg c7] at H
        have c7b0 : ((rdOf false l0 x5_1) != (rdOf false l1 x5_1)) = false := by simpa using c7
        (try (have c7b1 : decide ((rdOf false l0 x5_1) = (rdOf false l1 x5_1)) = true := by simpa using c7))
        (try (have c7b2 : ((rdOf false l0 x5_1) == (rdOf false l1 x5_1)) = true := by simpa using c7))
        clear c7
        have H' := Aside0.mk H
        clear H
        have p1317 : 0 ≤ (x5_1 : Int) := of_decide_eq_true (by (with_reducible assumption))
        have q1317 : x5_1 < (l0.length : Int) := of_decide_eq_true (by (with_reducible assumption))
        obtain ⟨ad1317, e1317, hx1317_0⟩ := Kd.at_bool HR0.out x5_1 p1317 q1317
        cases e1317
        replace p1317 := eq_true p1317
        replace q1317 := eq_true q1317
        have p1318 : 0 ≤ (x5_1 : Int) := of_decide_eq_true (by (with_reducible assumption))
        have q1318 : x5_1 < (l1.length : Int) := of_decide_eq_true (by (with_reducible assumption))
        obtain ⟨ad1318, e1318, hx1318_0⟩ := Kd.at_bool HR1.out x5_1 p1318 q1318
        cases e1318
        replace p1318 := eq_true p1318
        replace q1318 := eq_true q1318
        go_wp2
        repeat (go_quiet (fail); try go_wp2)
        go_roundg k1
        case measure => have := HK1.out; omega
        case rel => exact ⟨(wrap64 (x5_1 + 1)), rfl, H', ⟨by have := HK1.out; omega⟩, by repeat (first | exact Drawn0.refl _ | apply Drawn0.step)⟩
      ·rw [if_neg c6] at H
       exact absurd H (by simp)
     ·rw [if_neg c5] at H
      exact absurd H (by simp)
    ·rw [if_neg c4] at H
     have c4b0 : decide (x5_1 < (l0.length : Int)) = false := decide_eq_false c4
     clear c4
     obtain rfl := Option.some.inj H
     go_wp2
     repeat (go_quiet (fail))
     go_ret
     exact ⟨rfl, by repeat (first | exact Drawn0.refl _ | apply Drawn0.step)⟩
 ·rw [if_neg c3] at H
  have c3b0 : ((l0.length : Int) == (l1.length : Int)) = false := beq_eq_false_iff_ne.mpr c3
  have c3b1 : ((l0.length : Int) != (l1.length : Int)) = true := bne_iff_ne.mpr c3
  have c3b2 : (l0.length == l1.length) = false := by (simp at c3 ⊢; omega)
  obtain rfl := Option.some.inj H
  go_enter Try.func142, Try.ntmps142
  go_wp2
  repeat (go_quiet (fail))
  go_ret
  exact ⟨rfl, by repeat (exact Drawn0.refl _)⟩

def laws_eqTask.f (k : Nat) (a0_0 : Int) (l0_1 : List (S60)) (l0_2 : List (S60)) (l0_3 : List Bool) (a0_4 : Int) (a1_0 : Int) (l1_1 : List (S60)) (l1_2 : List (S60)) (l1_3 : List Bool) (a1_4 : Int) : Option (Bool) := if a0_0 = a1_0 then ((laws_eqRowS.f k l0_1 l1_1).bind fun t1321 => (if t1321 = true then ((laws_eqRowS.f k l0_2 l1_2).bind fun t1322 => (if t1322 = true then ((laws_eqBoolS.f k l0_3 l1_3).bind fun t1323 => (if t1323 = true then (if a0_4 = a1_4 then (some true) else (some false)) else (some false))) else (some false))) else (some false))) else (some false)
theorem laws_eqTask.calls (k : Nat) (a0_0 : Int) (A0_1 : Option Addr) (c0_1 : Nat) (l0_1 : List (S60)) (A0_2 : Option Addr) (c0_2 : Nat) (l0_2 : List (S60)) (A0_3 : Option Addr) (c0_3 : Nat) (l0_3 : List Bool) (a0_4 : Int) (a1_0 : Int) (A1_1 : Option Addr) (c1_1 : Nat) (l1_1 : List (S60)) (A1_2 : Option Addr) (c1_2 : Nat) (l1_2 : List (S60)) (A1_3 : Option Addr) (c1_3 : Nat) (l1_3 : List Bool) (a1_4 : Int) (r : Bool) (w : World) (hr0_1 : Kd.C k60 w A0_1 l0_1.length l0_1) (hc0_1 : l0_1.length ≤ c0_1) (hr0_2 : Kd.C k60 w A0_2 l0_2.length l0_2) (hc0_2 : l0_2.length ≤ c0_2) (hr0_3 : Kd.C Kd.bool w A0_3 l0_3.length l0_3) (hc0_3 : l0_3.length ≤ c0_3) (hr1_1 : Kd.C k60 w A1_1 l1_1.length l1_1) (hc1_1 : l1_1.length ≤ c1_1) (hr1_2 : Kd.C k60 w A1_2 l1_2.length l1_2) (hc1_2 : l1_2.length ≤ c1_2) (hr1_3 : Kd.C Kd.bool w A1_3 l1_3.length l1_3) (hc1_3 : l1_3.length ≤ c1_3) (h : laws_eqTask.f k a0_0 l0_1 l0_2 l0_3 a0_4 a1_0 l1_1 l1_2 l1_3 a1_4 = some r) :
  Calls Try.prog 42 #[.agg #[.int .i64 a0_0, .slice A0_1 l0_1.length c0_1, .slice A0_2 l0_2.length c0_2, .slice A0_3 l0_3.length c0_3, .int .i64 a0_4], .agg #[.int .i64 a1_0, .slice A1_1 l1_1.length c1_1, .slice A1_2 l1_2.length c1_2, .slice A1_3 l1_3.length c1_3, .int .i64 a1_4]] w fun e w' => e = .returned (.bool r) ∧ Below w.heap.size w w' := by
 have hu40 := Try.underlying40
 have HR0_1 := Aside0.mk hr0_1
 have HC0_1 := Aside0.mk hc0_1
 clear hr0_1 hc0_1
 have HR0_2 := Aside0.mk hr0_2
 have HC0_2 := Aside0.mk hc0_2
 clear hr0_2 hc0_2
 have HR0_3 := Aside0.mk hr0_3
 have HC0_3 := Aside0.mk hc0_3
 clear hr0_3 hc0_3
 have HR1_1 := Aside0.mk hr1_1
 have HC1_1 := Aside0.mk hc1_1
 clear hr1_1 hc1_1
 have HR1_2 := Aside0.mk hr1_2
 have HC1_2 := Aside0.mk hc1_2
 clear hr1_2 hc1_2
 have HR1_3 := Aside0.mk hr1_3
 have HC1_3 := Aside0.mk hc1_3
 clear hr1_3 hc1_3
 have HB := Aside0.mk (Below.refl w.heap.size w)
 have H : (if a0_0 = a1_0 then ((laws_eqRowS.f k l0_1 l1_1).bind fun t1321 => (if t1321 = true then ((laws_eqRowS.f k l0_2 l1_2).bind fun t1322 => (if t1322 = true then ((laws_eqBoolS.f k l0_3 l1_3).bind fun t1323 => (if t1323 = true then (if a0_4 = a1_4 then (some true) else (some false)) else (some false))) else (some false))) else (some false))) else (some false)) = some r := h
 clear h
 by_cases c3 : a0_0 = a1_0
 ·rw [if_pos c3] at H
  have c3b0 : (a0_0 == a1_0) = true := beq_iff_eq.mpr c3
  have c3b1 : (a0_0 != a1_0) = false := bne_eq_false_iff_eq.mpr c3
  clear c3
  replace H := Option.bind_eq_some_iff.mp H
  obtain ⟨t1321, A40, H⟩ := H
  have A4 := Aside0.mk A40
  clear A40
  by_cases c5 : t1321 = true
  ·subst c5
   rw [if_pos rfl] at H
   replace H := Option.bind_eq_some_iff.mp H
   obtain ⟨t1322, A60, H⟩ := H
   have A6 := Aside0.mk A60
   clear A60
   by_cases c7 : t1322 = true
   ·subst c7
    rw [if_pos rfl] at H
    replace H := Option.bind_eq_some_iff.mp H
    obtain ⟨t1323, A80, H⟩ := H
    have A8 := Aside0.mk A80
    clear A80
    by_cases c9 : t1323 = true
    ·subst c9
     rw [if_pos rfl] at H
     by_cases c10 : a0_4 = a1_4
     ·rw [if_pos c10] at H
      have c10b0 : (a0_4 == a1_4) = true := beq_iff_eq.mpr c10
      have c10b1 : (a0_4 != a1_4) = false := bne_eq_false_iff_eq.mpr c10
      clear c10
      obtain rfl := Option.some.inj H
      go_enter Try.func42, Try.ntmps42
      go_wp2_with (first | ((with_reducible refine gate_dst (N := 2) rfl ?_); refine box_event ?hg (N := 2) ?hd (cs := #[.int .i64 a0_0, .slice A0_1 l0_1.length c0_1, .slice A0_2 l0_2.length c0_2, .slice A0_3 l0_3.length c0_3, .int .i64 a0_4]) (t := 40) ?hr ?_; (case hd => rfl); (case hg => rfl); (case hr => (go_simp; done)); intro gb1319 hg w11 hbox hb; have n0_ := Aside0.mk (below_step HB.out hb); have n1_ := Aside0.mk (hbox); have n2_ := Aside0.mk ((by rw [hg]; exact (below_size HB.out) : w.heap.size ≤ gb1319)); have n3_ := Aside0.mk ((by rw [hg]; exact (below_size HB.out) : w.heap.size ≤ gb1319)); clear HB; have HB := n0_; have BK1319 := n1_; have GW1319 := n2_; have GE1319 := n3_; clear n0_ n1_ n2_ n3_; clear hb hbox hg) | ((with_reducible refine gate_dst (N := 3) rfl ?_); refine box_event ?hg (N := 3) ?hd (cs := #[.int .i64 a1_0, .slice A1_1 l1_1.length c1_1, .slice A1_2 l1_2.length c1_2, .slice A1_3 l1_3.length c1_3, .int .i64 a1_4]) (t := 40) ?hr ?_; (case hd => rfl); (case hg => rfl); (case hr => (go_simp; done)); intro gb1320 hg w12 hbox hb; have n0_ := Aside0.mk (blk_below (g := gb1319) (o := .cells #[.int .i64 a0_0, .slice A0_1 l0_1.length c0_1, .slice A0_2 l0_2.length c0_2, .slice A0_3 l0_3.length c0_3, .int .i64 a0_4] 40 (0, 0)) BK1319.out hb); have n1_ := Aside0.mk (below_step HB.out hb); have n2_ := Aside0.mk (hbox); have n3_ := Aside0.mk ((by rw [hg]; exact (below_size HB.out) : w.heap.size ≤ gb1320)); have n4_ := Aside0.mk ((by rw [hg]; exact (below_size HB.out) : w.heap.size ≤ gb1320)); have n5_ := Aside0.mk ((by rw [hg]; exact Nat.ne_of_lt (blk_lt (g := gb1319) (o := .cells #[.int .i64 a0_0, .slice A0_1 l0_1.length c0_1, .slice A0_2 l0_2.length c0_2, .slice A0_3 l0_3.length c0_3, .int .i64 a0_4] 40 (0, 0)) BK1319.out) : gb1319 ≠ gb1320)); have n6_ := Aside0.mk ((by rw [hg]; exact Nat.ne_of_gt (blk_lt (g := gb1319) (o := .cells #[.int .i64 a0_0, .slice A0_1 l0_1.length c0_1, .slice A0_2 l0_2.length c0_2, .slice A0_3 l0_3.length c0_3, .int .i64 a0_4] 40 (0, 0)) BK1319.out) : gb1320 ≠ gb1319)); clear BK1319; clear HB; have BK1319 := n0_; have HB := n1_; have BK1320 := n2_; have GW1320 := n3_; have GE1320 := n4_; have NB1319_1320 := n5_; have NB1320_1319 := n6_; clear n0_ n1_ n2_ n3_ n4_ n5_ n6_; clear hb hbox hg; have hnb13 := NB1319_1320.out; have hnc13 := NB1320_1319.out; have hcz14_0 : w12.cell? ⟨gb1319, 0, none⟩ = some (.int .i64 a0_0) := (blk_cell BK1319.out 0).trans rfl; have hcz14_1 : w12.cell? ⟨gb1319, 1, none⟩ = some (.slice A0_1 l0_1.length c0_1) := (blk_cell BK1319.out 1).trans rfl; have hcz14_2 : w12.cell? ⟨gb1319, 2, none⟩ = some (.slice A0_2 l0_2.length c0_2) := (blk_cell BK1319.out 2).trans rfl; have hcz14_3 : w12.cell? ⟨gb1319, 3, none⟩ = some (.slice A0_3 l0_3.length c0_3) := (blk_cell BK1319.out 3).trans rfl; have hcz14_4 : w12.cell? ⟨gb1319, 4, none⟩ = some (.int .i64 a0_4) := (blk_cell BK1319.out 4).trans rfl; have hfz14_0 := blk_frozen BK1319.out 0; have hfz14_1 := blk_frozen BK1319.out 1; have hfz14_2 := blk_frozen BK1319.out 2; have hfz14_3 := blk_frozen BK1319.out 3; have hfz14_4 := blk_frozen BK1319.out 4; have hcz15_0 : w12.cell? ⟨gb1320, 0, none⟩ = some (.int .i64 a1_0) := (blk_cell BK1320.out 0).trans rfl; have hcz15_1 : w12.cell? ⟨gb1320, 1, none⟩ = some (.slice A1_1 l1_1.length c1_1) := (blk_cell BK1320.out 1).trans rfl; have hcz15_2 : w12.cell? ⟨gb1320, 2, none⟩ = some (.slice A1_2 l1_2.length c1_2) := (blk_cell BK1320.out 2).trans rfl; have hcz15_3 : w12.cell? ⟨gb1320, 3, none⟩ = some (.slice A1_3 l1_3.length c1_3) := (blk_cell BK1320.out 3).trans rfl; have hcz15_4 : w12.cell? ⟨gb1320, 4, none⟩ = some (.int .i64 a1_4) := (blk_cell BK1320.out 4).trans rfl; have hfz15_0 := blk_frozen BK1320.out 0; have hfz15_1 := blk_frozen BK1320.out 1; have hfz15_2 := blk_frozen BK1320.out 2; have hfz15_3 := blk_frozen BK1320.out 3; have hfz15_4 := blk_frozen BK1320.out 4) | ((with_reducible refine gate_callee (f := 91) rfl ?_); refine goesL_ (some 14) rfl rfl Try.func91 (by kernel_rfl) rfl #[.slice A0_1 l0_1.length c0_1, .slice A1_1 l1_1.length c1_1] rfl (by (try simp only [List.map_toArray, List.map_cons, List.map_nil]); rfl) ?_; (with_reducible refine (laws_eqRowS.calls k _ _ l0_1 _ _ l1_1 true _ ?side1 ?side2 ?side3 ?side4 A4.out).mono ?_); (case side1 => repeat (exact (Kd.C_below HR0_1.out HB.out))); (case side2 => exact HC0_1.out); (case side3 => repeat (exact (Kd.C_below HR1_1.out HB.out))); (case side4 => exact HC1_1.out); rintro e w16 ⟨rfl, hb⟩; refine ⟨_, rfl, ?_⟩; have n0_ := Aside0.mk (blk_below (g := gb1319) (o := .cells #[.int .i64 a0_0, .slice A0_1 l0_1.length c0_1, .slice A0_2 l0_2.length c0_2, .slice A0_3 l0_3.length c0_3, .int .i64 a0_4] 40 (0, 0)) BK1319.out hb); have n1_ := Aside0.mk (blk_below (g := gb1320) (o := .cells #[.int .i64 a1_0, .slice A1_1 l1_1.length c1_1, .slice A1_2 l1_2.length c1_2, .slice A1_3 l1_3.length c1_3, .int .i64 a1_4] 40 (0, 0)) BK1320.out hb); have n2_ := Aside0.mk (below_step HB.out hb); clear BK1319; clear BK1320; clear HB; have BK1319 := n0_; have BK1320 := n1_; have HB := n2_; clear n0_ n1_ n2_; (try clear hb); have hcz17_0 : w16.cell? ⟨gb1319, 0, none⟩ = some (.int .i64 a0_0) := (blk_cell BK1319.out 0).trans rfl; have hcz17_1 : w16.cell? ⟨gb1319, 1, none⟩ = some (.slice A0_1 l0_1.length c0_1) := (blk_cell BK1319.out 1).trans rfl; have hcz17_2 : w16.cell? ⟨gb1319, 2, none⟩ = some (.slice A0_2 l0_2.length c0_2) := (blk_cell BK1319.out 2).trans rfl; have hcz17_3 : w16.cell? ⟨gb1319, 3, none⟩ = some (.slice A0_3 l0_3.length c0_3) := (blk_cell BK1319.out 3).trans rfl; have hcz17_4 : w16.cell? ⟨gb1319, 4, none⟩ = some (.int .i64 a0_4) := (blk_cell BK1319.out 4).trans rfl; have hfz17_0 := blk_frozen BK1319.out 0; have hfz17_1 := blk_frozen BK1319.out 1; have hfz17_2 := blk_frozen BK1319.out 2; have hfz17_3 := blk_frozen BK1319.out 3; have hfz17_4 := blk_frozen BK1319.out 4; have hcz18_0 : w16.cell? ⟨gb1320, 0, none⟩ = some (.int .i64 a1_0) := (blk_cell BK1320.out 0).trans rfl; have hcz18_1 : w16.cell? ⟨gb1320, 1, none⟩ = some (.slice A1_1 l1_1.length c1_1) := (blk_cell BK1320.out 1).trans rfl; have hcz18_2 : w16.cell? ⟨gb1320, 2, none⟩ = some (.slice A1_2 l1_2.length c1_2) := (blk_cell BK1320.out 2).trans rfl; have hcz18_3 : w16.cell? ⟨gb1320, 3, none⟩ = some (.slice A1_3 l1_3.length c1_3) := (blk_cell BK1320.out 3).trans rfl; have hcz18_4 : w16.cell? ⟨gb1320, 4, none⟩ = some (.int .i64 a1_4) := (blk_cell BK1320.out 4).trans rfl; have hfz18_0 := blk_frozen BK1320.out 0; have hfz18_1 := blk_frozen BK1320.out 1; have hfz18_2 := blk_frozen BK1320.out 2; have hfz18_3 := blk_frozen BK1320.out 3; have hfz18_4 := blk_frozen BK1320.out 4) | ((with_reducible refine gate_callee (f := 91) rfl ?_); refine goesL_ (some 20) rfl rfl Try.func91 (by kernel_rfl) rfl #[.slice A0_2 l0_2.length c0_2, .slice A1_2 l1_2.length c1_2] rfl (by (try simp only [List.map_toArray, List.map_cons, List.map_nil]); rfl) ?_; (with_reducible refine (laws_eqRowS.calls k _ _ l0_2 _ _ l1_2 true _ ?side1 ?side2 ?side3 ?side4 A6.out).mono ?_); (case side1 => repeat (exact (Kd.C_below HR0_2.out HB.out))); (case side2 => exact HC0_2.out); (case side3 => repeat (exact (Kd.C_below HR1_2.out HB.out))); (case side4 => exact HC1_2.out); rintro e w19 ⟨rfl, hb⟩; refine ⟨_, rfl, ?_⟩; have n0_ := Aside0.mk (blk_below (g := gb1319) (o := .cells #[.int .i64 a0_0, .slice A0_1 l0_1.length c0_1, .slice A0_2 l0_2.length c0_2, .slice A0_3 l0_3.length c0_3, .int .i64 a0_4] 40 (0, 0)) BK1319.out hb); have n1_ := Aside0.mk (blk_below (g := gb1320) (o := .cells #[.int .i64 a1_0, .slice A1_1 l1_1.length c1_1, .slice A1_2 l1_2.length c1_2, .slice A1_3 l1_3.length c1_3, .int .i64 a1_4] 40 (0, 0)) BK1320.out hb); have n2_ := Aside0.mk (below_step HB.out hb); clear BK1319; clear BK1320; clear HB; have BK1319 := n0_; have BK1320 := n1_; have HB := n2_; clear n0_ n1_ n2_; (try clear hb); have hcz20_0 : w19.cell? ⟨gb1319, 0, none⟩ = some (.int .i64 a0_0) := (blk_cell BK1319.out 0).trans rfl; have hcz20_1 : w19.cell? ⟨gb1319, 1, none⟩ = some (.slice A0_1 l0_1.length c0_1) := (blk_cell BK1319.out 1).trans rfl; have hcz20_2 : w19.cell? ⟨gb1319, 2, none⟩ = some (.slice A0_2 l0_2.length c0_2) := (blk_cell BK1319.out 2).trans rfl; have hcz20_3 : w19.cell? ⟨gb1319, 3, none⟩ = some (.slice A0_3 l0_3.length c0_3) := (blk_cell BK1319.out 3).trans rfl; have hcz20_4 : w19.cell? ⟨gb1319, 4, none⟩ = some (.int .i64 a0_4) := (blk_cell BK1319.out 4).trans rfl; have hfz20_0 := blk_frozen BK1319.out 0; have hfz20_1 := blk_frozen BK1319.out 1; have hfz20_2 := blk_frozen BK1319.out 2; have hfz20_3 := blk_frozen BK1319.out 3; have hfz20_4 := blk_frozen BK1319.out 4; have hcz21_0 : w19.cell? ⟨gb1320, 0, none⟩ = some (.int .i64 a1_0) := (blk_cell BK1320.out 0).trans rfl; have hcz21_1 : w19.cell? ⟨gb1320, 1, none⟩ = some (.slice A1_1 l1_1.length c1_1) := (blk_cell BK1320.out 1).trans rfl; have hcz21_2 : w19.cell? ⟨gb1320, 2, none⟩ = some (.slice A1_2 l1_2.length c1_2) := (blk_cell BK1320.out 2).trans rfl; have hcz21_3 : w19.cell? ⟨gb1320, 3, none⟩ = some (.slice A1_3 l1_3.length c1_3) := (blk_cell BK1320.out 3).trans rfl; have hcz21_4 : w19.cell? ⟨gb1320, 4, none⟩ = some (.int .i64 a1_4) := (blk_cell BK1320.out 4).trans rfl; have hfz21_0 := blk_frozen BK1320.out 0; have hfz21_1 := blk_frozen BK1320.out 1; have hfz21_2 := blk_frozen BK1320.out 2; have hfz21_3 := blk_frozen BK1320.out 3; have hfz21_4 := blk_frozen BK1320.out 4) | ((with_reducible refine gate_callee (f := 142) rfl ?_); refine goesL_ (some 26) rfl rfl Try.func142 (by kernel_rfl) rfl #[.slice A0_3 l0_3.length c0_3, .slice A1_3 l1_3.length c1_3] rfl (by (try simp only [List.map_toArray, List.map_cons, List.map_nil]); rfl) ?_; (with_reducible refine (laws_eqBoolS.calls k _ _ l0_3 _ _ l1_3 true _ ?side1 ?side2 ?side3 ?side4 A8.out).mono ?_); (case side1 => repeat (exact (Kd.C_below HR0_3.out HB.out))); (case side2 => exact HC0_3.out); (case side3 => repeat (exact (Kd.C_below HR1_3.out HB.out))); (case side4 => exact HC1_3.out); rintro e w' ⟨rfl, ⟨nd, rfl⟩⟩; refine ⟨_, rfl, ?_⟩))
      go_ret
      exact ⟨rfl, by repeat ((with_reducible first | exact HB.out | apply pw_below_drewN))⟩
     ·rw [if_neg c10] at H
      have c10b0 : (a0_4 == a1_4) = false := beq_eq_false_iff_ne.mpr c10
      have c10b1 : (a0_4 != a1_4) = true := bne_iff_ne.mpr c10
      obtain rfl := Option.some.inj H
      go_enter Try.func42, Try.ntmps42
      go_wp2_with (first | ((with_reducible refine gate_dst (N := 2) rfl ?_); refine box_event ?hg (N := 2) ?hd (cs := #[.int .i64 a0_0, .slice A0_1 l0_1.length c0_1, .slice A0_2 l0_2.length c0_2, .slice A0_3 l0_3.length c0_3, .int .i64 a0_4]) (t := 40) ?hr ?_; (case hd => rfl); (case hg => rfl); (case hr => (go_simp; done)); intro gb1319 hg w22 hbox hb; have n0_ := Aside0.mk (below_step HB.out hb); have n1_ := Aside0.mk (hbox); have n2_ := Aside0.mk ((by rw [hg]; exact (below_size HB.out) : w.heap.size ≤ gb1319)); have n3_ := Aside0.mk ((by rw [hg]; exact (below_size HB.out) : w.heap.size ≤ gb1319)); clear HB; have HB := n0_; have BK1319 := n1_; have GW1319 := n2_; have GE1319 := n3_; clear n0_ n1_ n2_ n3_; clear hb hbox hg) | ((with_reducible refine gate_dst (N := 3) rfl ?_); refine box_event ?hg (N := 3) ?hd (cs := #[.int .i64 a1_0, .slice A1_1 l1_1.length c1_1, .slice A1_2 l1_2.length c1_2, .slice A1_3 l1_3.length c1_3, .int .i64 a1_4]) (t := 40) ?hr ?_; (case hd => rfl); (case hg => rfl); (case hr => (go_simp; done)); intro gb1320 hg w23 hbox hb; have n0_ := Aside0.mk (blk_below (g := gb1319) (o := .cells #[.int .i64 a0_0, .slice A0_1 l0_1.length c0_1, .slice A0_2 l0_2.length c0_2, .slice A0_3 l0_3.length c0_3, .int .i64 a0_4] 40 (0, 0)) BK1319.out hb); have n1_ := Aside0.mk (below_step HB.out hb); have n2_ := Aside0.mk (hbox); have n3_ := Aside0.mk ((by rw [hg]; exact (below_size HB.out) : w.heap.size ≤ gb1320)); have n4_ := Aside0.mk ((by rw [hg]; exact (below_size HB.out) : w.heap.size ≤ gb1320)); have n5_ := Aside0.mk ((by rw [hg]; exact Nat.ne_of_lt (blk_lt (g := gb1319) (o := .cells #[.int .i64 a0_0, .slice A0_1 l0_1.length c0_1, .slice A0_2 l0_2.length c0_2, .slice A0_3 l0_3.length c0_3, .int .i64 a0_4] 40 (0, 0)) BK1319.out) : gb1319 ≠ gb1320)); have n6_ := Aside0.mk ((by rw [hg]; exact Nat.ne_of_gt (blk_lt (g := gb1319) (o := .cells #[.int .i64 a0_0, .slice A0_1 l0_1.length c0_1, .slice A0_2 l0_2.length c0_2, .slice A0_3 l0_3.length c0_3, .int .i64 a0_4] 40 (0, 0)) BK1319.out) : gb1320 ≠ gb1319)); clear BK1319; clear HB; have BK1319 := n0_; have HB := n1_; have BK1320 := n2_; have GW1320 := n3_; have GE1320 := n4_; have NB1319_1320 := n5_; have NB1320_1319 := n6_; clear n0_ n1_ n2_ n3_ n4_ n5_ n6_; clear hb hbox hg; have hnb24 := NB1319_1320.out; have hnc24 := NB1320_1319.out; have hcz25_0 : w23.cell? ⟨gb1319, 0, none⟩ = some (.int .i64 a0_0) := (blk_cell BK1319.out 0).trans rfl; have hcz25_1 : w23.cell? ⟨gb1319, 1, none⟩ = some (.slice A0_1 l0_1.length c0_1) := (blk_cell BK1319.out 1).trans rfl; have hcz25_2 : w23.cell? ⟨gb1319, 2, none⟩ = some (.slice A0_2 l0_2.length c0_2) := (blk_cell BK1319.out 2).trans rfl; have hcz25_3 : w23.cell? ⟨gb1319, 3, none⟩ = some (.slice A0_3 l0_3.length c0_3) := (blk_cell BK1319.out 3).trans rfl; have hcz25_4 : w23.cell? ⟨gb1319, 4, none⟩ = some (.int .i64 a0_4) := (blk_cell BK1319.out 4).trans rfl; have hfz25_0 := blk_frozen BK1319.out 0; have hfz25_1 := blk_frozen BK1319.out 1; have hfz25_2 := blk_frozen BK1319.out 2; have hfz25_3 := blk_frozen BK1319.out 3; have hfz25_4 := blk_frozen BK1319.out 4; have hcz26_0 : w23.cell? ⟨gb1320, 0, none⟩ = some (.int .i64 a1_0) := (blk_cell BK1320.out 0).trans rfl; have hcz26_1 : w23.cell? ⟨gb1320, 1, none⟩ = some (.slice A1_1 l1_1.length c1_1) := (blk_cell BK1320.out 1).trans rfl; have hcz26_2 : w23.cell? ⟨gb1320, 2, none⟩ = some (.slice A1_2 l1_2.length c1_2) := (blk_cell BK1320.out 2).trans rfl; have hcz26_3 : w23.cell? ⟨gb1320, 3, none⟩ = some (.slice A1_3 l1_3.length c1_3) := (blk_cell BK1320.out 3).trans rfl; have hcz26_4 : w23.cell? ⟨gb1320, 4, none⟩ = some (.int .i64 a1_4) := (blk_cell BK1320.out 4).trans rfl; have hfz26_0 := blk_frozen BK1320.out 0; have hfz26_1 := blk_frozen BK1320.out 1; have hfz26_2 := blk_frozen BK1320.out 2; have hfz26_3 := blk_frozen BK1320.out 3; have hfz26_4 := blk_frozen BK1320.out 4) | ((with_reducible refine gate_callee (f := 91) rfl ?_); refine goesL_ (some 14) rfl rfl Try.func91 (by kernel_rfl) rfl #[.slice A0_1 l0_1.length c0_1, .slice A1_1 l1_1.length c1_1] rfl (by (try simp only [List.map_toArray, List.map_cons, List.map_nil]); rfl) ?_; (with_reducible refine (laws_eqRowS.calls k _ _ l0_1 _ _ l1_1 true _ ?side1 ?side2 ?side3 ?side4 A4.out).mono ?_); (case side1 => repeat (exact (Kd.C_below HR0_1.out HB.out))); (case side2 => exact HC0_1.out); (case side3 => repeat (exact (Kd.C_below HR1_1.out HB.out))); (case side4 => exact HC1_1.out); rintro e w27 ⟨rfl, hb⟩; refine ⟨_, rfl, ?_⟩; have n0_ := Aside0.mk (blk_below (g := gb1319) (o := .cells #[.int .i64 a0_0, .slice A0_1 l0_1.length c0_1, .slice A0_2 l0_2.length c0_2, .slice A0_3 l0_3.length c0_3, .int .i64 a0_4] 40 (0, 0)) BK1319.out hb); have n1_ := Aside0.mk (blk_below (g := gb1320) (o := .cells #[.int .i64 a1_0, .slice A1_1 l1_1.length c1_1, .slice A1_2 l1_2.length c1_2, .slice A1_3 l1_3.length c1_3, .int .i64 a1_4] 40 (0, 0)) BK1320.out hb); have n2_ := Aside0.mk (below_step HB.out hb); clear BK1319; clear BK1320; clear HB; have BK1319 := n0_; have BK1320 := n1_; have HB := n2_; clear n0_ n1_ n2_; (try clear hb); have hcz28_0 : w27.cell? ⟨gb1319, 0, none⟩ = some (.int .i64 a0_0) := (blk_cell BK1319.out 0).trans rfl; have hcz28_1 : w27.cell? ⟨gb1319, 1, none⟩ = some (.slice A0_1 l0_1.length c0_1) := (blk_cell BK1319.out 1).trans rfl; have hcz28_2 : w27.cell? ⟨gb1319, 2, none⟩ = some (.slice A0_2 l0_2.length c0_2) := (blk_cell BK1319.out 2).trans rfl; have hcz28_3 : w27.cell? ⟨gb1319, 3, none⟩ = some (.slice A0_3 l0_3.length c0_3) := (blk_cell BK1319.out 3).trans rfl; have hcz28_4 : w27.cell? ⟨gb1319, 4, none⟩ = some (.int .i64 a0_4) := (blk_cell BK1319.out 4).trans rfl; have hfz28_0 := blk_frozen BK1319.out 0; have hfz28_1 := blk_frozen BK1319.out 1; have hfz28_2 := blk_frozen BK1319.out 2; have hfz28_3 := blk_frozen BK1319.out 3; have hfz28_4 := blk_frozen BK1319.out 4; have hcz29_0 : w27.cell? ⟨gb1320, 0, none⟩ = some (.int .i64 a1_0) := (blk_cell BK1320.out 0).trans rfl; have hcz29_1 : w27.cell? ⟨gb1320, 1, none⟩ = some (.slice A1_1 l1_1.length c1_1) := (blk_cell BK1320.out 1).trans rfl; have hcz29_2 : w27.cell? ⟨gb1320, 2, none⟩ = some (.slice A1_2 l1_2.length c1_2) := (blk_cell BK1320.out 2).trans rfl; have hcz29_3 : w27.cell? ⟨gb1320, 3, none⟩ = some (.slice A1_3 l1_3.length c1_3) := (blk_cell BK1320.out 3).trans rfl; have hcz29_4 : w27.cell? ⟨gb1320, 4, none⟩ = some (.int .i64 a1_4) := (blk_cell BK1320.out 4).trans rfl; have hfz29_0 := blk_frozen BK1320.out 0; have hfz29_1 := blk_frozen BK1320.out 1; have hfz29_2 := blk_frozen BK1320.out 2; have hfz29_3 := blk_frozen BK1320.out 3; have hfz29_4 := blk_frozen BK1320.out 4) | ((with_reducible refine gate_callee (f := 91) rfl ?_); refine goesL_ (some 20) rfl rfl Try.func91 (by kernel_rfl) rfl #[.slice A0_2 l0_2.length c0_2, .slice A1_2 l1_2.length c1_2] rfl (by (try simp only [List.map_toArray, List.map_cons, List.map_nil]); rfl) ?_; (with_reducible refine (laws_eqRowS.calls k _ _ l0_2 _ _ l1_2 true _ ?side1 ?side2 ?side3 ?side4 A6.out).mono ?_); (case side1 => repeat (exact (Kd.C_below HR0_2.out HB.out))); (case side2 => exact HC0_2.out); (case side3 => repeat (exact (Kd.C_below HR1_2.out HB.out))); (case side4 => exact HC1_2.out); rintro e w30 ⟨rfl, hb⟩; refine ⟨_, rfl, ?_⟩; have n0_ := Aside0.mk (blk_below (g := gb1319) (o := .cells #[.int .i64 a0_0, .slice A0_1 l0_1.length c0_1, .slice A0_2 l0_2.length c0_2, .slice A0_3 l0_3.length c0_3, .int .i64 a0_4] 40 (0, 0)) BK1319.out hb); have n1_ := Aside0.mk (blk_below (g := gb1320) (o := .cells #[.int .i64 a1_0, .slice A1_1 l1_1.length c1_1, .slice A1_2 l1_2.length c1_2, .slice A1_3 l1_3.length c1_3, .int .i64 a1_4] 40 (0, 0)) BK1320.out hb); have n2_ := Aside0.mk (below_step HB.out hb); clear BK1319; clear BK1320; clear HB; have BK1319 := n0_; have BK1320 := n1_; have HB := n2_; clear n0_ n1_ n2_; (try clear hb); have hcz31_0 : w30.cell? ⟨gb1319, 0, none⟩ = some (.int .i64 a0_0) := (blk_cell BK1319.out 0).trans rfl; have hcz31_1 : w30.cell? ⟨gb1319, 1, none⟩ = some (.slice A0_1 l0_1.length c0_1) := (blk_cell BK1319.out 1).trans rfl; have hcz31_2 : w30.cell? ⟨gb1319, 2, none⟩ = some (.slice A0_2 l0_2.length c0_2) := (blk_cell BK1319.out 2).trans rfl; have hcz31_3 : w30.cell? ⟨gb1319, 3, none⟩ = some (.slice A0_3 l0_3.length c0_3) := (blk_cell BK1319.out 3).trans rfl; have hcz31_4 : w30.cell? ⟨gb1319, 4, none⟩ = some (.int .i64 a0_4) := (blk_cell BK1319.out 4).trans rfl; have hfz31_0 := blk_frozen BK1319.out 0; have hfz31_1 := blk_frozen BK1319.out 1; have hfz31_2 := blk_frozen BK1319.out 2; have hfz31_3 := blk_frozen BK1319.out 3; have hfz31_4 := blk_frozen BK1319.out 4; have hcz32_0 : w30.cell? ⟨gb1320, 0, none⟩ = some (.int .i64 a1_0) := (blk_cell BK1320.out 0).trans rfl; have hcz32_1 : w30.cell? ⟨gb1320, 1, none⟩ = some (.slice A1_1 l1_1.length c1_1) := (blk_cell BK1320.out 1).trans rfl; have hcz32_2 : w30.cell? ⟨gb1320, 2, none⟩ = some (.slice A1_2 l1_2.length c1_2) := (blk_cell BK1320.out 2).trans rfl; have hcz32_3 : w30.cell? ⟨gb1320, 3, none⟩ = some (.slice A1_3 l1_3.length c1_3) := (blk_cell BK1320.out 3).trans rfl; have hcz32_4 : w30.cell? ⟨gb1320, 4, none⟩ = some (.int .i64 a1_4) := (blk_cell BK1320.out 4).trans rfl; have hfz32_0 := blk_frozen BK1320.out 0; have hfz32_1 := blk_frozen BK1320.out 1; have hfz32_2 := blk_frozen BK1320.out 2; have hfz32_3 := blk_frozen BK1320.out 3; have hfz32_4 := blk_frozen BK1320.out 4) | ((with_reducible refine gate_callee (f := 142) rfl ?_); refine goesL_ (some 26) rfl rfl Try.func142 (by kernel_rfl) rfl #[.slice A0_3 l0_3.length c0_3, .slice A1_3 l1_3.length c1_3] rfl (by (try simp only [List.map_toArray, List.map_cons, List.map_nil]); rfl) ?_; (with_reducible refine (laws_eqBoolS.calls k _ _ l0_3 _ _ l1_3 true _ ?side1 ?side2 ?side3 ?side4 A8.out).mono ?_); (case side1 => repeat (exact (Kd.C_below HR0_3.out HB.out))); (case side2 => exact HC0_3.out); (case side3 => repeat (exact (Kd.C_below HR1_3.out HB.out))); (case side4 => exact HC1_3.out); rintro e w' ⟨rfl, ⟨nd, rfl⟩⟩; refine ⟨_, rfl, ?_⟩))
      go_ret
      exact ⟨rfl, by repeat ((with_reducible first | exact HB.out | apply pw_below_drewN))⟩
    ·replace c9 := Bool.eq_false_iff.mpr c9
     subst c9
     rw [if_neg (show ¬ (false = true) by decide)] at H
     obtain rfl := Option.some.inj H
     go_enter Try.func42, Try.ntmps42
     go_wp2_with (first | ((with_reducible refine gate_dst (N := 2) rfl ?_); refine box_event ?hg (N := 2) ?hd (cs := #[.int .i64 a0_0, .slice A0_1 l0_1.length c0_1, .slice A0_2 l0_2.length c0_2, .slice A0_3 l0_3.length c0_3, .int .i64 a0_4]) (t := 40) ?hr ?_; (case hd => rfl); (case hg => rfl); (case hr => (go_simp; done)); intro gb1319 hg w33 hbox hb; have n0_ := Aside0.mk (below_step HB.out hb); have n1_ := Aside0.mk (hbox); have n2_ := Aside0.mk ((by rw [hg]; exact (below_size HB.out) : w.heap.size ≤ gb1319)); have n3_ := Aside0.mk ((by rw [hg]; exact (below_size HB.out) : w.heap.size ≤ gb1319)); clear HB; have HB := n0_; have BK1319 := n1_; have GW1319 := n2_; have GE1319 := n3_; clear n0_ n1_ n2_ n3_; clear hb hbox hg) | ((with_reducible refine gate_dst (N := 3) rfl ?_); refine box_event ?hg (N := 3) ?hd (cs := #[.int .i64 a1_0, .slice A1_1 l1_1.length c1_1, .slice A1_2 l1_2.length c1_2, .slice A1_3 l1_3.length c1_3, .int .i64 a1_4]) (t := 40) ?hr ?_; (case hd => rfl); (case hg => rfl); (case hr => (go_simp; done)); intro gb1320 hg w34 hbox hb; have n0_ := Aside0.mk (blk_below (g := gb1319) (o := .cells #[.int .i64 a0_0, .slice A0_1 l0_1.length c0_1, .slice A0_2 l0_2.length c0_2, .slice A0_3 l0_3.length c0_3, .int .i64 a0_4] 40 (0, 0)) BK1319.out hb); have n1_ := Aside0.mk (below_step HB.out hb); have n2_ := Aside0.mk (hbox); have n3_ := Aside0.mk ((by rw [hg]; exact (below_size HB.out) : w.heap.size ≤ gb1320)); have n4_ := Aside0.mk ((by rw [hg]; exact (below_size HB.out) : w.heap.size ≤ gb1320)); have n5_ := Aside0.mk ((by rw [hg]; exact Nat.ne_of_lt (blk_lt (g := gb1319) (o := .cells #[.int .i64 a0_0, .slice A0_1 l0_1.length c0_1, .slice A0_2 l0_2.length c0_2, .slice A0_3 l0_3.length c0_3, .int .i64 a0_4] 40 (0, 0)) BK1319.out) : gb1319 ≠ gb1320)); have n6_ := Aside0.mk ((by rw [hg]; exact Nat.ne_of_gt (blk_lt (g := gb1319) (o := .cells #[.int .i64 a0_0, .slice A0_1 l0_1.length c0_1, .slice A0_2 l0_2.length c0_2, .slice A0_3 l0_3.length c0_3, .int .i64 a0_4] 40 (0, 0)) BK1319.out) : gb1320 ≠ gb1319)); clear BK1319; clear HB; have BK1319 := n0_; have HB := n1_; have BK1320 := n2_; have GW1320 := n3_; have GE1320 := n4_; have NB1319_1320 := n5_; have NB1320_1319 := n6_; clear n0_ n1_ n2_ n3_ n4_ n5_ n6_; clear hb hbox hg; have hnb35 := NB1319_1320.out; have hnc35 := NB1320_1319.out; have hcz36_0 : w34.cell? ⟨gb1319, 0, none⟩ = some (.int .i64 a0_0) := (blk_cell BK1319.out 0).trans rfl; have hcz36_1 : w34.cell? ⟨gb1319, 1, none⟩ = some (.slice A0_1 l0_1.length c0_1) := (blk_cell BK1319.out 1).trans rfl; have hcz36_2 : w34.cell? ⟨gb1319, 2, none⟩ = some (.slice A0_2 l0_2.length c0_2) := (blk_cell BK1319.out 2).trans rfl; have hcz36_3 : w34.cell? ⟨gb1319, 3, none⟩ = some (.slice A0_3 l0_3.length c0_3) := (blk_cell BK1319.out 3).trans rfl; have hcz36_4 : w34.cell? ⟨gb1319, 4, none⟩ = some (.int .i64 a0_4) := (blk_cell BK1319.out 4).trans rfl; have hfz36_0 := blk_frozen BK1319.out 0; have hfz36_1 := blk_frozen BK1319.out 1; have hfz36_2 := blk_frozen BK1319.out 2; have hfz36_3 := blk_frozen BK1319.out 3; have hfz36_4 := blk_frozen BK1319.out 4; have hcz37_0 : w34.cell? ⟨gb1320, 0, none⟩ = some (.int .i64 a1_0) := (blk_cell BK1320.out 0).trans rfl; have hcz37_1 : w34.cell? ⟨gb1320, 1, none⟩ = some (.slice A1_1 l1_1.length c1_1) := (blk_cell BK1320.out 1).trans rfl; have hcz37_2 : w34.cell? ⟨gb1320, 2, none⟩ = some (.slice A1_2 l1_2.length c1_2) := (blk_cell BK1320.out 2).trans rfl; have hcz37_3 : w34.cell? ⟨gb1320, 3, none⟩ = some (.slice A1_3 l1_3.length c1_3) := (blk_cell BK1320.out 3).trans rfl; have hcz37_4 : w34.cell? ⟨gb1320, 4, none⟩ = some (.int .i64 a1_4) := (blk_cell BK1320.out 4).trans rfl; have hfz37_0 := blk_frozen BK1320.out 0; have hfz37_1 := blk_frozen BK1320.out 1; have hfz37_2 := blk_frozen BK1320.out 2; have hfz37_3 := blk_frozen BK1320.out 3; have hfz37_4 := blk_frozen BK1320.out 4) | ((with_reducible refine gate_callee (f := 91) rfl ?_); refine goesL_ (some 14) rfl rfl Try.func91 (by kernel_rfl) rfl #[.slice A0_1 l0_1.length c0_1, .slice A1_1 l1_1.length c1_1] rfl (by (try simp only [List.map_toArray, List.map_cons, List.map_nil]); rfl) ?_; (with_reducible refine (laws_eqRowS.calls k _ _ l0_1 _ _ l1_1 true _ ?side1 ?side2 ?side3 ?side4 A4.out).mono ?_); (case side1 => repeat (exact (Kd.C_below HR0_1.out HB.out))); (case side2 => exact HC0_1.out); (case side3 => repeat (exact (Kd.C_below HR1_1.out HB.out))); (case side4 => exact HC1_1.out); rintro e w38 ⟨rfl, hb⟩; refine ⟨_, rfl, ?_⟩; have n0_ := Aside0.mk (blk_below (g := gb1319) (o := .cells #[.int .i64 a0_0, .slice A0_1 l0_1.length c0_1, .slice A0_2 l0_2.length c0_2, .slice A0_3 l0_3.length c0_3, .int .i64 a0_4] 40 (0, 0)) BK1319.out hb); have n1_ := Aside0.mk (blk_below (g := gb1320) (o := .cells #[.int .i64 a1_0, .slice A1_1 l1_1.length c1_1, .slice A1_2 l1_2.length c1_2, .slice A1_3 l1_3.length c1_3, .int .i64 a1_4] 40 (0, 0)) BK1320.out hb); have n2_ := Aside0.mk (below_step HB.out hb); clear BK1319; clear BK1320; clear HB; have BK1319 := n0_; have BK1320 := n1_; have HB := n2_; clear n0_ n1_ n2_; (try clear hb); have hcz39_0 : w38.cell? ⟨gb1319, 0, none⟩ = some (.int .i64 a0_0) := (blk_cell BK1319.out 0).trans rfl; have hcz39_1 : w38.cell? ⟨gb1319, 1, none⟩ = some (.slice A0_1 l0_1.length c0_1) := (blk_cell BK1319.out 1).trans rfl; have hcz39_2 : w38.cell? ⟨gb1319, 2, none⟩ = some (.slice A0_2 l0_2.length c0_2) := (blk_cell BK1319.out 2).trans rfl; have hcz39_3 : w38.cell? ⟨gb1319, 3, none⟩ = some (.slice A0_3 l0_3.length c0_3) := (blk_cell BK1319.out 3).trans rfl; have hcz39_4 : w38.cell? ⟨gb1319, 4, none⟩ = some (.int .i64 a0_4) := (blk_cell BK1319.out 4).trans rfl; have hfz39_0 := blk_frozen BK1319.out 0; have hfz39_1 := blk_frozen BK1319.out 1; have hfz39_2 := blk_frozen BK1319.out 2; have hfz39_3 := blk_frozen BK1319.out 3; have hfz39_4 := blk_frozen BK1319.out 4; have hcz40_0 : w38.cell? ⟨gb1320, 0, none⟩ = some (.int .i64 a1_0) := (blk_cell BK1320.out 0).trans rfl; have hcz40_1 : w38.cell? ⟨gb1320, 1, none⟩ = some (.slice A1_1 l1_1.length c1_1) := (blk_cell BK1320.out 1).trans rfl; have hcz40_2 : w38.cell? ⟨gb1320, 2, none⟩ = some (.slice A1_2 l1_2.length c1_2) := (blk_cell BK1320.out 2).trans rfl; have hcz40_3 : w38.cell? ⟨gb1320, 3, none⟩ = some (.slice A1_3 l1_3.length c1_3) := (blk_cell BK1320.out 3).trans rfl; have hcz40_4 : w38.cell? ⟨gb1320, 4, none⟩ = some (.int .i64 a1_4) := (blk_cell BK1320.out 4).trans rfl; have hfz40_0 := blk_frozen BK1320.out 0; have hfz40_1 := blk_frozen BK1320.out 1; have hfz40_2 := blk_frozen BK1320.out 2; have hfz40_3 := blk_frozen BK1320.out 3; have hfz40_4 := blk_frozen BK1320.out 4) | ((with_reducible refine gate_callee (f := 91) rfl ?_); refine goesL_ (some 20) rfl rfl Try.func91 (by kernel_rfl) rfl #[.slice A0_2 l0_2.length c0_2, .slice A1_2 l1_2.length c1_2] rfl (by (try simp only [List.map_toArray, List.map_cons, List.map_nil]); rfl) ?_; (with_reducible refine (laws_eqRowS.calls k _ _ l0_2 _ _ l1_2 true _ ?side1 ?side2 ?side3 ?side4 A6.out).mono ?_); (case side1 => repeat (exact (Kd.C_below HR0_2.out HB.out))); (case side2 => exact HC0_2.out); (case side3 => repeat (exact (Kd.C_below HR1_2.out HB.out))); (case side4 => exact HC1_2.out); rintro e w41 ⟨rfl, hb⟩; refine ⟨_, rfl, ?_⟩; have n0_ := Aside0.mk (blk_below (g := gb1319) (o := .cells #[.int .i64 a0_0, .slice A0_1 l0_1.length c0_1, .slice A0_2 l0_2.length c0_2, .slice A0_3 l0_3.length c0_3, .int .i64 a0_4] 40 (0, 0)) BK1319.out hb); have n1_ := Aside0.mk (blk_below (g := gb1320) (o := .cells #[.int .i64 a1_0, .slice A1_1 l1_1.length c1_1, .slice A1_2 l1_2.length c1_2, .slice A1_3 l1_3.length c1_3, .int .i64 a1_4] 40 (0, 0)) BK1320.out hb); have n2_ := Aside0.mk (below_step HB.out hb); clear BK1319; clear BK1320; clear HB; have BK1319 := n0_; have BK1320 := n1_; have HB := n2_; clear n0_ n1_ n2_; (try clear hb); have hcz42_0 : w41.cell? ⟨gb1319, 0, none⟩ = some (.int .i64 a0_0) := (blk_cell BK1319.out 0).trans rfl; have hcz42_1 : w41.cell? ⟨gb1319, 1, none⟩ = some (.slice A0_1 l0_1.length c0_1) := (blk_cell BK1319.out 1).trans rfl; have hcz42_2 : w41.cell? ⟨gb1319, 2, none⟩ = some (.slice A0_2 l0_2.length c0_2) := (blk_cell BK1319.out 2).trans rfl; have hcz42_3 : w41.cell? ⟨gb1319, 3, none⟩ = some (.slice A0_3 l0_3.length c0_3) := (blk_cell BK1319.out 3).trans rfl; have hcz42_4 : w41.cell? ⟨gb1319, 4, none⟩ = some (.int .i64 a0_4) := (blk_cell BK1319.out 4).trans rfl; have hfz42_0 := blk_frozen BK1319.out 0; have hfz42_1 := blk_frozen BK1319.out 1; have hfz42_2 := blk_frozen BK1319.out 2; have hfz42_3 := blk_frozen BK1319.out 3; have hfz42_4 := blk_frozen BK1319.out 4; have hcz43_0 : w41.cell? ⟨gb1320, 0, none⟩ = some (.int .i64 a1_0) := (blk_cell BK1320.out 0).trans rfl; have hcz43_1 : w41.cell? ⟨gb1320, 1, none⟩ = some (.slice A1_1 l1_1.length c1_1) := (blk_cell BK1320.out 1).trans rfl; have hcz43_2 : w41.cell? ⟨gb1320, 2, none⟩ = some (.slice A1_2 l1_2.length c1_2) := (blk_cell BK1320.out 2).trans rfl; have hcz43_3 : w41.cell? ⟨gb1320, 3, none⟩ = some (.slice A1_3 l1_3.length c1_3) := (blk_cell BK1320.out 3).trans rfl; have hcz43_4 : w41.cell? ⟨gb1320, 4, none⟩ = some (.int .i64 a1_4) := (blk_cell BK1320.out 4).trans rfl; have hfz43_0 := blk_frozen BK1320.out 0; have hfz43_1 := blk_frozen BK1320.out 1; have hfz43_2 := blk_frozen BK1320.out 2; have hfz43_3 := blk_frozen BK1320.out 3; have hfz43_4 := blk_frozen BK1320.out 4) | ((with_reducible refine gate_callee (f := 142) rfl ?_); refine goesL_ (some 26) rfl rfl Try.func142 (by kernel_rfl) rfl #[.slice A0_3 l0_3.length c0_3, .slice A1_3 l1_3.length c1_3] rfl (by (try simp only [List.map_toArray, List.map_cons, List.map_nil]); rfl) ?_; (with_reducible refine (laws_eqBoolS.calls k _ _ l0_3 _ _ l1_3 false _ ?side1 ?side2 ?side3 ?side4 A8.out).mono ?_); (case side1 => repeat (exact (Kd.C_below HR0_3.out HB.out))); (case side2 => exact HC0_3.out); (case side3 => repeat (exact (Kd.C_below HR1_3.out HB.out))); (case side4 => exact HC1_3.out); rintro e w' ⟨rfl, ⟨nd, rfl⟩⟩; refine ⟨_, rfl, ?_⟩))
     go_ret
     exact ⟨rfl, by repeat ((with_reducible first | exact HB.out | apply pw_below_drewN))⟩
   ·replace c7 := Bool.eq_false_iff.mpr c7
    subst c7
    rw [if_neg (show ¬ (false = true) by decide)] at H
    obtain rfl := Option.some.inj H
    go_enter Try.func42, Try.ntmps42
    go_wp2_with (first | ((with_reducible refine gate_dst (N := 2) rfl ?_); refine box_event ?hg (N := 2) ?hd (cs := #[.int .i64 a0_0, .slice A0_1 l0_1.length c0_1, .slice A0_2 l0_2.length c0_2, .slice A0_3 l0_3.length c0_3, .int .i64 a0_4]) (t := 40) ?hr ?_; (case hd => rfl); (case hg => rfl); (case hr => (go_simp; done)); intro gb1319 hg w44 hbox hb; have n0_ := Aside0.mk (below_step HB.out hb); have n1_ := Aside0.mk (hbox); have n2_ := Aside0.mk ((by rw [hg]; exact (below_size HB.out) : w.heap.size ≤ gb1319)); have n3_ := Aside0.mk ((by rw [hg]; exact (below_size HB.out) : w.heap.size ≤ gb1319)); clear HB; have HB := n0_; have BK1319 := n1_; have GW1319 := n2_; have GE1319 := n3_; clear n0_ n1_ n2_ n3_; clear hb hbox hg) | ((with_reducible refine gate_dst (N := 3) rfl ?_); refine box_event ?hg (N := 3) ?hd (cs := #[.int .i64 a1_0, .slice A1_1 l1_1.length c1_1, .slice A1_2 l1_2.length c1_2, .slice A1_3 l1_3.length c1_3, .int .i64 a1_4]) (t := 40) ?hr ?_; (case hd => rfl); (case hg => rfl); (case hr => (go_simp; done)); intro gb1320 hg w45 hbox hb; have n0_ := Aside0.mk (blk_below (g := gb1319) (o := .cells #[.int .i64 a0_0, .slice A0_1 l0_1.length c0_1, .slice A0_2 l0_2.length c0_2, .slice A0_3 l0_3.length c0_3, .int .i64 a0_4] 40 (0, 0)) BK1319.out hb); have n1_ := Aside0.mk (below_step HB.out hb); have n2_ := Aside0.mk (hbox); have n3_ := Aside0.mk ((by rw [hg]; exact (below_size HB.out) : w.heap.size ≤ gb1320)); have n4_ := Aside0.mk ((by rw [hg]; exact (below_size HB.out) : w.heap.size ≤ gb1320)); have n5_ := Aside0.mk ((by rw [hg]; exact Nat.ne_of_lt (blk_lt (g := gb1319) (o := .cells #[.int .i64 a0_0, .slice A0_1 l0_1.length c0_1, .slice A0_2 l0_2.length c0_2, .slice A0_3 l0_3.length c0_3, .int .i64 a0_4] 40 (0, 0)) BK1319.out) : gb1319 ≠ gb1320)); have n6_ := Aside0.mk ((by rw [hg]; exact Nat.ne_of_gt (blk_lt (g := gb1319) (o := .cells #[.int .i64 a0_0, .slice A0_1 l0_1.length c0_1, .slice A0_2 l0_2.length c0_2, .slice A0_3 l0_3.length c0_3, .int .i64 a0_4] 40 (0, 0)) BK1319.out) : gb1320 ≠ gb1319)); clear BK1319; clear HB; have BK1319 := n0_; have HB := n1_; have BK1320 := n2_; have GW1320 := n3_; have GE1320 := n4_; have NB1319_1320 := n5_; have NB1320_1319 := n6_; clear n0_ n1_ n2_ n3_ n4_ n5_ n6_; clear hb hbox hg; have hnb46 := NB1319_1320.out; have hnc46 := NB1320_1319.out; have hcz47_0 : w45.cell? ⟨gb1319, 0, none⟩ = some (.int .i64 a0_0) := (blk_cell BK1319.out 0).trans rfl; have hcz47_1 : w45.cell? ⟨gb1319, 1, none⟩ = some (.slice A0_1 l0_1.length c0_1) := (blk_cell BK1319.out 1).trans rfl; have hcz47_2 : w45.cell? ⟨gb1319, 2, none⟩ = some (.slice A0_2 l0_2.length c0_2) := (blk_cell BK1319.out 2).trans rfl; have hcz47_3 : w45.cell? ⟨gb1319, 3, none⟩ = some (.slice A0_3 l0_3.length c0_3) := (blk_cell BK1319.out 3).trans rfl; have hcz47_4 : w45.cell? ⟨gb1319, 4, none⟩ = some (.int .i64 a0_4) := (blk_cell BK1319.out 4).trans rfl; have hfz47_0 := blk_frozen BK1319.out 0; have hfz47_1 := blk_frozen BK1319.out 1; have hfz47_2 := blk_frozen BK1319.out 2; have hfz47_3 := blk_frozen BK1319.out 3; have hfz47_4 := blk_frozen BK1319.out 4; have hcz48_0 : w45.cell? ⟨gb1320, 0, none⟩ = some (.int .i64 a1_0) := (blk_cell BK1320.out 0).trans rfl; have hcz48_1 : w45.cell? ⟨gb1320, 1, none⟩ = some (.slice A1_1 l1_1.length c1_1) := (blk_cell BK1320.out 1).trans rfl; have hcz48_2 : w45.cell? ⟨gb1320, 2, none⟩ = some (.slice A1_2 l1_2.length c1_2) := (blk_cell BK1320.out 2).trans rfl; have hcz48_3 : w45.cell? ⟨gb1320, 3, none⟩ = some (.slice A1_3 l1_3.length c1_3) := (blk_cell BK1320.out 3).trans rfl; have hcz48_4 : w45.cell? ⟨gb1320, 4, none⟩ = some (.int .i64 a1_4) := (blk_cell BK1320.out 4).trans rfl; have hfz48_0 := blk_frozen BK1320.out 0; have hfz48_1 := blk_frozen BK1320.out 1; have hfz48_2 := blk_frozen BK1320.out 2; have hfz48_3 := blk_frozen BK1320.out 3; have hfz48_4 := blk_frozen BK1320.out 4) | ((with_reducible refine gate_callee (f := 91) rfl ?_); refine goesL_ (some 14) rfl rfl Try.func91 (by kernel_rfl) rfl #[.slice A0_1 l0_1.length c0_1, .slice A1_1 l1_1.length c1_1] rfl (by (try simp only [List.map_toArray, List.map_cons, List.map_nil]); rfl) ?_; (with_reducible refine (laws_eqRowS.calls k _ _ l0_1 _ _ l1_1 true _ ?side1 ?side2 ?side3 ?side4 A4.out).mono ?_); (case side1 => repeat (exact (Kd.C_below HR0_1.out HB.out))); (case side2 => exact HC0_1.out); (case side3 => repeat (exact (Kd.C_below HR1_1.out HB.out))); (case side4 => exact HC1_1.out); rintro e w49 ⟨rfl, hb⟩; refine ⟨_, rfl, ?_⟩; have n0_ := Aside0.mk (blk_below (g := gb1319) (o := .cells #[.int .i64 a0_0, .slice A0_1 l0_1.length c0_1, .slice A0_2 l0_2.length c0_2, .slice A0_3 l0_3.length c0_3, .int .i64 a0_4] 40 (0, 0)) BK1319.out hb); have n1_ := Aside0.mk (blk_below (g := gb1320) (o := .cells #[.int .i64 a1_0, .slice A1_1 l1_1.length c1_1, .slice A1_2 l1_2.length c1_2, .slice A1_3 l1_3.length c1_3, .int .i64 a1_4] 40 (0, 0)) BK1320.out hb); have n2_ := Aside0.mk (below_step HB.out hb); clear BK1319; clear BK1320; clear HB; have BK1319 := n0_; have BK1320 := n1_; have HB := n2_; clear n0_ n1_ n2_; (try clear hb); have hcz50_0 : w49.cell? ⟨gb1319, 0, none⟩ = some (.int .i64 a0_0) := (blk_cell BK1319.out 0).trans rfl; have hcz50_1 : w49.cell? ⟨gb1319, 1, none⟩ = some (.slice A0_1 l0_1.length c0_1) := (blk_cell BK1319.out 1).trans rfl; have hcz50_2 : w49.cell? ⟨gb1319, 2, none⟩ = some (.slice A0_2 l0_2.length c0_2) := (blk_cell BK1319.out 2).trans rfl; have hcz50_3 : w49.cell? ⟨gb1319, 3, none⟩ = some (.slice A0_3 l0_3.length c0_3) := (blk_cell BK1319.out 3).trans rfl; have hcz50_4 : w49.cell? ⟨gb1319, 4, none⟩ = some (.int .i64 a0_4) := (blk_cell BK1319.out 4).trans rfl; have hfz50_0 := blk_frozen BK1319.out 0; have hfz50_1 := blk_frozen BK1319.out 1; have hfz50_2 := blk_frozen BK1319.out 2; have hfz50_3 := blk_frozen BK1319.out 3; have hfz50_4 := blk_frozen BK1319.out 4; have hcz51_0 : w49.cell? ⟨gb1320, 0, none⟩ = some (.int .i64 a1_0) := (blk_cell BK1320.out 0).trans rfl; have hcz51_1 : w49.cell? ⟨gb1320, 1, none⟩ = some (.slice A1_1 l1_1.length c1_1) := (blk_cell BK1320.out 1).trans rfl; have hcz51_2 : w49.cell? ⟨gb1320, 2, none⟩ = some (.slice A1_2 l1_2.length c1_2) := (blk_cell BK1320.out 2).trans rfl; have hcz51_3 : w49.cell? ⟨gb1320, 3, none⟩ = some (.slice A1_3 l1_3.length c1_3) := (blk_cell BK1320.out 3).trans rfl; have hcz51_4 : w49.cell? ⟨gb1320, 4, none⟩ = some (.int .i64 a1_4) := (blk_cell BK1320.out 4).trans rfl; have hfz51_0 := blk_frozen BK1320.out 0; have hfz51_1 := blk_frozen BK1320.out 1; have hfz51_2 := blk_frozen BK1320.out 2; have hfz51_3 := blk_frozen BK1320.out 3; have hfz51_4 := blk_frozen BK1320.out 4) | ((with_reducible refine gate_callee (f := 91) rfl ?_); refine goesL_ (some 20) rfl rfl Try.func91 (by kernel_rfl) rfl #[.slice A0_2 l0_2.length c0_2, .slice A1_2 l1_2.length c1_2] rfl (by (try simp only [List.map_toArray, List.map_cons, List.map_nil]); rfl) ?_; (with_reducible refine (laws_eqRowS.calls k _ _ l0_2 _ _ l1_2 false _ ?side1 ?side2 ?side3 ?side4 A6.out).mono ?_); (case side1 => repeat (exact (Kd.C_below HR0_2.out HB.out))); (case side2 => exact HC0_2.out); (case side3 => repeat (exact (Kd.C_below HR1_2.out HB.out))); (case side4 => exact HC1_2.out); rintro e w52 ⟨rfl, hb⟩; refine ⟨_, rfl, ?_⟩; have n0_ := Aside0.mk (blk_below (g := gb1319) (o := .cells #[.int .i64 a0_0, .slice A0_1 l0_1.length c0_1, .slice A0_2 l0_2.length c0_2, .slice A0_3 l0_3.length c0_3, .int .i64 a0_4] 40 (0, 0)) BK1319.out hb); have n1_ := Aside0.mk (blk_below (g := gb1320) (o := .cells #[.int .i64 a1_0, .slice A1_1 l1_1.length c1_1, .slice A1_2 l1_2.length c1_2, .slice A1_3 l1_3.length c1_3, .int .i64 a1_4] 40 (0, 0)) BK1320.out hb); have n2_ := Aside0.mk (below_step HB.out hb); clear BK1319; clear BK1320; clear HB; have BK1319 := n0_; have BK1320 := n1_; have HB := n2_; clear n0_ n1_ n2_; (try clear hb)))
    go_ret
    exact ⟨rfl, HB.out⟩
  ·replace c5 := Bool.eq_false_iff.mpr c5
   subst c5
   rw [if_neg (show ¬ (false = true) by decide)] at H
   obtain rfl := Option.some.inj H
   go_enter Try.func42, Try.ntmps42
   go_wp2_with (first | ((with_reducible refine gate_dst (N := 2) rfl ?_); refine box_event ?hg (N := 2) ?hd (cs := #[.int .i64 a0_0, .slice A0_1 l0_1.length c0_1, .slice A0_2 l0_2.length c0_2, .slice A0_3 l0_3.length c0_3, .int .i64 a0_4]) (t := 40) ?hr ?_; (case hd => rfl); (case hg => rfl); (case hr => (go_simp; done)); intro gb1319 hg w53 hbox hb; have n0_ := Aside0.mk (below_step HB.out hb); have n1_ := Aside0.mk (hbox); have n2_ := Aside0.mk ((by rw [hg]; exact (below_size HB.out) : w.heap.size ≤ gb1319)); have n3_ := Aside0.mk ((by rw [hg]; exact (below_size HB.out) : w.heap.size ≤ gb1319)); clear HB; have HB := n0_; have BK1319 := n1_; have GW1319 := n2_; have GE1319 := n3_; clear n0_ n1_ n2_ n3_; clear hb hbox hg) | ((with_reducible refine gate_dst (N := 3) rfl ?_); refine box_event ?hg (N := 3) ?hd (cs := #[.int .i64 a1_0, .slice A1_1 l1_1.length c1_1, .slice A1_2 l1_2.length c1_2, .slice A1_3 l1_3.length c1_3, .int .i64 a1_4]) (t := 40) ?hr ?_; (case hd => rfl); (case hg => rfl); (case hr => (go_simp; done)); intro gb1320 hg w54 hbox hb; have n0_ := Aside0.mk (blk_below (g := gb1319) (o := .cells #[.int .i64 a0_0, .slice A0_1 l0_1.length c0_1, .slice A0_2 l0_2.length c0_2, .slice A0_3 l0_3.length c0_3, .int .i64 a0_4] 40 (0, 0)) BK1319.out hb); have n1_ := Aside0.mk (below_step HB.out hb); have n2_ := Aside0.mk (hbox); have n3_ := Aside0.mk ((by rw [hg]; exact (below_size HB.out) : w.heap.size ≤ gb1320)); have n4_ := Aside0.mk ((by rw [hg]; exact (below_size HB.out) : w.heap.size ≤ gb1320)); have n5_ := Aside0.mk ((by rw [hg]; exact Nat.ne_of_lt (blk_lt (g := gb1319) (o := .cells #[.int .i64 a0_0, .slice A0_1 l0_1.length c0_1, .slice A0_2 l0_2.length c0_2, .slice A0_3 l0_3.length c0_3, .int .i64 a0_4] 40 (0, 0)) BK1319.out) : gb1319 ≠ gb1320)); have n6_ := Aside0.mk ((by rw [hg]; exact Nat.ne_of_gt (blk_lt (g := gb1319) (o := .cells #[.int .i64 a0_0, .slice A0_1 l0_1.length c0_1, .slice A0_2 l0_2.length c0_2, .slice A0_3 l0_3.length c0_3, .int .i64 a0_4] 40 (0, 0)) BK1319.out) : gb1320 ≠ gb1319)); clear BK1319; clear HB; have BK1319 := n0_; have HB := n1_; have BK1320 := n2_; have GW1320 := n3_; have GE1320 := n4_; have NB1319_1320 := n5_; have NB1320_1319 := n6_; clear n0_ n1_ n2_ n3_ n4_ n5_ n6_; clear hb hbox hg; have hnb55 := NB1319_1320.out; have hnc55 := NB1320_1319.out; have hcz56_0 : w54.cell? ⟨gb1319, 0, none⟩ = some (.int .i64 a0_0) := (blk_cell BK1319.out 0).trans rfl; have hcz56_1 : w54.cell? ⟨gb1319, 1, none⟩ = some (.slice A0_1 l0_1.length c0_1) := (blk_cell BK1319.out 1).trans rfl; have hcz56_2 : w54.cell? ⟨gb1319, 2, none⟩ = some (.slice A0_2 l0_2.length c0_2) := (blk_cell BK1319.out 2).trans rfl; have hcz56_3 : w54.cell? ⟨gb1319, 3, none⟩ = some (.slice A0_3 l0_3.length c0_3) := (blk_cell BK1319.out 3).trans rfl; have hcz56_4 : w54.cell? ⟨gb1319, 4, none⟩ = some (.int .i64 a0_4) := (blk_cell BK1319.out 4).trans rfl; have hfz56_0 := blk_frozen BK1319.out 0; have hfz56_1 := blk_frozen BK1319.out 1; have hfz56_2 := blk_frozen BK1319.out 2; have hfz56_3 := blk_frozen BK1319.out 3; have hfz56_4 := blk_frozen BK1319.out 4; have hcz57_0 : w54.cell? ⟨gb1320, 0, none⟩ = some (.int .i64 a1_0) := (blk_cell BK1320.out 0).trans rfl; have hcz57_1 : w54.cell? ⟨gb1320, 1, none⟩ = some (.slice A1_1 l1_1.length c1_1) := (blk_cell BK1320.out 1).trans rfl; have hcz57_2 : w54.cell? ⟨gb1320, 2, none⟩ = some (.slice A1_2 l1_2.length c1_2) := (blk_cell BK1320.out 2).trans rfl; have hcz57_3 : w54.cell? ⟨gb1320, 3, none⟩ = some (.slice A1_3 l1_3.length c1_3) := (blk_cell BK1320.out 3).trans rfl; have hcz57_4 : w54.cell? ⟨gb1320, 4, none⟩ = some (.int .i64 a1_4) := (blk_cell BK1320.out 4).trans rfl; have hfz57_0 := blk_frozen BK1320.out 0; have hfz57_1 := blk_frozen BK1320.out 1; have hfz57_2 := blk_frozen BK1320.out 2; have hfz57_3 := blk_frozen BK1320.out 3; have hfz57_4 := blk_frozen BK1320.out 4) | ((with_reducible refine gate_callee (f := 91) rfl ?_); refine goesL_ (some 14) rfl rfl Try.func91 (by kernel_rfl) rfl #[.slice A0_1 l0_1.length c0_1, .slice A1_1 l1_1.length c1_1] rfl (by (try simp only [List.map_toArray, List.map_cons, List.map_nil]); rfl) ?_; (with_reducible refine (laws_eqRowS.calls k _ _ l0_1 _ _ l1_1 false _ ?side1 ?side2 ?side3 ?side4 A4.out).mono ?_); (case side1 => repeat (exact (Kd.C_below HR0_1.out HB.out))); (case side2 => exact HC0_1.out); (case side3 => repeat (exact (Kd.C_below HR1_1.out HB.out))); (case side4 => exact HC1_1.out); rintro e w58 ⟨rfl, hb⟩; refine ⟨_, rfl, ?_⟩; have n0_ := Aside0.mk (blk_below (g := gb1319) (o := .cells #[.int .i64 a0_0, .slice A0_1 l0_1.length c0_1, .slice A0_2 l0_2.length c0_2, .slice A0_3 l0_3.length c0_3, .int .i64 a0_4] 40 (0, 0)) BK1319.out hb); have n1_ := Aside0.mk (blk_below (g := gb1320) (o := .cells #[.int .i64 a1_0, .slice A1_1 l1_1.length c1_1, .slice A1_2 l1_2.length c1_2, .slice A1_3 l1_3.length c1_3, .int .i64 a1_4] 40 (0, 0)) BK1320.out hb); have n2_ := Aside0.mk (below_step HB.out hb); clear BK1319; clear BK1320; clear HB; have BK1319 := n0_; have BK1320 := n1_; have HB := n2_; clear n0_ n1_ n2_; (try clear hb)))
   go_ret
   exact ⟨rfl, HB.out⟩
 ·rw [if_neg c3] at H
  have c3b0 : (a0_0 == a1_0) = false := beq_eq_false_iff_ne.mpr c3
  have c3b1 : (a0_0 != a1_0) = true := bne_iff_ne.mpr c3
  obtain rfl := Option.some.inj H
  go_enter Try.func42, Try.ntmps42
  go_wp2_with (first | ((with_reducible refine gate_dst (N := 2) rfl ?_); refine box_event ?hg (N := 2) ?hd (cs := #[.int .i64 a0_0, .slice A0_1 l0_1.length c0_1, .slice A0_2 l0_2.length c0_2, .slice A0_3 l0_3.length c0_3, .int .i64 a0_4]) (t := 40) ?hr ?_; (case hd => rfl); (case hg => rfl); (case hr => (go_simp; done)); intro gb1319 hg w59 hbox hb; have n0_ := Aside0.mk (below_step HB.out hb); have n1_ := Aside0.mk (hbox); have n2_ := Aside0.mk ((by rw [hg]; exact (below_size HB.out) : w.heap.size ≤ gb1319)); have n3_ := Aside0.mk ((by rw [hg]; exact (below_size HB.out) : w.heap.size ≤ gb1319)); clear HB; have HB := n0_; have BK1319 := n1_; have GW1319 := n2_; have GE1319 := n3_; clear n0_ n1_ n2_ n3_; clear hb hbox hg) | ((with_reducible refine gate_dst (N := 3) rfl ?_); refine box_event ?hg (N := 3) ?hd (cs := #[.int .i64 a1_0, .slice A1_1 l1_1.length c1_1, .slice A1_2 l1_2.length c1_2, .slice A1_3 l1_3.length c1_3, .int .i64 a1_4]) (t := 40) ?hr ?_; (case hd => rfl); (case hg => rfl); (case hr => (go_simp; done)); intro gb1320 hg w60 hbox hb; have n0_ := Aside0.mk (blk_below (g := gb1319) (o := .cells #[.int .i64 a0_0, .slice A0_1 l0_1.length c0_1, .slice A0_2 l0_2.length c0_2, .slice A0_3 l0_3.length c0_3, .int .i64 a0_4] 40 (0, 0)) BK1319.out hb); have n1_ := Aside0.mk (below_step HB.out hb); have n2_ := Aside0.mk (hbox); have n3_ := Aside0.mk ((by rw [hg]; exact (below_size HB.out) : w.heap.size ≤ gb1320)); have n4_ := Aside0.mk ((by rw [hg]; exact (below_size HB.out) : w.heap.size ≤ gb1320)); have n5_ := Aside0.mk ((by rw [hg]; exact Nat.ne_of_lt (blk_lt (g := gb1319) (o := .cells #[.int .i64 a0_0, .slice A0_1 l0_1.length c0_1, .slice A0_2 l0_2.length c0_2, .slice A0_3 l0_3.length c0_3, .int .i64 a0_4] 40 (0, 0)) BK1319.out) : gb1319 ≠ gb1320)); have n6_ := Aside0.mk ((by rw [hg]; exact Nat.ne_of_gt (blk_lt (g := gb1319) (o := .cells #[.int .i64 a0_0, .slice A0_1 l0_1.length c0_1, .slice A0_2 l0_2.length c0_2, .slice A0_3 l0_3.length c0_3, .int .i64 a0_4] 40 (0, 0)) BK1319.out) : gb1320 ≠ gb1319)); clear BK1319; clear HB; have BK1319 := n0_; have HB := n1_; have BK1320 := n2_; have GW1320 := n3_; have GE1320 := n4_; have NB1319_1320 := n5_; have NB1320_1319 := n6_; clear n0_ n1_ n2_ n3_ n4_ n5_ n6_; clear hb hbox hg; have hnb61 := NB1319_1320.out; have hnc61 := NB1320_1319.out; have hcz62_0 : w60.cell? ⟨gb1319, 0, none⟩ = some (.int .i64 a0_0) := (blk_cell BK1319.out 0).trans rfl; have hcz62_1 : w60.cell? ⟨gb1319, 1, none⟩ = some (.slice A0_1 l0_1.length c0_1) := (blk_cell BK1319.out 1).trans rfl; have hcz62_2 : w60.cell? ⟨gb1319, 2, none⟩ = some (.slice A0_2 l0_2.length c0_2) := (blk_cell BK1319.out 2).trans rfl; have hcz62_3 : w60.cell? ⟨gb1319, 3, none⟩ = some (.slice A0_3 l0_3.length c0_3) := (blk_cell BK1319.out 3).trans rfl; have hcz62_4 : w60.cell? ⟨gb1319, 4, none⟩ = some (.int .i64 a0_4) := (blk_cell BK1319.out 4).trans rfl; have hfz62_0 := blk_frozen BK1319.out 0; have hfz62_1 := blk_frozen BK1319.out 1; have hfz62_2 := blk_frozen BK1319.out 2; have hfz62_3 := blk_frozen BK1319.out 3; have hfz62_4 := blk_frozen BK1319.out 4; have hcz63_0 : w60.cell? ⟨gb1320, 0, none⟩ = some (.int .i64 a1_0) := (blk_cell BK1320.out 0).trans rfl; have hcz63_1 : w60.cell? ⟨gb1320, 1, none⟩ = some (.slice A1_1 l1_1.length c1_1) := (blk_cell BK1320.out 1).trans rfl; have hcz63_2 : w60.cell? ⟨gb1320, 2, none⟩ = some (.slice A1_2 l1_2.length c1_2) := (blk_cell BK1320.out 2).trans rfl; have hcz63_3 : w60.cell? ⟨gb1320, 3, none⟩ = some (.slice A1_3 l1_3.length c1_3) := (blk_cell BK1320.out 3).trans rfl; have hcz63_4 : w60.cell? ⟨gb1320, 4, none⟩ = some (.int .i64 a1_4) := (blk_cell BK1320.out 4).trans rfl; have hfz63_0 := blk_frozen BK1320.out 0; have hfz63_1 := blk_frozen BK1320.out 1; have hfz63_2 := blk_frozen BK1320.out 2; have hfz63_3 := blk_frozen BK1320.out 3; have hfz63_4 := blk_frozen BK1320.out 4))
  go_ret
  exact ⟨rfl, HB.out⟩

def laws_eqTaskS.l0 : Nat → List (S40) → List (S40) → Int → Option (Bool)
 | 0, _, _, _ => none
 | k + 1, x0, x1, x5 => if x5 < (x0.length : Int) then (if 0 ≤ x5 then (if x5 < (x1.length : Int) then ((laws_eqTask.f k ((rd_T40 x0 x5).f0) ((rd_T40 x0 x5).f1) ((rd_T40 x0 x5).f2) ((rd_T40 x0 x5).f3) ((rd_T40 x0 x5).f4) ((rd_T40 x1 x5).f0) ((rd_T40 x1 x5).f1) ((rd_T40 x1 x5).f2) ((rd_T40 x1 x5).f3) ((rd_T40 x1 x5).f4)).bind fun t1617 => (if t1617 = true then (laws_eqTaskS.l0 k x0 x1 (wrap64 (x5 + 1))) else (some false))) else (none)) else (none)) else (some true)
def laws_eqTaskS.f (k : Nat) (l0 : List (S40)) (l1 : List (S40)) : Option (Bool) := if (l0.length : Int) = (l1.length : Int) then (laws_eqTaskS.l0 k l0 l1 0) else (some false)
def laws_eqTaskS.T6 : Bool × List (List Nat × List Nat) := (true, [([], []), ([], []), ([0, 1], [0, 1]), ([2], [2]), ([], []), ([], []), ([4, 5], [4, 5]), ([6], [6]), ([3, 7], [3, 7]), ([8], [8])])
def laws_eqTaskS.B6 : List Nat := [0, 0, 3, 7, 0, 0, 48, 112, 255, 511]
theorem laws_eqTaskS.tab6 : rtab .any (opsOf Try.f151 6) = laws_eqTaskS.T6 := by kernel_rfl
theorem laws_eqTaskS.bits6 : waitsOk laws_eqTaskS.T6.2 laws_eqTaskS.B6 = true := by kernel_rfl
theorem laws_eqTaskS.calls (k : Nat) (A0 : Option Addr) (c0 : Nat) (l0 : List (S40)) (A1 : Option Addr) (c1 : Nat) (l1 : List (S40)) (r : Bool) (w : World) (hr0 : Kd.C k40 w A0 l0.length l0) (hc0 : l0.length ≤ c0) (hr1 : Kd.C k40 w A1 l1.length l1) (hc1 : l1.length ≤ c1) (h : laws_eqTaskS.f k l0 l1 = some r) :
  Calls Try.prog 151 #[.slice A0 l0.length c0, .slice A1 l1.length c1] w fun e w' => e = .returned (.bool r) ∧ Below w.heap.size w w' := by
 have hu40 := Try.underlying40
 have HR0 := Aside0.mk hr0
 have HC0 := Aside0.mk hc0
 clear hr0 hc0
 have HR1 := Aside0.mk hr1
 have HC1 := Aside0.mk hc1
 clear hr1 hc1
 have HB := Aside0.mk (Below.refl w.heap.size w)
 have H : (if (l0.length : Int) = (l1.length : Int) then (laws_eqTaskS.l0 k l0 l1 0) else (some false)) = some r := h
 clear h
 by_cases c3 : (l0.length : Int) = (l1.length : Int)
 ·rw [if_pos c3] at H
  have c3b0 : ((l0.length : Int) == (l1.length : Int)) = true := beq_iff_eq.mpr c3
  have c3b1 : ((l0.length : Int) != (l1.length : Int)) = false := bne_eq_false_iff_eq.mpr c3
  have c3b2 : (l0.length == l1.length) = true := by (simp at c3 ⊢; omega)
  clear c3
  have H' := Aside0.mk H
  clear H
  go_enter Try.func151, Try.ntmps151
  go_wp2
  go_loopg [5] k (fun kq v5 w' => ∃ (x5_1 : Int), v5 = .int .i64 x5_1 ∧ Aside0 (laws_eqTaskS.l0 kq l0 l1 x5_1 = some r) ∧ Aside0 (kq ≤ k) ∧ Aside0 (Below w.heap.size w w'))
  case atStart => exact ⟨(0), rfl, H', ⟨Nat.le_refl _⟩, ⟨HB.out⟩⟩
  case round =>
   clear H'
   try clear c3b0
   try clear c3b1
   try clear c3b2
   obtain ⟨x5_1, rfl, HA, HK1, HB⟩ := hrel
   cases gk with
   | zero => exact absurd HA.out (by simp [laws_eqTaskS.l0])
   | succ k1 =>
    have H := HA.out
    clear HA
    simp only [laws_eqTaskS.l0] at H
    by_cases c4 : x5_1 < (l0.length : Int)
    ·rw [if_pos c4] at H
     have c4b0 : decide (x5_1 < (l0.length : Int)) = true := decide_eq_true c4
     clear c4
     by_cases c5 : 0 ≤ x5_1
     ·rw [if_pos c5] at H
      have c5b0 : decide (0 ≤ x5_1) = true := decide_eq_true c5
      clear c5
      by_cases c6 : x5_1 < (l1.length : Int)
      ·rw [if_pos c6] at H
       have c6b0 : decide (x5_1 < (l1.length : Int)) = true := decide_eq_true c6
       clear c6
       replace H := Option.bind_eq_some_iff.mp H
       obtain ⟨t1617, A70, H⟩ := H
       have A7 := Aside0.mk A70
       clear A70
       by_cases c8 : t1617 = true
       ·subst c8
        rw [if_pos rfl] at H
        have H' := Aside0.mk H
        clear H
        try go_wp2
        have n0_ := Aside0.mk (below_drew1 HB.out)
        clear HB
        have HB := n0_
        clear n0_
        have p1615 : 0 ≤ (x5_1 : Int) := of_decide_eq_true (by (with_reducible assumption))
        have q1615 : x5_1 < (l0.length : Int) := of_decide_eq_true (by (with_reducible assumption))
        obtain ⟨ad1615, A1615_1, c1615_1, A1615_2, c1615_2, A1615_3, c1615_3, e1615, hx1615_0, hx1615_1, hx1615_2, hx1615_3, hx1615_4, hl1615_1, hi1615_1, hl1615_2, hi1615_2, hl1615_3, hi1615_3⟩ := at_T40 HR0.out x5_1 p1615 q1615
        have hw1615_4 := hx1615_4
        have hw1615_3 := hx1615_3
        have hw1615_2 := hx1615_2
        have hw1615_1 := hx1615_1
        have hw1615_0 := hx1615_0
        cases e1615
        replace hx1615_0 := (HB.out.cell (World.block_lt_of_cell? w _ hx1615_0)).trans hx1615_0
        replace hx1615_1 := (HB.out.cell (World.block_lt_of_cell? w _ hx1615_1)).trans hx1615_1
        replace hx1615_2 := (HB.out.cell (World.block_lt_of_cell? w _ hx1615_2)).trans hx1615_2
        replace hx1615_3 := (HB.out.cell (World.block_lt_of_cell? w _ hx1615_3)).trans hx1615_3
        replace hx1615_4 := (HB.out.cell (World.block_lt_of_cell? w _ hx1615_4)).trans hx1615_4
        have HR1615_1 := Aside0.mk hi1615_1
        have HC1615_1 := Aside0.mk hl1615_1
        clear hi1615_1 hl1615_1
        have HR1615_2 := Aside0.mk hi1615_2
        have HC1615_2 := Aside0.mk hl1615_2
        clear hi1615_2 hl1615_2
        have HR1615_3 := Aside0.mk hi1615_3
        have HC1615_3 := Aside0.mk hl1615_3
        clear hi1615_3 hl1615_3
        replace p1615 := eq_true p1615
        replace q1615 := eq_true q1615
        have p1616 : 0 ≤ (x5_1 : Int) := of_decide_eq_true (by (with_reducible assumption))
        have q1616 : x5_1 < (l1.length : Int) := of_decide_eq_true (by (with_reducible assumption))
        obtain ⟨ad1616, A1616_1, c1616_1, A1616_2, c1616_2, A1616_3, c1616_3, e1616, hx1616_0, hx1616_1, hx1616_2, hx1616_3, hx1616_4, hl1616_1, hi1616_1, hl1616_2, hi1616_2, hl1616_3, hi1616_3⟩ := at_T40 HR1.out x5_1 p1616 q1616
        have hw1616_4 := hx1616_4
        have hw1616_3 := hx1616_3
        have hw1616_2 := hx1616_2
        have hw1616_1 := hx1616_1
        have hw1616_0 := hx1616_0
        cases e1616
        replace hx1616_0 := (HB.out.cell (World.block_lt_of_cell? w _ hx1616_0)).trans hx1616_0
        replace hx1616_1 := (HB.out.cell (World.block_lt_of_cell? w _ hx1616_1)).trans hx1616_1
        replace hx1616_2 := (HB.out.cell (World.block_lt_of_cell? w _ hx1616_2)).trans hx1616_2
        replace hx1616_3 := (HB.out.cell (World.block_lt_of_cell? w _ hx1616_3)).trans hx1616_3
        replace hx1616_4 := (HB.out.cell (World.block_lt_of_cell? w _ hx1616_4)).trans hx1616_4
        have HR1616_1 := Aside0.mk hi1616_1
        have HC1616_1 := Aside0.mk hl1616_1
        clear hi1616_1 hl1616_1
        have HR1616_2 := Aside0.mk hi1616_2
        have HC1616_2 := Aside0.mk hl1616_2
        clear hi1616_2 hl1616_2
        have HR1616_3 := Aside0.mk hi1616_3
        have HC1616_3 := Aside0.mk hl1616_3
        clear hi1616_3 hl1616_3
        replace p1616 := eq_true p1616
        replace q1616 := eq_true q1616
        refine start_ (n := 10) (S := fun w' => w'.cell? (ad1615.add ((x5_1).toNat * 5)) = some (.int .i64 ((rd_T40 l0 x5_1).f0)) ∧ w'.cell? ⟨(ad1615.add ((x5_1).toNat * 5)).block, (ad1615.add ((x5_1).toNat * 5)).off + 1, none⟩ = some (.slice A1615_1 ((rd_T40 l0 x5_1).f1).length c1615_1) ∧ w'.cell? ⟨(ad1615.add ((x5_1).toNat * 5)).block, (ad1615.add ((x5_1).toNat * 5)).off + 2, none⟩ = some (.slice A1615_2 ((rd_T40 l0 x5_1).f2).length c1615_2) ∧ w'.cell? ⟨(ad1615.add ((x5_1).toNat * 5)).block, (ad1615.add ((x5_1).toNat * 5)).off + 3, none⟩ = some (.slice A1615_3 ((rd_T40 l0 x5_1).f3).length c1615_3) ∧ w'.cell? ⟨(ad1615.add ((x5_1).toNat * 5)).block, (ad1615.add ((x5_1).toNat * 5)).off + 4, none⟩ = some (.int .i64 ((rd_T40 l0 x5_1).f4)) ∧ w'.cell? (ad1616.add ((x5_1).toNat * 5)) = some (.int .i64 ((rd_T40 l1 x5_1).f0)) ∧ w'.cell? ⟨(ad1616.add ((x5_1).toNat * 5)).block, (ad1616.add ((x5_1).toNat * 5)).off + 1, none⟩ = some (.slice A1616_1 ((rd_T40 l1 x5_1).f1).length c1616_1) ∧ w'.cell? ⟨(ad1616.add ((x5_1).toNat * 5)).block, (ad1616.add ((x5_1).toNat * 5)).off + 2, none⟩ = some (.slice A1616_2 ((rd_T40 l1 x5_1).f2).length c1616_2) ∧ w'.cell? ⟨(ad1616.add ((x5_1).toNat * 5)).block, (ad1616.add ((x5_1).toNat * 5)).off + 3, none⟩ = some (.slice A1616_3 ((rd_T40 l1 x5_1).f3).length c1616_3) ∧ w'.cell? ⟨(ad1616.add ((x5_1).toNat * 5)).block, (ad1616.add ((x5_1).toNat * 5)).off + 4, none⟩ = some (.int .i64 ((rd_T40 l1 x5_1).f4))) (ds := []) #[false, false, false, false, false, false, false, false, false, false] (by kernel_rfl) rfl rfl ⟨((HB.out.cell (World.block_lt_of_cell? w _ hw1615_0)).trans hw1615_0), ((HB.out.cell (World.block_lt_of_cell? w _ hw1615_1)).trans hw1615_1), ((HB.out.cell (World.block_lt_of_cell? w _ hw1615_2)).trans hw1615_2), ((HB.out.cell (World.block_lt_of_cell? w _ hw1615_3)).trans hw1615_3), ((HB.out.cell (World.block_lt_of_cell? w _ hw1615_4)).trans hw1615_4), ((HB.out.cell (World.block_lt_of_cell? w _ hw1616_0)).trans hw1616_0), ((HB.out.cell (World.block_lt_of_cell? w _ hw1616_1)).trans hw1616_1), ((HB.out.cell (World.block_lt_of_cell? w _ hw1616_2)).trans hw1616_2), ((HB.out.cell (World.block_lt_of_cell? w _ hw1616_3)).trans hw1616_3), ((HB.out.cell (World.block_lt_of_cell? w _ hw1616_4)).trans hw1616_4)⟩ (fun hHeld => ?_); refine with_tabW laws_eqTaskS.tab6 laws_eqTaskS.bits6 (fun HT_ HW_ => ?_)
        generalize wr.drew = w9 at HB HR1615_1 HR1615_2 HR1615_3 HR1616_1 HR1616_2 HR1616_3 hx1615_0 hx1615_1 hx1615_2 hx1615_3 hx1615_4 hx1616_0 hx1616_1 hx1616_2 hx1616_3 hx1616_4 hHeld ⊢
        refine pure_ (i := 0) (N := some 17) (v := ?_) (a' := ?_) #[true, false, false, false, false, false, false, false, false, false] rfl rfl (any_of HT_.out (by kernel_rfl)) (fun _ _ _ h => h) (Or.inl ⟨rfl, ?_⟩) ?_ ?_
        rotate_left
        ·intro w'
         go_simp
         with_reducible rfl
        rotate_left
        ·simp only [Act.put, List.setIfInBounds_toArray, List.set_cons_zero, List.set_cons_succ, i64_w, i32_w]
         rfl
        refine pure_ (i := 1) (N := some 18) (v := ?_) (a' := ?_) #[true, true, false, false, false, false, false, false, false, false] rfl rfl (any_of HT_.out (by kernel_rfl)) (fun _ _ _ h => h) (Or.inl ⟨rfl, ?_⟩) ?_ ?_
        rotate_left
        ·intro w'
         go_simp
         with_reducible rfl
        rotate_left
        ·simp only [Act.put, List.setIfInBounds_toArray, List.set_cons_zero, List.set_cons_succ, i64_w, i32_w]
         rfl
        refine pure_ (i := 2) (N := some 19) (v := ?_) (a' := ?_) #[true, true, true, false, false, false, false, false, false, false] rfl rfl (any_of HT_.out (by kernel_rfl)) (fun _ _ _ h => h) (Or.inl ⟨rfl, ?_⟩) ?_ ?_
        rotate_left
        ·intro w'
         go_simp
         with_reducible rfl
        rotate_left
        ·simp only [Act.put, List.setIfInBounds_toArray, List.set_cons_zero, List.set_cons_succ, i64_w, i32_w]
         rfl
        refine pure_ (i := 4) (N := some 21) (v := ?_) (a' := ?_) #[true, true, true, false, true, false, false, false, false, false] rfl rfl (any_of HT_.out (by kernel_rfl)) (fun _ _ _ h => h) (Or.inl ⟨rfl, ?_⟩) ?_ ?_
        rotate_left
        ·intro w'
         go_simp
         with_reducible rfl
        rotate_left
        ·simp only [Act.put, List.setIfInBounds_toArray, List.set_cons_zero, List.set_cons_succ, i64_w, i32_w]
         rfl
        refine pure_ (i := 5) (N := some 22) (v := ?_) (a' := ?_) #[true, true, true, false, true, true, false, false, false, false] rfl rfl (any_of HT_.out (by kernel_rfl)) (fun _ _ _ h => h) (Or.inl ⟨rfl, ?_⟩) ?_ ?_
        rotate_left
        ·intro w'
         go_simp
         with_reducible rfl
        rotate_left
        ·simp only [Act.put, List.setIfInBounds_toArray, List.set_cons_zero, List.set_cons_succ, i64_w, i32_w]
         rfl
        refine pure_ (i := 6) (N := some 23) (v := ?_) (a' := ?_) #[true, true, true, false, true, true, true, false, false, false] rfl rfl (any_of HT_.out (by kernel_rfl)) (fun _ _ _ h => h) (Or.inl ⟨rfl, ?_⟩) ?_ ?_
        rotate_left
        ·intro w'
         go_simp
         with_reducible rfl
        rotate_left
        ·simp only [Act.put, List.setIfInBounds_toArray, List.set_cons_zero, List.set_cons_succ, i64_w, i32_w]
         rfl
        refine take_ (i := 3) (N := some 20) (v := ?_) (a' := ?_) #[true, true, true, true, true, true, true, false, false, false] rfl rfl (take_ofW HT_.out HW_.out (by kernel_rfl)) (fun _ _ _ h => h) (Or.inl ⟨rfl, ?_⟩) hHeld ?_ ?_
        rotate_left
        ·rintro w' ⟨s0, s1, s2, s3, s4, s5, s6, s7, s8, s9⟩
         go_simp
         with_reducible rfl
        rotate_left
        ·simp only [Act.put, List.setIfInBounds_toArray, List.set_cons_zero, List.set_cons_succ, i64_w, i32_w]
         rfl
        refine take_ (i := 7) (N := some 24) (v := ?_) (a' := ?_) #[true, true, true, true, true, true, true, true, false, false] rfl rfl (take_ofW HT_.out HW_.out (by kernel_rfl)) (fun _ _ _ h => h) (Or.inl ⟨rfl, ?_⟩) hHeld ?_ ?_
        rotate_left
        ·rintro w' ⟨s0, s1, s2, s3, s4, s5, s6, s7, s8, s9⟩
         go_simp
         with_reducible rfl
        rotate_left
        ·simp only [Act.put, List.setIfInBounds_toArray, List.set_cons_zero, List.set_cons_succ, i64_w, i32_w]
         rfl
        refine one_ (i := 8) (N := some 25) #[true, true, true, true, true, true, true, true, true, false] rfl rfl (one_of HT_.out (by kernel_rfl)) (by decide) (fun K hK => ?_)
        refine goes_ Try.func42 (by kernel_rfl) rfl #[.agg #[.int .i64 ((rd_T40 l0 x5_1).f0), .slice A1615_1 ((rd_T40 l0 x5_1).f1).length c1615_1, .slice A1615_2 ((rd_T40 l0 x5_1).f2).length c1615_2, .slice A1615_3 ((rd_T40 l0 x5_1).f3).length c1615_3, .int .i64 ((rd_T40 l0 x5_1).f4)], .agg #[.int .i64 ((rd_T40 l1 x5_1).f0), .slice A1616_1 ((rd_T40 l1 x5_1).f1).length c1616_1, .slice A1616_2 ((rd_T40 l1 x5_1).f2).length c1616_2, .slice A1616_3 ((rd_T40 l1 x5_1).f3).length c1616_3, .int .i64 ((rd_T40 l1 x5_1).f4)]] rfl rfl rfl (by (try simp only [List.map_toArray, List.map_cons, List.map_nil]); rfl) ?_
        with_reducible refine (laws_eqTask.calls k1 ((rd_T40 l0 x5_1).f0) _ _ ((rd_T40 l0 x5_1).f1) _ _ ((rd_T40 l0 x5_1).f2) _ _ ((rd_T40 l0 x5_1).f3) ((rd_T40 l0 x5_1).f4) ((rd_T40 l1 x5_1).f0) _ _ ((rd_T40 l1 x5_1).f1) _ _ ((rd_T40 l1 x5_1).f2) _ _ ((rd_T40 l1 x5_1).f3) ((rd_T40 l1 x5_1).f4) true _ ?side1 ?side2 ?side3 ?side4 ?side5 ?side6 ?side7 ?side8 ?side9 ?side10 ?side11 ?side12 A7.out).mono ?_
        (case side1 => repeat (exact (Kd.C_below HR1615_1.out HB.out)))
        (case side2 => exact HC1615_1.out)
        (case side3 => repeat (exact (Kd.C_below HR1615_2.out HB.out)))
        (case side4 => exact HC1615_2.out)
        (case side5 => repeat (exact (Kd.C_below HR1615_3.out HB.out)))
        (case side6 => exact HC1615_3.out)
        (case side7 => repeat (exact (Kd.C_below HR1616_1.out HB.out)))
        (case side8 => exact HC1616_1.out)
        (case side9 => repeat (exact (Kd.C_below HR1616_2.out HB.out)))
        (case side10 => exact HC1616_2.out)
        (case side11 => repeat (exact (Kd.C_below HR1616_3.out HB.out)))
        (case side12 => exact HC1616_3.out)
        rintro e w10 ⟨rfl, hb⟩
        refine ⟨_, rfl, ?_⟩
        have n0_ := Aside0.mk (below_step HB.out hb)
        clear HB
        have HB := n0_
        clear n0_
        (try clear hb)
        (try clear hb2)
        (try clear hk)
        (try clear hi)
        refine hK.out _ _ ⟨((HB.out.cell (World.block_lt_of_cell? w _ hw1615_0)).trans hw1615_0), ((HB.out.cell (World.block_lt_of_cell? w _ hw1615_1)).trans hw1615_1), ((HB.out.cell (World.block_lt_of_cell? w _ hw1615_2)).trans hw1615_2), ((HB.out.cell (World.block_lt_of_cell? w _ hw1615_3)).trans hw1615_3), ((HB.out.cell (World.block_lt_of_cell? w _ hw1615_4)).trans hw1615_4), ((HB.out.cell (World.block_lt_of_cell? w _ hw1616_0)).trans hw1616_0), ((HB.out.cell (World.block_lt_of_cell? w _ hw1616_1)).trans hw1616_1), ((HB.out.cell (World.block_lt_of_cell? w _ hw1616_2)).trans hw1616_2), ((HB.out.cell (World.block_lt_of_cell? w _ hw1616_3)).trans hw1616_3), ((HB.out.cell (World.block_lt_of_cell? w _ hw1616_4)).trans hw1616_4)⟩ (fun hHeld => ?_)
        clear hK K
        refine norm_ (a' := ?_) ?_ ?_
        rotate_left
        ·show Act.put _ (some 25) _ = _
         simp only [Act.put, List.setIfInBounds_toArray, List.set_cons_zero, List.set_cons_succ, i64_w, i32_w]
         rfl
        refine pure_ (i := 9) (N := some 26) (v := ?_) (a' := ?_) #[true, true, true, true, true, true, true, true, true, true] rfl rfl (any_of HT_.out (by kernel_rfl)) (fun _ _ _ h => h) (Or.inl ⟨rfl, ?_⟩) ?_ ?_
        rotate_left
        ·intro w'
         go_simp
         with_reducible rfl
        rotate_left
        ·simp only [Act.put, List.setIfInBounds_toArray, List.set_cons_zero, List.set_cons_succ, i64_w, i32_w]
         rfl
        refine done_ (done_of HT_.out (by kernel_rfl)) ?_
        try go_wp2
        go_roundg k1
        case measure => have := HK1.out; omega
        case rel => exact ⟨(wrap64 (x5_1 + 1)), rfl, H', ⟨by have := HK1.out; omega⟩, ⟨HB.out⟩⟩
       ·replace c8 := Bool.eq_false_iff.mpr c8
        subst c8
        rw [if_neg (show ¬ (false = true) by decide)] at H
        obtain rfl := Option.some.inj H
        try go_wp2
        have n0_ := Aside0.mk (below_drew1 HB.out)
        clear HB
        have HB := n0_
        clear n0_
        have p1615 : 0 ≤ (x5_1 : Int) := of_decide_eq_true (by (with_reducible assumption))
        have q1615 : x5_1 < (l0.length : Int) := of_decide_eq_true (by (with_reducible assumption))
        obtain ⟨ad1615, A1615_1, c1615_1, A1615_2, c1615_2, A1615_3, c1615_3, e1615, hx1615_0, hx1615_1, hx1615_2, hx1615_3, hx1615_4, hl1615_1, hi1615_1, hl1615_2, hi1615_2, hl1615_3, hi1615_3⟩ := at_T40 HR0.out x5_1 p1615 q1615
        have hw1615_4 := hx1615_4
        have hw1615_3 := hx1615_3
        have hw1615_2 := hx1615_2
        have hw1615_1 := hx1615_1
        have hw1615_0 := hx1615_0
        cases e1615
        replace hx1615_0 := (HB.out.cell (World.block_lt_of_cell? w _ hx1615_0)).trans hx1615_0
        replace hx1615_1 := (HB.out.cell (World.block_lt_of_cell? w _ hx1615_1)).trans hx1615_1
        replace hx1615_2 := (HB.out.cell (World.block_lt_of_cell? w _ hx1615_2)).trans hx1615_2
        replace hx1615_3 := (HB.out.cell (World.block_lt_of_cell? w _ hx1615_3)).trans hx1615_3
        replace hx1615_4 := (HB.out.cell (World.block_lt_of_cell? w _ hx1615_4)).trans hx1615_4
        have HR1615_1 := Aside0.mk hi1615_1
        have HC1615_1 := Aside0.mk hl1615_1
        clear hi1615_1 hl1615_1
        have HR1615_2 := Aside0.mk hi1615_2
        have HC1615_2 := Aside0.mk hl1615_2
        clear hi1615_2 hl1615_2
        have HR1615_3 := Aside0.mk hi1615_3
        have HC1615_3 := Aside0.mk hl1615_3
        clear hi1615_3 hl1615_3
        replace p1615 := eq_true p1615
        replace q1615 := eq_true q1615
        have p1616 : 0 ≤ (x5_1 : Int) := of_decide_eq_true (by (with_reducible assumption))
        have q1616 : x5_1 < (l1.length : Int) := of_decide_eq_true (by (with_reducible assumption))
        obtain ⟨ad1616, A1616_1, c1616_1, A1616_2, c1616_2, A1616_3, c1616_3, e1616, hx1616_0, hx1616_1, hx1616_2, hx1616_3, hx1616_4, hl1616_1, hi1616_1, hl1616_2, hi1616_2, hl1616_3, hi1616_3⟩ := at_T40 HR1.out x5_1 p1616 q1616
        have hw1616_4 := hx1616_4
        have hw1616_3 := hx1616_3
        have hw1616_2 := hx1616_2
        have hw1616_1 := hx1616_1
        have hw1616_0 := hx1616_0
        cases e1616
        replace hx1616_0 := (HB.out.cell (World.block_lt_of_cell? w _ hx1616_0)).trans hx1616_0
        replace hx1616_1 := (HB.out.cell (World.block_lt_of_cell? w _ hx1616_1)).trans hx1616_1
        replace hx1616_2 := (HB.out.cell (World.block_lt_of_cell? w _ hx1616_2)).trans hx1616_2
        replace hx1616_3 := (HB.out.cell (World.block_lt_of_cell? w _ hx1616_3)).trans hx1616_3
        replace hx1616_4 := (HB.out.cell (World.block_lt_of_cell? w _ hx1616_4)).trans hx1616_4
        have HR1616_1 := Aside0.mk hi1616_1
        have HC1616_1 := Aside0.mk hl1616_1
        clear hi1616_1 hl1616_1
        have HR1616_2 := Aside0.mk hi1616_2
        have HC1616_2 := Aside0.mk hl1616_2
        clear hi1616_2 hl1616_2
        have HR1616_3 := Aside0.mk hi1616_3
        have HC1616_3 := Aside0.mk hl1616_3
        clear hi1616_3 hl1616_3
        replace p1616 := eq_true p1616
        replace q1616 := eq_true q1616
        refine start_ (n := 10) (S := fun w' => w'.cell? (ad1615.add ((x5_1).toNat * 5)) = some (.int .i64 ((rd_T40 l0 x5_1).f0)) ∧ w'.cell? ⟨(ad1615.add ((x5_1).toNat * 5)).block, (ad1615.add ((x5_1).toNat * 5)).off + 1, none⟩ = some (.slice A1615_1 ((rd_T40 l0 x5_1).f1).length c1615_1) ∧ w'.cell? ⟨(ad1615.add ((x5_1).toNat * 5)).block, (ad1615.add ((x5_1).toNat * 5)).off + 2, none⟩ = some (.slice A1615_2 ((rd_T40 l0 x5_1).f2).length c1615_2) ∧ w'.cell? ⟨(ad1615.add ((x5_1).toNat * 5)).block, (ad1615.add ((x5_1).toNat * 5)).off + 3, none⟩ = some (.slice A1615_3 ((rd_T40 l0 x5_1).f3).length c1615_3) ∧ w'.cell? ⟨(ad1615.add ((x5_1).toNat * 5)).block, (ad1615.add ((x5_1).toNat * 5)).off + 4, none⟩ = some (.int .i64 ((rd_T40 l0 x5_1).f4)) ∧ w'.cell? (ad1616.add ((x5_1).toNat * 5)) = some (.int .i64 ((rd_T40 l1 x5_1).f0)) ∧ w'.cell? ⟨(ad1616.add ((x5_1).toNat * 5)).block, (ad1616.add ((x5_1).toNat * 5)).off + 1, none⟩ = some (.slice A1616_1 ((rd_T40 l1 x5_1).f1).length c1616_1) ∧ w'.cell? ⟨(ad1616.add ((x5_1).toNat * 5)).block, (ad1616.add ((x5_1).toNat * 5)).off + 2, none⟩ = some (.slice A1616_2 ((rd_T40 l1 x5_1).f2).length c1616_2) ∧ w'.cell? ⟨(ad1616.add ((x5_1).toNat * 5)).block, (ad1616.add ((x5_1).toNat * 5)).off + 3, none⟩ = some (.slice A1616_3 ((rd_T40 l1 x5_1).f3).length c1616_3) ∧ w'.cell? ⟨(ad1616.add ((x5_1).toNat * 5)).block, (ad1616.add ((x5_1).toNat * 5)).off + 4, none⟩ = some (.int .i64 ((rd_T40 l1 x5_1).f4))) (ds := []) #[false, false, false, false, false, false, false, false, false, false] (by kernel_rfl) rfl rfl ⟨((HB.out.cell (World.block_lt_of_cell? w _ hw1615_0)).trans hw1615_0), ((HB.out.cell (World.block_lt_of_cell? w _ hw1615_1)).trans hw1615_1), ((HB.out.cell (World.block_lt_of_cell? w _ hw1615_2)).trans hw1615_2), ((HB.out.cell (World.block_lt_of_cell? w _ hw1615_3)).trans hw1615_3), ((HB.out.cell (World.block_lt_of_cell? w _ hw1615_4)).trans hw1615_4), ((HB.out.cell (World.block_lt_of_cell? w _ hw1616_0)).trans hw1616_0), ((HB.out.cell (World.block_lt_of_cell? w _ hw1616_1)).trans hw1616_1), ((HB.out.cell (World.block_lt_of_cell? w _ hw1616_2)).trans hw1616_2), ((HB.out.cell (World.block_lt_of_cell? w _ hw1616_3)).trans hw1616_3), ((HB.out.cell (World.block_lt_of_cell? w _ hw1616_4)).trans hw1616_4)⟩ (fun hHeld => ?_); refine with_tabW laws_eqTaskS.tab6 laws_eqTaskS.bits6 (fun HT_ HW_ => ?_)
        generalize wr.drew = w11 at HB HR1615_1 HR1615_2 HR1615_3 HR1616_1 HR1616_2 HR1616_3 hx1615_0 hx1615_1 hx1615_2 hx1615_3 hx1615_4 hx1616_0 hx1616_1 hx1616_2 hx1616_3 hx1616_4 hHeld ⊢
        refine pure_ (i := 0) (N := some 17) (v := ?_) (a' := ?_) #[true, false, false, false, false, false, false, false, false, false] rfl rfl (any_of HT_.out (by kernel_rfl)) (fun _ _ _ h => h) (Or.inl ⟨rfl, ?_⟩) ?_ ?_
        rotate_left
        ·intro w'
         go_simp
         with_reducible rfl
        rotate_left
        ·simp only [Act.put, List.setIfInBounds_toArray, List.set_cons_zero, List.set_cons_succ, i64_w, i32_w]
         rfl
        refine pure_ (i := 1) (N := some 18) (v := ?_) (a' := ?_) #[true, true, false, false, false, false, false, false, false, false] rfl rfl (any_of HT_.out (by kernel_rfl)) (fun _ _ _ h => h) (Or.inl ⟨rfl, ?_⟩) ?_ ?_
        rotate_left
        ·intro w'
         go_simp
         with_reducible rfl
        rotate_left
        ·simp only [Act.put, List.setIfInBounds_toArray, List.set_cons_zero, List.set_cons_succ, i64_w, i32_w]
         rfl
        refine pure_ (i := 2) (N := some 19) (v := ?_) (a' := ?_) #[true, true, true, false, false, false, false, false, false, false] rfl rfl (any_of HT_.out (by kernel_rfl)) (fun _ _ _ h => h) (Or.inl ⟨rfl, ?_⟩) ?_ ?_
        rotate_left
        ·intro w'
         go_simp
         with_reducible rfl
        rotate_left
        ·simp only [Act.put, List.setIfInBounds_toArray, List.set_cons_zero, List.set_cons_succ, i64_w, i32_w]
         rfl
        refine pure_ (i := 4) (N := some 21) (v := ?_) (a' := ?_) #[true, true, true, false, true, false, false, false, false, false] rfl rfl (any_of HT_.out (by kernel_rfl)) (fun _ _ _ h => h) (Or.inl ⟨rfl, ?_⟩) ?_ ?_
        rotate_left
        ·intro w'
         go_simp
         with_reducible rfl
        rotate_left
        ·simp only [Act.put, List.setIfInBounds_toArray, List.set_cons_zero, List.set_cons_succ, i64_w, i32_w]
         rfl
        refine pure_ (i := 5) (N := some 22) (v := ?_) (a' := ?_) #[true, true, true, false, true, true, false, false, false, false] rfl rfl (any_of HT_.out (by kernel_rfl)) (fun _ _ _ h => h) (Or.inl ⟨rfl, ?_⟩) ?_ ?_
        rotate_left
        ·intro w'
         go_simp
         with_reducible rfl
        rotate_left
        ·simp only [Act.put, List.setIfInBounds_toArray, List.set_cons_zero, List.set_cons_succ, i64_w, i32_w]
         rfl
        refine pure_ (i := 6) (N := some 23) (v := ?_) (a' := ?_) #[true, true, true, false, true, true, true, false, false, false] rfl rfl (any_of HT_.out (by kernel_rfl)) (fun _ _ _ h => h) (Or.inl ⟨rfl, ?_⟩) ?_ ?_
        rotate_left
        ·intro w'
         go_simp
         with_reducible rfl
        rotate_left
        ·simp only [Act.put, List.setIfInBounds_toArray, List.set_cons_zero, List.set_cons_succ, i64_w, i32_w]
         rfl
        refine take_ (i := 3) (N := some 20) (v := ?_) (a' := ?_) #[true, true, true, true, true, true, true, false, false, false] rfl rfl (take_ofW HT_.out HW_.out (by kernel_rfl)) (fun _ _ _ h => h) (Or.inl ⟨rfl, ?_⟩) hHeld ?_ ?_
        rotate_left
        ·rintro w' ⟨s0, s1, s2, s3, s4, s5, s6, s7, s8, s9⟩
         go_simp
         with_reducible rfl
        rotate_left
        ·simp only [Act.put, List.setIfInBounds_toArray, List.set_cons_zero, List.set_cons_succ, i64_w, i32_w]
         rfl
        refine take_ (i := 7) (N := some 24) (v := ?_) (a' := ?_) #[true, true, true, true, true, true, true, true, false, false] rfl rfl (take_ofW HT_.out HW_.out (by kernel_rfl)) (fun _ _ _ h => h) (Or.inl ⟨rfl, ?_⟩) hHeld ?_ ?_
        rotate_left
        ·rintro w' ⟨s0, s1, s2, s3, s4, s5, s6, s7, s8, s9⟩
         go_simp
         with_reducible rfl
        rotate_left
        ·simp only [Act.put, List.setIfInBounds_toArray, List.set_cons_zero, List.set_cons_succ, i64_w, i32_w]
         rfl
        refine one_ (i := 8) (N := some 25) #[true, true, true, true, true, true, true, true, true, false] rfl rfl (one_of HT_.out (by kernel_rfl)) (by decide) (fun K hK => ?_)
        refine goes_ Try.func42 (by kernel_rfl) rfl #[.agg #[.int .i64 ((rd_T40 l0 x5_1).f0), .slice A1615_1 ((rd_T40 l0 x5_1).f1).length c1615_1, .slice A1615_2 ((rd_T40 l0 x5_1).f2).length c1615_2, .slice A1615_3 ((rd_T40 l0 x5_1).f3).length c1615_3, .int .i64 ((rd_T40 l0 x5_1).f4)], .agg #[.int .i64 ((rd_T40 l1 x5_1).f0), .slice A1616_1 ((rd_T40 l1 x5_1).f1).length c1616_1, .slice A1616_2 ((rd_T40 l1 x5_1).f2).length c1616_2, .slice A1616_3 ((rd_T40 l1 x5_1).f3).length c1616_3, .int .i64 ((rd_T40 l1 x5_1).f4)]] rfl rfl rfl (by (try simp only [List.map_toArray, List.map_cons, List.map_nil]); rfl) ?_
        with_reducible refine (laws_eqTask.calls k1 ((rd_T40 l0 x5_1).f0) _ _ ((rd_T40 l0 x5_1).f1) _ _ ((rd_T40 l0 x5_1).f2) _ _ ((rd_T40 l0 x5_1).f3) ((rd_T40 l0 x5_1).f4) ((rd_T40 l1 x5_1).f0) _ _ ((rd_T40 l1 x5_1).f1) _ _ ((rd_T40 l1 x5_1).f2) _ _ ((rd_T40 l1 x5_1).f3) ((rd_T40 l1 x5_1).f4) false _ ?side1 ?side2 ?side3 ?side4 ?side5 ?side6 ?side7 ?side8 ?side9 ?side10 ?side11 ?side12 A7.out).mono ?_
        (case side1 => repeat (exact (Kd.C_below HR1615_1.out HB.out)))
        (case side2 => exact HC1615_1.out)
        (case side3 => repeat (exact (Kd.C_below HR1615_2.out HB.out)))
        (case side4 => exact HC1615_2.out)
        (case side5 => repeat (exact (Kd.C_below HR1615_3.out HB.out)))
        (case side6 => exact HC1615_3.out)
        (case side7 => repeat (exact (Kd.C_below HR1616_1.out HB.out)))
        (case side8 => exact HC1616_1.out)
        (case side9 => repeat (exact (Kd.C_below HR1616_2.out HB.out)))
        (case side10 => exact HC1616_2.out)
        (case side11 => repeat (exact (Kd.C_below HR1616_3.out HB.out)))
        (case side12 => exact HC1616_3.out)
        rintro e w12 ⟨rfl, hb⟩
        refine ⟨_, rfl, ?_⟩
        have n0_ := Aside0.mk (below_step HB.out hb)
        clear HB
        have HB := n0_
        clear n0_
        (try clear hb)
        (try clear hb2)
        (try clear hk)
        (try clear hi)
        refine hK.out _ _ ⟨((HB.out.cell (World.block_lt_of_cell? w _ hw1615_0)).trans hw1615_0), ((HB.out.cell (World.block_lt_of_cell? w _ hw1615_1)).trans hw1615_1), ((HB.out.cell (World.block_lt_of_cell? w _ hw1615_2)).trans hw1615_2), ((HB.out.cell (World.block_lt_of_cell? w _ hw1615_3)).trans hw1615_3), ((HB.out.cell (World.block_lt_of_cell? w _ hw1615_4)).trans hw1615_4), ((HB.out.cell (World.block_lt_of_cell? w _ hw1616_0)).trans hw1616_0), ((HB.out.cell (World.block_lt_of_cell? w _ hw1616_1)).trans hw1616_1), ((HB.out.cell (World.block_lt_of_cell? w _ hw1616_2)).trans hw1616_2), ((HB.out.cell (World.block_lt_of_cell? w _ hw1616_3)).trans hw1616_3), ((HB.out.cell (World.block_lt_of_cell? w _ hw1616_4)).trans hw1616_4)⟩ (fun hHeld => ?_)
        clear hK K
        refine norm_ (a' := ?_) ?_ ?_
        rotate_left
        ·show Act.put _ (some 25) _ = _
         simp only [Act.put, List.setIfInBounds_toArray, List.set_cons_zero, List.set_cons_succ, i64_w, i32_w]
         rfl
        refine pure_ (i := 9) (N := some 26) (v := ?_) (a' := ?_) #[true, true, true, true, true, true, true, true, true, true] rfl rfl (any_of HT_.out (by kernel_rfl)) (fun _ _ _ h => h) (Or.inl ⟨rfl, ?_⟩) ?_ ?_
        rotate_left
        ·intro w'
         go_simp
         with_reducible rfl
        rotate_left
        ·simp only [Act.put, List.setIfInBounds_toArray, List.set_cons_zero, List.set_cons_succ, i64_w, i32_w]
         rfl
        refine done_ (done_of HT_.out (by kernel_rfl)) ?_
        try go_wp2
        go_ret
        exact ⟨rfl, HB.out⟩
      ·rw [if_neg c6] at H
       exact absurd H (by simp)
     ·rw [if_neg c5] at H
      exact absurd H (by simp)
    ·rw [if_neg c4] at H
     have c4b0 : decide (x5_1 < (l0.length : Int)) = false := decide_eq_false c4
     clear c4
     obtain rfl := Option.some.inj H
     go_wp2
     go_ret
     exact ⟨rfl, HB.out⟩
 ·rw [if_neg c3] at H
  have c3b0 : ((l0.length : Int) == (l1.length : Int)) = false := beq_eq_false_iff_ne.mpr c3
  have c3b1 : ((l0.length : Int) != (l1.length : Int)) = true := bne_iff_ne.mpr c3
  have c3b2 : (l0.length == l1.length) = false := by (simp at c3 ⊢; omega)
  obtain rfl := Option.some.inj H
  go_enter Try.func151, Try.ntmps151
  go_wp2
  go_ret
  exact ⟨rfl, HB.out⟩

def laws_eqJoiner.f (k : Nat) (l0_0 : List (S40)) (a0_1 : Int) (a0_2 : Int) (l1_0 : List (S40)) (a1_1 : Int) (a1_2 : Int) : Option (Bool) := (laws_eqTaskS.f k l0_0 l1_0).bind fun t1620 => (if t1620 = true then (if a0_1 = a1_1 then (if a0_2 = a1_2 then (some true) else (some false)) else (some false)) else (some false))
theorem laws_eqJoiner.calls (k : Nat) (A0_0 : Option Addr) (c0_0 : Nat) (l0_0 : List (S40)) (a0_1 : Int) (a0_2 : Int) (A1_0 : Option Addr) (c1_0 : Nat) (l1_0 : List (S40)) (a1_1 : Int) (a1_2 : Int) (r : Bool) (w : World) (hr0_0 : Kd.C k40 w A0_0 l0_0.length l0_0) (hc0_0 : l0_0.length ≤ c0_0) (hr1_0 : Kd.C k40 w A1_0 l1_0.length l1_0) (hc1_0 : l1_0.length ≤ c1_0) (h : laws_eqJoiner.f k l0_0 a0_1 a0_2 l1_0 a1_1 a1_2 = some r) :
  Calls Try.prog 53 #[.agg #[.slice A0_0 l0_0.length c0_0, .int .i64 a0_1, .int .i64 a0_2], .agg #[.slice A1_0 l1_0.length c1_0, .int .i64 a1_1, .int .i64 a1_2]] w fun e w' => e = .returned (.bool r) ∧ Below w.heap.size w w' := by
 have hu68 := Try.underlying68
 have HR0_0 := Aside0.mk hr0_0
 have HC0_0 := Aside0.mk hc0_0
 clear hr0_0 hc0_0
 have HR1_0 := Aside0.mk hr1_0
 have HC1_0 := Aside0.mk hc1_0
 clear hr1_0 hc1_0
 have HB := Aside0.mk (Below.refl w.heap.size w)
 have H : ((laws_eqTaskS.f k l0_0 l1_0).bind fun t1620 => (if t1620 = true then (if a0_1 = a1_1 then (if a0_2 = a1_2 then (some true) else (some false)) else (some false)) else (some false))) = some r := h
 clear h
 replace H := Option.bind_eq_some_iff.mp H
 obtain ⟨t1620, A30, H⟩ := H
 have A3 := Aside0.mk A30
 clear A30
 by_cases c4 : t1620 = true
 ·subst c4
  rw [if_pos rfl] at H
  by_cases c5 : a0_1 = a1_1
  ·rw [if_pos c5] at H
   have c5b0 : (a0_1 == a1_1) = true := beq_iff_eq.mpr c5
   have c5b1 : (a0_1 != a1_1) = false := bne_eq_false_iff_eq.mpr c5
   clear c5
   by_cases c6 : a0_2 = a1_2
   ·rw [if_pos c6] at H
    have c6b0 : (a0_2 == a1_2) = true := beq_iff_eq.mpr c6
    have c6b1 : (a0_2 != a1_2) = false := bne_eq_false_iff_eq.mpr c6
    clear c6
    obtain rfl := Option.some.inj H
    go_enter Try.func53, Try.ntmps53
    go_wp2_with (first | ((with_reducible refine gate_dst (N := 2) rfl ?_); refine box_event ?hg (N := 2) ?hd (cs := #[.slice A0_0 l0_0.length c0_0, .int .i64 a0_1, .int .i64 a0_2]) (t := 68) ?hr ?_; (case hd => rfl); (case hg => rfl); (case hr => (go_simp; done)); intro gb1618 hg w7 hbox hb; have n0_ := Aside0.mk (below_step HB.out hb); have n1_ := Aside0.mk (hbox); have n2_ := Aside0.mk ((by rw [hg]; exact (below_size HB.out) : w.heap.size ≤ gb1618)); have n3_ := Aside0.mk ((by rw [hg]; exact (below_size HB.out) : w.heap.size ≤ gb1618)); clear HB; have HB := n0_; have BK1618 := n1_; have GW1618 := n2_; have GE1618 := n3_; clear n0_ n1_ n2_ n3_; clear hb hbox hg) | ((with_reducible refine gate_dst (N := 3) rfl ?_); refine box_event ?hg (N := 3) ?hd (cs := #[.slice A1_0 l1_0.length c1_0, .int .i64 a1_1, .int .i64 a1_2]) (t := 68) ?hr ?_; (case hd => rfl); (case hg => rfl); (case hr => (go_simp; done)); intro gb1619 hg w8 hbox hb; have n0_ := Aside0.mk (blk_below (g := gb1618) (o := .cells #[.slice A0_0 l0_0.length c0_0, .int .i64 a0_1, .int .i64 a0_2] 68 (0, 0)) BK1618.out hb); have n1_ := Aside0.mk (below_step HB.out hb); have n2_ := Aside0.mk (hbox); have n3_ := Aside0.mk ((by rw [hg]; exact (below_size HB.out) : w.heap.size ≤ gb1619)); have n4_ := Aside0.mk ((by rw [hg]; exact (below_size HB.out) : w.heap.size ≤ gb1619)); have n5_ := Aside0.mk ((by rw [hg]; exact Nat.ne_of_lt (blk_lt (g := gb1618) (o := .cells #[.slice A0_0 l0_0.length c0_0, .int .i64 a0_1, .int .i64 a0_2] 68 (0, 0)) BK1618.out) : gb1618 ≠ gb1619)); have n6_ := Aside0.mk ((by rw [hg]; exact Nat.ne_of_gt (blk_lt (g := gb1618) (o := .cells #[.slice A0_0 l0_0.length c0_0, .int .i64 a0_1, .int .i64 a0_2] 68 (0, 0)) BK1618.out) : gb1619 ≠ gb1618)); clear BK1618; clear HB; have BK1618 := n0_; have HB := n1_; have BK1619 := n2_; have GW1619 := n3_; have GE1619 := n4_; have NB1618_1619 := n5_; have NB1619_1618 := n6_; clear n0_ n1_ n2_ n3_ n4_ n5_ n6_; clear hb hbox hg; have hnb9 := NB1618_1619.out; have hnc9 := NB1619_1618.out; have hcz10_0 : w8.cell? ⟨gb1618, 0, none⟩ = some (.slice A0_0 l0_0.length c0_0) := (blk_cell BK1618.out 0).trans rfl; have hcz10_1 : w8.cell? ⟨gb1618, 1, none⟩ = some (.int .i64 a0_1) := (blk_cell BK1618.out 1).trans rfl; have hcz10_2 : w8.cell? ⟨gb1618, 2, none⟩ = some (.int .i64 a0_2) := (blk_cell BK1618.out 2).trans rfl; have hfz10_0 := blk_frozen BK1618.out 0; have hfz10_1 := blk_frozen BK1618.out 1; have hfz10_2 := blk_frozen BK1618.out 2; have hcz11_0 : w8.cell? ⟨gb1619, 0, none⟩ = some (.slice A1_0 l1_0.length c1_0) := (blk_cell BK1619.out 0).trans rfl; have hcz11_1 : w8.cell? ⟨gb1619, 1, none⟩ = some (.int .i64 a1_1) := (blk_cell BK1619.out 1).trans rfl; have hcz11_2 : w8.cell? ⟨gb1619, 2, none⟩ = some (.int .i64 a1_2) := (blk_cell BK1619.out 2).trans rfl; have hfz11_0 := blk_frozen BK1619.out 0; have hfz11_1 := blk_frozen BK1619.out 1; have hfz11_2 := blk_frozen BK1619.out 2) | ((with_reducible refine gate_callee (f := 151) rfl ?_); refine goesL_ (some 9) rfl rfl Try.func151 (by kernel_rfl) rfl #[.slice A0_0 l0_0.length c0_0, .slice A1_0 l1_0.length c1_0] rfl (by (try simp only [List.map_toArray, List.map_cons, List.map_nil]); rfl) ?_; (with_reducible refine (laws_eqTaskS.calls k _ _ l0_0 _ _ l1_0 true _ ?side1 ?side2 ?side3 ?side4 A3.out).mono ?_); (case side1 => repeat (exact (Kd.C_below HR0_0.out HB.out))); (case side2 => exact HC0_0.out); (case side3 => repeat (exact (Kd.C_below HR1_0.out HB.out))); (case side4 => exact HC1_0.out); rintro e w12 ⟨rfl, hb⟩; refine ⟨_, rfl, ?_⟩; have n0_ := Aside0.mk (blk_below (g := gb1618) (o := .cells #[.slice A0_0 l0_0.length c0_0, .int .i64 a0_1, .int .i64 a0_2] 68 (0, 0)) BK1618.out hb); have n1_ := Aside0.mk (blk_below (g := gb1619) (o := .cells #[.slice A1_0 l1_0.length c1_0, .int .i64 a1_1, .int .i64 a1_2] 68 (0, 0)) BK1619.out hb); have n2_ := Aside0.mk (below_step HB.out hb); clear BK1618; clear BK1619; clear HB; have BK1618 := n0_; have BK1619 := n1_; have HB := n2_; clear n0_ n1_ n2_; (try clear hb); have hcz13_0 : w12.cell? ⟨gb1618, 0, none⟩ = some (.slice A0_0 l0_0.length c0_0) := (blk_cell BK1618.out 0).trans rfl; have hcz13_1 : w12.cell? ⟨gb1618, 1, none⟩ = some (.int .i64 a0_1) := (blk_cell BK1618.out 1).trans rfl; have hcz13_2 : w12.cell? ⟨gb1618, 2, none⟩ = some (.int .i64 a0_2) := (blk_cell BK1618.out 2).trans rfl; have hfz13_0 := blk_frozen BK1618.out 0; have hfz13_1 := blk_frozen BK1618.out 1; have hfz13_2 := blk_frozen BK1618.out 2; have hcz14_0 : w12.cell? ⟨gb1619, 0, none⟩ = some (.slice A1_0 l1_0.length c1_0) := (blk_cell BK1619.out 0).trans rfl; have hcz14_1 : w12.cell? ⟨gb1619, 1, none⟩ = some (.int .i64 a1_1) := (blk_cell BK1619.out 1).trans rfl; have hcz14_2 : w12.cell? ⟨gb1619, 2, none⟩ = some (.int .i64 a1_2) := (blk_cell BK1619.out 2).trans rfl; have hfz14_0 := blk_frozen BK1619.out 0; have hfz14_1 := blk_frozen BK1619.out 1; have hfz14_2 := blk_frozen BK1619.out 2))
    go_ret
    exact ⟨rfl, HB.out⟩
   ·rw [if_neg c6] at H
    have c6b0 : (a0_2 == a1_2) = false := beq_eq_false_iff_ne.mpr c6
    have c6b1 : (a0_2 != a1_2) = true := bne_iff_ne.mpr c6
    obtain rfl := Option.some.inj H
    go_enter Try.func53, Try.ntmps53
    go_wp2_with (first | ((with_reducible refine gate_dst (N := 2) rfl ?_); refine box_event ?hg (N := 2) ?hd (cs := #[.slice A0_0 l0_0.length c0_0, .int .i64 a0_1, .int .i64 a0_2]) (t := 68) ?hr ?_; (case hd => rfl); (case hg => rfl); (case hr => (go_simp; done)); intro gb1618 hg w15 hbox hb; have n0_ := Aside0.mk (below_step HB.out hb); have n1_ := Aside0.mk (hbox); have n2_ := Aside0.mk ((by rw [hg]; exact (below_size HB.out) : w.heap.size ≤ gb1618)); have n3_ := Aside0.mk ((by rw [hg]; exact (below_size HB.out) : w.heap.size ≤ gb1618)); clear HB; have HB := n0_; have BK1618 := n1_; have GW1618 := n2_; have GE1618 := n3_; clear n0_ n1_ n2_ n3_; clear hb hbox hg) | ((with_reducible refine gate_dst (N := 3) rfl ?_); refine box_event ?hg (N := 3) ?hd (cs := #[.slice A1_0 l1_0.length c1_0, .int .i64 a1_1, .int .i64 a1_2]) (t := 68) ?hr ?_; (case hd => rfl); (case hg => rfl); (case hr => (go_simp; done)); intro gb1619 hg w16 hbox hb; have n0_ := Aside0.mk (blk_below (g := gb1618) (o := .cells #[.slice A0_0 l0_0.length c0_0, .int .i64 a0_1, .int .i64 a0_2] 68 (0, 0)) BK1618.out hb); have n1_ := Aside0.mk (below_step HB.out hb); have n2_ := Aside0.mk (hbox); have n3_ := Aside0.mk ((by rw [hg]; exact (below_size HB.out) : w.heap.size ≤ gb1619)); have n4_ := Aside0.mk ((by rw [hg]; exact (below_size HB.out) : w.heap.size ≤ gb1619)); have n5_ := Aside0.mk ((by rw [hg]; exact Nat.ne_of_lt (blk_lt (g := gb1618) (o := .cells #[.slice A0_0 l0_0.length c0_0, .int .i64 a0_1, .int .i64 a0_2] 68 (0, 0)) BK1618.out) : gb1618 ≠ gb1619)); have n6_ := Aside0.mk ((by rw [hg]; exact Nat.ne_of_gt (blk_lt (g := gb1618) (o := .cells #[.slice A0_0 l0_0.length c0_0, .int .i64 a0_1, .int .i64 a0_2] 68 (0, 0)) BK1618.out) : gb1619 ≠ gb1618)); clear BK1618; clear HB; have BK1618 := n0_; have HB := n1_; have BK1619 := n2_; have GW1619 := n3_; have GE1619 := n4_; have NB1618_1619 := n5_; have NB1619_1618 := n6_; clear n0_ n1_ n2_ n3_ n4_ n5_ n6_; clear hb hbox hg; have hnb17 := NB1618_1619.out; have hnc17 := NB1619_1618.out; have hcz18_0 : w16.cell? ⟨gb1618, 0, none⟩ = some (.slice A0_0 l0_0.length c0_0) := (blk_cell BK1618.out 0).trans rfl; have hcz18_1 : w16.cell? ⟨gb1618, 1, none⟩ = some (.int .i64 a0_1) := (blk_cell BK1618.out 1).trans rfl; have hcz18_2 : w16.cell? ⟨gb1618, 2, none⟩ = some (.int .i64 a0_2) := (blk_cell BK1618.out 2).trans rfl; have hfz18_0 := blk_frozen BK1618.out 0; have hfz18_1 := blk_frozen BK1618.out 1; have hfz18_2 := blk_frozen BK1618.out 2; have hcz19_0 : w16.cell? ⟨gb1619, 0, none⟩ = some (.slice A1_0 l1_0.length c1_0) := (blk_cell BK1619.out 0).trans rfl; have hcz19_1 : w16.cell? ⟨gb1619, 1, none⟩ = some (.int .i64 a1_1) := (blk_cell BK1619.out 1).trans rfl; have hcz19_2 : w16.cell? ⟨gb1619, 2, none⟩ = some (.int .i64 a1_2) := (blk_cell BK1619.out 2).trans rfl; have hfz19_0 := blk_frozen BK1619.out 0; have hfz19_1 := blk_frozen BK1619.out 1; have hfz19_2 := blk_frozen BK1619.out 2) | ((with_reducible refine gate_callee (f := 151) rfl ?_); refine goesL_ (some 9) rfl rfl Try.func151 (by kernel_rfl) rfl #[.slice A0_0 l0_0.length c0_0, .slice A1_0 l1_0.length c1_0] rfl (by (try simp only [List.map_toArray, List.map_cons, List.map_nil]); rfl) ?_; (with_reducible refine (laws_eqTaskS.calls k _ _ l0_0 _ _ l1_0 true _ ?side1 ?side2 ?side3 ?side4 A3.out).mono ?_); (case side1 => repeat (exact (Kd.C_below HR0_0.out HB.out))); (case side2 => exact HC0_0.out); (case side3 => repeat (exact (Kd.C_below HR1_0.out HB.out))); (case side4 => exact HC1_0.out); rintro e w20 ⟨rfl, hb⟩; refine ⟨_, rfl, ?_⟩; have n0_ := Aside0.mk (blk_below (g := gb1618) (o := .cells #[.slice A0_0 l0_0.length c0_0, .int .i64 a0_1, .int .i64 a0_2] 68 (0, 0)) BK1618.out hb); have n1_ := Aside0.mk (blk_below (g := gb1619) (o := .cells #[.slice A1_0 l1_0.length c1_0, .int .i64 a1_1, .int .i64 a1_2] 68 (0, 0)) BK1619.out hb); have n2_ := Aside0.mk (below_step HB.out hb); clear BK1618; clear BK1619; clear HB; have BK1618 := n0_; have BK1619 := n1_; have HB := n2_; clear n0_ n1_ n2_; (try clear hb); have hcz21_0 : w20.cell? ⟨gb1618, 0, none⟩ = some (.slice A0_0 l0_0.length c0_0) := (blk_cell BK1618.out 0).trans rfl; have hcz21_1 : w20.cell? ⟨gb1618, 1, none⟩ = some (.int .i64 a0_1) := (blk_cell BK1618.out 1).trans rfl; have hcz21_2 : w20.cell? ⟨gb1618, 2, none⟩ = some (.int .i64 a0_2) := (blk_cell BK1618.out 2).trans rfl; have hfz21_0 := blk_frozen BK1618.out 0; have hfz21_1 := blk_frozen BK1618.out 1; have hfz21_2 := blk_frozen BK1618.out 2; have hcz22_0 : w20.cell? ⟨gb1619, 0, none⟩ = some (.slice A1_0 l1_0.length c1_0) := (blk_cell BK1619.out 0).trans rfl; have hcz22_1 : w20.cell? ⟨gb1619, 1, none⟩ = some (.int .i64 a1_1) := (blk_cell BK1619.out 1).trans rfl; have hcz22_2 : w20.cell? ⟨gb1619, 2, none⟩ = some (.int .i64 a1_2) := (blk_cell BK1619.out 2).trans rfl; have hfz22_0 := blk_frozen BK1619.out 0; have hfz22_1 := blk_frozen BK1619.out 1; have hfz22_2 := blk_frozen BK1619.out 2))
    go_ret
    exact ⟨rfl, HB.out⟩
  ·rw [if_neg c5] at H
   have c5b0 : (a0_1 == a1_1) = false := beq_eq_false_iff_ne.mpr c5
   have c5b1 : (a0_1 != a1_1) = true := bne_iff_ne.mpr c5
   obtain rfl := Option.some.inj H
   go_enter Try.func53, Try.ntmps53
   go_wp2_with (first | ((with_reducible refine gate_dst (N := 2) rfl ?_); refine box_event ?hg (N := 2) ?hd (cs := #[.slice A0_0 l0_0.length c0_0, .int .i64 a0_1, .int .i64 a0_2]) (t := 68) ?hr ?_; (case hd => rfl); (case hg => rfl); (case hr => (go_simp; done)); intro gb1618 hg w23 hbox hb; have n0_ := Aside0.mk (below_step HB.out hb); have n1_ := Aside0.mk (hbox); have n2_ := Aside0.mk ((by rw [hg]; exact (below_size HB.out) : w.heap.size ≤ gb1618)); have n3_ := Aside0.mk ((by rw [hg]; exact (below_size HB.out) : w.heap.size ≤ gb1618)); clear HB; have HB := n0_; have BK1618 := n1_; have GW1618 := n2_; have GE1618 := n3_; clear n0_ n1_ n2_ n3_; clear hb hbox hg) | ((with_reducible refine gate_dst (N := 3) rfl ?_); refine box_event ?hg (N := 3) ?hd (cs := #[.slice A1_0 l1_0.length c1_0, .int .i64 a1_1, .int .i64 a1_2]) (t := 68) ?hr ?_; (case hd => rfl); (case hg => rfl); (case hr => (go_simp; done)); intro gb1619 hg w24 hbox hb; have n0_ := Aside0.mk (blk_below (g := gb1618) (o := .cells #[.slice A0_0 l0_0.length c0_0, .int .i64 a0_1, .int .i64 a0_2] 68 (0, 0)) BK1618.out hb); have n1_ := Aside0.mk (below_step HB.out hb); have n2_ := Aside0.mk (hbox); have n3_ := Aside0.mk ((by rw [hg]; exact (below_size HB.out) : w.heap.size ≤ gb1619)); have n4_ := Aside0.mk ((by rw [hg]; exact (below_size HB.out) : w.heap.size ≤ gb1619)); have n5_ := Aside0.mk ((by rw [hg]; exact Nat.ne_of_lt (blk_lt (g := gb1618) (o := .cells #[.slice A0_0 l0_0.length c0_0, .int .i64 a0_1, .int .i64 a0_2] 68 (0, 0)) BK1618.out) : gb1618 ≠ gb1619)); have n6_ := Aside0.mk ((by rw [hg]; exact Nat.ne_of_gt (blk_lt (g := gb1618) (o := .cells #[.slice A0_0 l0_0.length c0_0, .int .i64 a0_1, .int .i64 a0_2] 68 (0, 0)) BK1618.out) : gb1619 ≠ gb1618)); clear BK1618; clear HB; have BK1618 := n0_; have HB := n1_; have BK1619 := n2_; have GW1619 := n3_; have GE1619 := n4_; have NB1618_1619 := n5_; have NB1619_1618 := n6_; clear n0_ n1_ n2_ n3_ n4_ n5_ n6_; clear hb hbox hg; have hnb25 := NB1618_1619.out; have hnc25 := NB1619_1618.out; have hcz26_0 : w24.cell? ⟨gb1618, 0, none⟩ = some (.slice A0_0 l0_0.length c0_0) := (blk_cell BK1618.out 0).trans rfl; have hcz26_1 : w24.cell? ⟨gb1618, 1, none⟩ = some (.int .i64 a0_1) := (blk_cell BK1618.out 1).trans rfl; have hcz26_2 : w24.cell? ⟨gb1618, 2, none⟩ = some (.int .i64 a0_2) := (blk_cell BK1618.out 2).trans rfl; have hfz26_0 := blk_frozen BK1618.out 0; have hfz26_1 := blk_frozen BK1618.out 1; have hfz26_2 := blk_frozen BK1618.out 2; have hcz27_0 : w24.cell? ⟨gb1619, 0, none⟩ = some (.slice A1_0 l1_0.length c1_0) := (blk_cell BK1619.out 0).trans rfl; have hcz27_1 : w24.cell? ⟨gb1619, 1, none⟩ = some (.int .i64 a1_1) := (blk_cell BK1619.out 1).trans rfl; have hcz27_2 : w24.cell? ⟨gb1619, 2, none⟩ = some (.int .i64 a1_2) := (blk_cell BK1619.out 2).trans rfl; have hfz27_0 := blk_frozen BK1619.out 0; have hfz27_1 := blk_frozen BK1619.out 1; have hfz27_2 := blk_frozen BK1619.out 2) | ((with_reducible refine gate_callee (f := 151) rfl ?_); refine goesL_ (some 9) rfl rfl Try.func151 (by kernel_rfl) rfl #[.slice A0_0 l0_0.length c0_0, .slice A1_0 l1_0.length c1_0] rfl (by (try simp only [List.map_toArray, List.map_cons, List.map_nil]); rfl) ?_; (with_reducible refine (laws_eqTaskS.calls k _ _ l0_0 _ _ l1_0 true _ ?side1 ?side2 ?side3 ?side4 A3.out).mono ?_); (case side1 => repeat (exact (Kd.C_below HR0_0.out HB.out))); (case side2 => exact HC0_0.out); (case side3 => repeat (exact (Kd.C_below HR1_0.out HB.out))); (case side4 => exact HC1_0.out); rintro e w28 ⟨rfl, hb⟩; refine ⟨_, rfl, ?_⟩; have n0_ := Aside0.mk (blk_below (g := gb1618) (o := .cells #[.slice A0_0 l0_0.length c0_0, .int .i64 a0_1, .int .i64 a0_2] 68 (0, 0)) BK1618.out hb); have n1_ := Aside0.mk (blk_below (g := gb1619) (o := .cells #[.slice A1_0 l1_0.length c1_0, .int .i64 a1_1, .int .i64 a1_2] 68 (0, 0)) BK1619.out hb); have n2_ := Aside0.mk (below_step HB.out hb); clear BK1618; clear BK1619; clear HB; have BK1618 := n0_; have BK1619 := n1_; have HB := n2_; clear n0_ n1_ n2_; (try clear hb); have hcz29_0 : w28.cell? ⟨gb1618, 0, none⟩ = some (.slice A0_0 l0_0.length c0_0) := (blk_cell BK1618.out 0).trans rfl; have hcz29_1 : w28.cell? ⟨gb1618, 1, none⟩ = some (.int .i64 a0_1) := (blk_cell BK1618.out 1).trans rfl; have hcz29_2 : w28.cell? ⟨gb1618, 2, none⟩ = some (.int .i64 a0_2) := (blk_cell BK1618.out 2).trans rfl; have hfz29_0 := blk_frozen BK1618.out 0; have hfz29_1 := blk_frozen BK1618.out 1; have hfz29_2 := blk_frozen BK1618.out 2; have hcz30_0 : w28.cell? ⟨gb1619, 0, none⟩ = some (.slice A1_0 l1_0.length c1_0) := (blk_cell BK1619.out 0).trans rfl; have hcz30_1 : w28.cell? ⟨gb1619, 1, none⟩ = some (.int .i64 a1_1) := (blk_cell BK1619.out 1).trans rfl; have hcz30_2 : w28.cell? ⟨gb1619, 2, none⟩ = some (.int .i64 a1_2) := (blk_cell BK1619.out 2).trans rfl; have hfz30_0 := blk_frozen BK1619.out 0; have hfz30_1 := blk_frozen BK1619.out 1; have hfz30_2 := blk_frozen BK1619.out 2))
   go_ret
   exact ⟨rfl, HB.out⟩
 ·replace c4 := Bool.eq_false_iff.mpr c4
  subst c4
  rw [if_neg (show ¬ (false = true) by decide)] at H
  obtain rfl := Option.some.inj H
  go_enter Try.func53, Try.ntmps53
  go_wp2_with (first | ((with_reducible refine gate_dst (N := 2) rfl ?_); refine box_event ?hg (N := 2) ?hd (cs := #[.slice A0_0 l0_0.length c0_0, .int .i64 a0_1, .int .i64 a0_2]) (t := 68) ?hr ?_; (case hd => rfl); (case hg => rfl); (case hr => (go_simp; done)); intro gb1618 hg w31 hbox hb; have n0_ := Aside0.mk (below_step HB.out hb); have n1_ := Aside0.mk (hbox); have n2_ := Aside0.mk ((by rw [hg]; exact (below_size HB.out) : w.heap.size ≤ gb1618)); have n3_ := Aside0.mk ((by rw [hg]; exact (below_size HB.out) : w.heap.size ≤ gb1618)); clear HB; have HB := n0_; have BK1618 := n1_; have GW1618 := n2_; have GE1618 := n3_; clear n0_ n1_ n2_ n3_; clear hb hbox hg) | ((with_reducible refine gate_dst (N := 3) rfl ?_); refine box_event ?hg (N := 3) ?hd (cs := #[.slice A1_0 l1_0.length c1_0, .int .i64 a1_1, .int .i64 a1_2]) (t := 68) ?hr ?_; (case hd => rfl); (case hg => rfl); (case hr => (go_simp; done)); intro gb1619 hg w32 hbox hb; have n0_ := Aside0.mk (blk_below (g := gb1618) (o := .cells #[.slice A0_0 l0_0.length c0_0, .int .i64 a0_1, .int .i64 a0_2] 68 (0, 0)) BK1618.out hb); have n1_ := Aside0.mk (below_step HB.out hb); have n2_ := Aside0.mk (hbox); have n3_ := Aside0.mk ((by rw [hg]; exact (below_size HB.out) : w.heap.size ≤ gb1619)); have n4_ := Aside0.mk ((by rw [hg]; exact (below_size HB.out) : w.heap.size ≤ gb1619)); have n5_ := Aside0.mk ((by rw [hg]; exact Nat.ne_of_lt (blk_lt (g := gb1618) (o := .cells #[.slice A0_0 l0_0.length c0_0, .int .i64 a0_1, .int .i64 a0_2] 68 (0, 0)) BK1618.out) : gb1618 ≠ gb1619)); have n6_ := Aside0.mk ((by rw [hg]; exact Nat.ne_of_gt (blk_lt (g := gb1618) (o := .cells #[.slice A0_0 l0_0.length c0_0, .int .i64 a0_1, .int .i64 a0_2] 68 (0, 0)) BK1618.out) : gb1619 ≠ gb1618)); clear BK1618; clear HB; have BK1618 := n0_; have HB := n1_; have BK1619 := n2_; have GW1619 := n3_; have GE1619 := n4_; have NB1618_1619 := n5_; have NB1619_1618 := n6_; clear n0_ n1_ n2_ n3_ n4_ n5_ n6_; clear hb hbox hg; have hnb33 := NB1618_1619.out; have hnc33 := NB1619_1618.out; have hcz34_0 : w32.cell? ⟨gb1618, 0, none⟩ = some (.slice A0_0 l0_0.length c0_0) := (blk_cell BK1618.out 0).trans rfl; have hcz34_1 : w32.cell? ⟨gb1618, 1, none⟩ = some (.int .i64 a0_1) := (blk_cell BK1618.out 1).trans rfl; have hcz34_2 : w32.cell? ⟨gb1618, 2, none⟩ = some (.int .i64 a0_2) := (blk_cell BK1618.out 2).trans rfl; have hfz34_0 := blk_frozen BK1618.out 0; have hfz34_1 := blk_frozen BK1618.out 1; have hfz34_2 := blk_frozen BK1618.out 2; have hcz35_0 : w32.cell? ⟨gb1619, 0, none⟩ = some (.slice A1_0 l1_0.length c1_0) := (blk_cell BK1619.out 0).trans rfl; have hcz35_1 : w32.cell? ⟨gb1619, 1, none⟩ = some (.int .i64 a1_1) := (blk_cell BK1619.out 1).trans rfl; have hcz35_2 : w32.cell? ⟨gb1619, 2, none⟩ = some (.int .i64 a1_2) := (blk_cell BK1619.out 2).trans rfl; have hfz35_0 := blk_frozen BK1619.out 0; have hfz35_1 := blk_frozen BK1619.out 1; have hfz35_2 := blk_frozen BK1619.out 2) | ((with_reducible refine gate_callee (f := 151) rfl ?_); refine goesL_ (some 9) rfl rfl Try.func151 (by kernel_rfl) rfl #[.slice A0_0 l0_0.length c0_0, .slice A1_0 l1_0.length c1_0] rfl (by (try simp only [List.map_toArray, List.map_cons, List.map_nil]); rfl) ?_; (with_reducible refine (laws_eqTaskS.calls k _ _ l0_0 _ _ l1_0 false _ ?side1 ?side2 ?side3 ?side4 A3.out).mono ?_); (case side1 => repeat (exact (Kd.C_below HR0_0.out HB.out))); (case side2 => exact HC0_0.out); (case side3 => repeat (exact (Kd.C_below HR1_0.out HB.out))); (case side4 => exact HC1_0.out); rintro e w36 ⟨rfl, hb⟩; refine ⟨_, rfl, ?_⟩; have n0_ := Aside0.mk (blk_below (g := gb1618) (o := .cells #[.slice A0_0 l0_0.length c0_0, .int .i64 a0_1, .int .i64 a0_2] 68 (0, 0)) BK1618.out hb); have n1_ := Aside0.mk (blk_below (g := gb1619) (o := .cells #[.slice A1_0 l1_0.length c1_0, .int .i64 a1_1, .int .i64 a1_2] 68 (0, 0)) BK1619.out hb); have n2_ := Aside0.mk (below_step HB.out hb); clear BK1618; clear BK1619; clear HB; have BK1618 := n0_; have BK1619 := n1_; have HB := n2_; clear n0_ n1_ n2_; (try clear hb)))
  go_ret
  exact ⟨rfl, HB.out⟩

def laws_markRowS.l0 : Nat → List (S60) → Int → Int → Option (Int × (List (S60)))
 | 0, _, _, _ => none
 | k + 1, x0, x1, x5 => if x5 < (x0.length : Int) then (if 0 ≤ x5 then ((some (x0.set (x5 : Int).toNat (⟨x1, (rd_T60 x0 x5).f1, (rd_T60 x0 x5).f2⟩ : S60) : List (S60))).bind fun y1324 => ((some (y1324.set (x5 : Int).toNat (⟨(rd_T60 y1324 x5).f0, wrap64 (x1 + 1), (rd_T60 y1324 x5).f2⟩ : S60) : List (S60))).bind fun y1325 => (laws_markRowS.l0 k (y1325.set (x5 : Int).toNat (⟨(rd_T60 y1325 x5).f0, (rd_T60 y1325 x5).f1, wrap64 ((wrap64 (x1 + 1)) + 1)⟩ : S60)) (wrap64 ((wrap64 ((wrap64 (x1 + 1)) + 1)) + 1)) (wrap64 (x5 + 1))))) else (none)) else (some (x1, x0))
def laws_markRowS.f (k : Nat) (l0 : List (S60)) (a1 : Int) : Option (Int × (List (S60))) := laws_markRowS.l0 k l0 a1 0
theorem laws_markRowS.calls (k : Nat) (P0_ : Nat → Prop) (u9000_ : Value) (l0 : List (S60)) (a1 : Int) (r1 : Int) (r2 : List (S60)) (w0 w : World) (hB : Below w0.heap.size w0 w) (ho0 : Kd.R k60 60 w w0.heap.size P0_ u9000_ l0) (h : laws_markRowS.f k l0 a1 = some (r1, r2)) :
  Calls Try.prog 92 #[u9000_, .int .i64 a1] w fun e w' => e = .returned (.int .i64 r1) ∧ Kd.R k60 60 w' w0.heap.size (fun k_ => (P0_ k_ ∨ w.heap.size ≤ k_)) u9000_ r2 ∧ Below w0.heap.size w0 w' ∧ Kept w w' (fun k_ => P0_ k_) := by
 have HO0 := Aside0.mk (show Kd.R k60 60 w w0.heap.size (fun k_ => (P0_ k_ ∨ w.heap.size ≤ k_)) u9000_ l0 from Kd.R_mono ho0 (fun k_ hk => (.inl hk)))
 have HK := Aside0.mk (Kept.refl w (fun k_ => P0_ k_))
 have HW0 := Aside0.mk hB.size
 have HB := Aside0.mk hB
 clear hB
 have H : (laws_markRowS.l0 k l0 a1 0) = some (r1, r2) := h
 clear h
 have H' := Aside0.mk H
 clear H
 go_enter Try.func92, Try.ntmps92
 go_wp2
 go_loopg [1, 5] k (fun kq v1 v5 w' => ∃ (x0_1 : List (S60)) (x1_1 : Int) (x5_1 : Int), v1 = .int .i64 x1_1 ∧ v5 = .int .i64 x5_1 ∧ Aside0 (laws_markRowS.l0 kq x0_1 x1_1 x5_1 = some (r1, r2)) ∧ Aside0 (kq ≤ k) ∧ Aside0 (Kd.R k60 60 w' w0.heap.size (fun k_ => (P0_ k_ ∨ w.heap.size ≤ k_)) u9000_ x0_1) ∧ Aside0 (Kept w w' (fun k_ => P0_ k_)) ∧ Aside0 (Below w0.heap.size w0 w'))
 case atStart => exact ⟨(l0), (a1), (0), rfl, rfl, H', ⟨Nat.le_refl _⟩, ⟨HO0.out⟩, ⟨HK.out⟩, ⟨HB.out⟩⟩
 case round =>
  clear H'
  obtain ⟨x0_1, x1_1, x5_1, rfl, rfl, HA, HK1, HO_0, HK, HB⟩ := hrel
  cases gk with
  | zero => exact absurd HA.out (by simp [laws_markRowS.l0])
  | succ k1 =>
   have H := HA.out
   clear HA
   simp only [laws_markRowS.l0] at H
   by_cases c3 : x5_1 < (x0_1.length : Int)
   ·rw [if_pos c3] at H
    have c3b0 : decide (x5_1 < (x0_1.length : Int)) = true := decide_eq_true c3
    clear c3
    by_cases c4 : 0 ≤ x5_1
    ·rw [if_pos c4] at H
     have c4b0 : decide (0 ≤ x5_1) = true := decide_eq_true c4
     clear c4
     obtain ⟨y1324, hy1324, H⟩ := bindO_ H
     have Ny1324 := Aside0.mk hy1324
     clear hy1324
     obtain ⟨y1325, hy1325, H⟩ := bindO_ H
     have Ny1325 := Aside0.mk hy1325
     clear hy1325
     obtain ⟨y1326, hy1326⟩ : ∃ y_ : List (S60), y_ = (y1325.set (x5_1 : Int).toNat (⟨(rd_T60 y1325 x5_1).f0, (rd_T60 y1325 x5_1).f1, wrap64 ((wrap64 (x1_1 + 1)) + 1)⟩ : S60)) := ⟨_, rfl⟩
     replace H : (laws_markRowS.l0 k1 y1326 (wrap64 ((wrap64 ((wrap64 (x1_1 + 1)) + 1)) + 1)) (wrap64 (x5_1 + 1))) = some (r1, r2) := by (rw [hy1326]; with_reducible exact H)
     have Ny1326 := Aside0.mk hy1326
     clear hy1326
     have H' := Aside0.mk H
     clear H
     obtain ⟨Ao8, co8, eo8⟩ := Kd.R_slice HO_0.out
     subst eo8
     have p5 : 0 ≤ (x5_1 : Int) := of_decide_eq_true (by (with_reducible assumption))
     have q5 : (x5_1 : Int) < ((x0_1.length : Int) : Int) := of_decide_eq_true (by (with_reducible assumption))
     obtain ⟨go5, co5, eo5, gb5, gl5, cl5, HG5⟩ := Kd.R_form HO_0.out (by omega)
     (cases eo5)
     have GB5 := Aside0.mk gb5
     have GG5 := Aside0.mk HG5
     clear gb5 gl5 HG5
     have HMgo5 := Aside0.mk (show (P0_ go5 ∨ w.heap.size ≤ go5) from (HO_0.out.1 _ rfl))
     obtain ⟨ce5, hcl5, hM5, hcc5, hfr5⟩ := Kd.R_elem HO_0.out z60 (x5_1 : Int) p5 q5
     obtain rfl := k60_openM hM5
     have hx5_0 : wr.cell? ⟨go5, (x5_1 : Int).toNat * 3, none⟩ = some (.int .i64 ((rd_T60 x0_1 x5_1).f0)) := hcc5 0 _ rfl
     have hx5_1 : wr.cell? ⟨go5, (x5_1 : Int).toNat * 3 + 1, none⟩ = some (.int .i64 ((rd_T60 x0_1 x5_1).f1)) := hcc5 1 _ rfl
     have hx5_2 : wr.cell? ⟨go5, (x5_1 : Int).toNat * 3 + 2, none⟩ = some (.int .i64 ((rd_T60 x0_1 x5_1).f2)) := hcc5 2 _ rfl
     have hf5_0 : wr.frozen? ⟨go5, (x5_1 : Int).toNat * 3, none⟩ = false := hfr5 0
     have hf5_1 : wr.frozen? ⟨go5, (x5_1 : Int).toNat * 3 + 1, none⟩ = false := hfr5 1
     have hf5_2 : wr.frozen? ⟨go5, (x5_1 : Int).toNat * 3 + 2, none⟩ = false := hfr5 2
     clear hcl5 hcc5 hfr5 hM5
     replace p5 := eq_true p5
     replace q5 := eq_true q5
     have HX9 := Aside0.mk (show Kd.R k60 60 wr w0.heap.size (fun k_ => (P0_ k_ ∨ w.heap.size ≤ k_)) (.slice (some ⟨go5, 0, none⟩) x0_1.length co8) x0_1 from HO_0.out)
     obtain ⟨ce9, hcl9, hM9, hcc9, hfr9⟩ := Kd.R_elem HX9.out z60 (x5_1 : Int) (of_decide_eq_true (by (with_reducible assumption))) (by have h_ : (x5_1 : Int) < ((x0_1.length : Int) : Int) := of_decide_eq_true (by (with_reducible assumption)); exact h_)
     obtain rfl := k60_openM hM9
     have HP9 := Kd.R_seg HX9.out (x5_1 : Int) (of_decide_eq_true (by (with_reducible assumption))) (by have h_ : (x5_1 : Int) < ((x0_1.length : Int) : Int) := of_decide_eq_true (by (with_reducible assumption)); exact h_) (seg := [.int .i64 x1_1]) (j := 0) hcl9 hcc9 (show 1 ≤ 3 from by decide) (x' := (⟨x1_1, (rd_T60 x0_1 x5_1).f1, (rd_T60 x0_1 x5_1).f2⟩ : S60)) (k60_mkM _ _ _ (⟨x1_1, (rd_T60 x0_1 x5_1).f1, (rd_T60 x0_1 x5_1).f2⟩ : S60)) (fun _ hk => hk)
     have hx9_0 := hcc9 0 _ rfl
     (try simp only [show (k60).sz = 3 from rfl, Nat.mul_one, Nat.add_zero] at hx9_0)
     have hf9_0 := hfr9 0
     (try simp only [show (k60).sz = 3 from rfl, Nat.mul_one, Nat.add_zero] at hf9_0)
     clear hcl9 hcc9 hfr9 hM9
     go_wp2_with (first | ((with_reducible refine gate_store (t := 3) (p := 16) rfl ?_); refine store_event (t := 3) (p := 16) (v := ?vo_w10) (w1 := (wr.setCell ⟨go5, (x5_1 : Int).toNat * 3, none⟩ (.int .i64 x1_1))) ?hg ?ho ?hn ?hr ?_; (case ho => rfl); (case hg => rfl); (case hn => rfl); (case hr => (go_simp; done)); intro w10 hw; have hg : wr.grownBy w10 (some go5) := (by rw [hw]; exact HP9.2); have hp_ : Kd.R k60 60 w10 w0.heap.size (fun k_ => (P0_ k_ ∨ w.heap.size ≤ k_)) (.slice (some ⟨go5, 0, none⟩) x0_1.length co8) y1324 := (by rw [hw, Ny1324.out]; exact HP9.1); clear HP9; have n0_ := Aside0.mk (hp_); have n1_ := Aside0.mk (by rw [hw]; exact below_set HB.out GB5.out : Below w0.heap.size w0 w10); have n2_ := Aside0.mk (Kept.of_grown (S := (fun k_ => P0_ k_)) hg HK.out (fun k_ e_ => (HO_0.out.1 k_ e_))); clear HO_0; clear HB; clear HK; have HO_0 := n0_; have HB := n1_; have HK := n2_; clear n0_ n1_ n2_; clear hg hw hp_; have p6 : 0 ≤ (x5_1 : Int) := of_decide_eq_true (by (with_reducible assumption)); have q6 : (x5_1 : Int) < ((x0_1.length : Int) : Int) := of_decide_eq_true (by (with_reducible assumption)); obtain ⟨ce6, hcl6, hM6, hcc6, hfr6⟩ := Kd.R_elem HO_0.out z60 (x5_1 : Int) p6 q6; obtain rfl := k60_openM hM6; have hx6_0 : w10.cell? ⟨go5, (x5_1 : Int).toNat * 3, none⟩ = some (.int .i64 ((rd_T60 y1324 x5_1).f0)) := hcc6 0 _ rfl; have hx6_1 : w10.cell? ⟨go5, (x5_1 : Int).toNat * 3 + 1, none⟩ = some (.int .i64 ((rd_T60 y1324 x5_1).f1)) := hcc6 1 _ rfl; have hx6_2 : w10.cell? ⟨go5, (x5_1 : Int).toNat * 3 + 2, none⟩ = some (.int .i64 ((rd_T60 y1324 x5_1).f2)) := hcc6 2 _ rfl; have hf6_0 : w10.frozen? ⟨go5, (x5_1 : Int).toNat * 3, none⟩ = false := hfr6 0; have hf6_1 : w10.frozen? ⟨go5, (x5_1 : Int).toNat * 3 + 1, none⟩ = false := hfr6 1; have hf6_2 : w10.frozen? ⟨go5, (x5_1 : Int).toNat * 3 + 2, none⟩ = false := hfr6 2; clear hcl6 hcc6 hfr6 hM6; replace p6 := eq_true p6; replace q6 := eq_true q6; have HX11 := Aside0.mk (show Kd.R k60 60 w10 w0.heap.size (fun k_ => (P0_ k_ ∨ w.heap.size ≤ k_)) (.slice (some ⟨go5, 0, none⟩) x0_1.length co8) y1324 from HO_0.out); obtain ⟨ce11, hcl11, hM11, hcc11, hfr11⟩ := Kd.R_elem HX11.out z60 (x5_1 : Int) (of_decide_eq_true (by (with_reducible assumption))) (by have h_ : (x5_1 : Int) < ((x0_1.length : Int) : Int) := of_decide_eq_true (by (with_reducible assumption)); exact h_); obtain rfl := k60_openM hM11; have HP11 := Kd.R_seg HX11.out (x5_1 : Int) (of_decide_eq_true (by (with_reducible assumption))) (by have h_ : (x5_1 : Int) < ((x0_1.length : Int) : Int) := of_decide_eq_true (by (with_reducible assumption)); exact h_) (seg := [.int .i64 (wrap64 (x1_1 + 1))]) (j := 1) hcl11 hcc11 (show 2 ≤ 3 from by decide) (x' := (⟨(rd_T60 y1324 x5_1).f0, wrap64 (x1_1 + 1), (rd_T60 y1324 x5_1).f2⟩ : S60)) (k60_mkM _ _ _ (⟨(rd_T60 y1324 x5_1).f0, wrap64 (x1_1 + 1), (rd_T60 y1324 x5_1).f2⟩ : S60)) (fun _ hk => hk); have hx11_1 := hcc11 1 _ rfl; (try simp only [show (k60).sz = 3 from rfl, Nat.mul_one, Nat.add_zero] at hx11_1); have hf11_1 := hfr11 1; (try simp only [show (k60).sz = 3 from rfl, Nat.mul_one, Nat.add_zero] at hf11_1); clear hcl11 hcc11 hfr11 hM11) | ((with_reducible refine gate_store (t := 3) (p := 23) rfl ?_); refine store_event (t := 3) (p := 23) (v := ?vo_w12) (w1 := (w10.setCell ⟨go5, (x5_1 : Int).toNat * 3 + 1, none⟩ (.int .i64 (wrap64 (x1_1 + 1))))) ?hg ?ho ?hn ?hr ?_; (case ho => rfl); (case hg => rfl); (case hn => rfl); (case hr => (go_simp; done)); intro w12 hw; have hg : w10.grownBy w12 (some go5) := (by rw [hw]; exact HP11.2); have hp_ : Kd.R k60 60 w12 w0.heap.size (fun k_ => (P0_ k_ ∨ w.heap.size ≤ k_)) (.slice (some ⟨go5, 0, none⟩) x0_1.length co8) y1325 := (by rw [hw, Ny1325.out]; exact HP11.1); clear HP11; have n0_ := Aside0.mk (hp_); have n1_ := Aside0.mk (by rw [hw]; exact below_set HB.out GB5.out : Below w0.heap.size w0 w12); have n2_ := Aside0.mk (Kept.of_grown (S := (fun k_ => P0_ k_)) hg HK.out (fun k_ e_ => (HO_0.out.1 k_ e_))); clear HO_0; clear HB; clear HK; have HO_0 := n0_; have HB := n1_; have HK := n2_; clear n0_ n1_ n2_; clear hg hw hp_; have p7 : 0 ≤ (x5_1 : Int) := of_decide_eq_true (by (with_reducible assumption)); have q7 : (x5_1 : Int) < ((x0_1.length : Int) : Int) := of_decide_eq_true (by (with_reducible assumption)); obtain ⟨ce7, hcl7, hM7, hcc7, hfr7⟩ := Kd.R_elem HO_0.out z60 (x5_1 : Int) p7 q7; obtain rfl := k60_openM hM7; have hx7_0 : w12.cell? ⟨go5, (x5_1 : Int).toNat * 3, none⟩ = some (.int .i64 ((rd_T60 y1325 x5_1).f0)) := hcc7 0 _ rfl; have hx7_1 : w12.cell? ⟨go5, (x5_1 : Int).toNat * 3 + 1, none⟩ = some (.int .i64 ((rd_T60 y1325 x5_1).f1)) := hcc7 1 _ rfl; have hx7_2 : w12.cell? ⟨go5, (x5_1 : Int).toNat * 3 + 2, none⟩ = some (.int .i64 ((rd_T60 y1325 x5_1).f2)) := hcc7 2 _ rfl; have hf7_0 : w12.frozen? ⟨go5, (x5_1 : Int).toNat * 3, none⟩ = false := hfr7 0; have hf7_1 : w12.frozen? ⟨go5, (x5_1 : Int).toNat * 3 + 1, none⟩ = false := hfr7 1; have hf7_2 : w12.frozen? ⟨go5, (x5_1 : Int).toNat * 3 + 2, none⟩ = false := hfr7 2; clear hcl7 hcc7 hfr7 hM7; replace p7 := eq_true p7; replace q7 := eq_true q7; have HX13 := Aside0.mk (show Kd.R k60 60 w12 w0.heap.size (fun k_ => (P0_ k_ ∨ w.heap.size ≤ k_)) (.slice (some ⟨go5, 0, none⟩) x0_1.length co8) y1325 from HO_0.out); obtain ⟨ce13, hcl13, hM13, hcc13, hfr13⟩ := Kd.R_elem HX13.out z60 (x5_1 : Int) (of_decide_eq_true (by (with_reducible assumption))) (by have h_ : (x5_1 : Int) < ((x0_1.length : Int) : Int) := of_decide_eq_true (by (with_reducible assumption)); exact h_); obtain rfl := k60_openM hM13; have HP13 := Kd.R_seg HX13.out (x5_1 : Int) (of_decide_eq_true (by (with_reducible assumption))) (by have h_ : (x5_1 : Int) < ((x0_1.length : Int) : Int) := of_decide_eq_true (by (with_reducible assumption)); exact h_) (seg := [.int .i64 (wrap64 ((wrap64 (x1_1 + 1)) + 1))]) (j := 2) hcl13 hcc13 (show 3 ≤ 3 from by decide) (x' := (⟨(rd_T60 y1325 x5_1).f0, (rd_T60 y1325 x5_1).f1, wrap64 ((wrap64 (x1_1 + 1)) + 1)⟩ : S60)) (k60_mkM _ _ _ (⟨(rd_T60 y1325 x5_1).f0, (rd_T60 y1325 x5_1).f1, wrap64 ((wrap64 (x1_1 + 1)) + 1)⟩ : S60)) (fun _ hk => hk); have hx13_2 := hcc13 2 _ rfl; (try simp only [show (k60).sz = 3 from rfl, Nat.mul_one, Nat.add_zero] at hx13_2); have hf13_2 := hfr13 2; (try simp only [show (k60).sz = 3 from rfl, Nat.mul_one, Nat.add_zero] at hf13_2); clear hcl13 hcc13 hfr13 hM13) | ((with_reducible refine gate_store (t := 3) (p := 30) rfl ?_); refine store_event (t := 3) (p := 30) (v := ?vo_w14) (w1 := (w12.setCell ⟨go5, (x5_1 : Int).toNat * 3 + 2, none⟩ (.int .i64 (wrap64 ((wrap64 (x1_1 + 1)) + 1))))) ?hg ?ho ?hn ?hr ?_; (case ho => rfl); (case hg => rfl); (case hn => rfl); (case hr => (go_simp; done)); intro w14 hw; have hg : w12.grownBy w14 (some go5) := (by rw [hw]; exact HP13.2); have hp_ : Kd.R k60 60 w14 w0.heap.size (fun k_ => (P0_ k_ ∨ w.heap.size ≤ k_)) (.slice (some ⟨go5, 0, none⟩) x0_1.length co8) y1326 := (by rw [hw, Ny1326.out]; exact HP13.1); clear HP13; have n0_ := Aside0.mk (hp_); have n1_ := Aside0.mk (by rw [hw]; exact below_set HB.out GB5.out : Below w0.heap.size w0 w14); have n2_ := Aside0.mk (Kept.of_grown (S := (fun k_ => P0_ k_)) hg HK.out (fun k_ e_ => (HO_0.out.1 k_ e_))); clear HO_0; clear HB; clear HK; have HO_0 := n0_; have HB := n1_; have HK := n2_; clear n0_ n1_ n2_; clear hg hw hp_))
     go_roundg k1
     case measure => have := HK1.out; omega
     case rel => exact ⟨(y1326), (wrap64 ((wrap64 ((wrap64 (x1_1 + 1)) + 1)) + 1)), (wrap64 (x5_1 + 1)), rfl, rfl, H', ⟨by have := HK1.out; omega⟩, ⟨HO_0.out⟩, ⟨HK.out⟩, ⟨HB.out⟩⟩
    ·rw [if_neg c4] at H
     exact absurd H (by simp)
   ·rw [if_neg c3] at H
    have c3b0 : decide (x5_1 < (x0_1.length : Int)) = false := decide_eq_false c3
    clear c3
    simp only [Option.some.injEq, Prod.mk.injEq] at H
    obtain ⟨rfl, rfl⟩ := H
    obtain ⟨Ao15, co15, eo15⟩ := Kd.R_slice HO_0.out
    subst eo15
    go_wp2
    go_ret
    exact ⟨rfl, HO_0.out, HB.out, HK.out⟩

theorem rd_set40 (xs : List S40) (i : Int) (y : S40) (h : i.toNat < xs.length) : rd_T40 (xs.set i.toNat y) i = y := by
 unfold rd_T40
 rw [List.getD_eq_getElem?_getD, List.getElem?_set_self h]
 rfl
def laws_markTaskS.l0 : Nat → List (S40) → Int → Int → Option (Int × (List (S40)))
 | 0, _, _, _ => none
 | k + 1, x0, x1, x5 => if x5 < (x0.length : Int) then (if 0 ≤ x5 then ((laws_markRowS.f k (rd_T40 x0 x5).f1 (wrap64 (x1 + 1))).bind fun b1 => ((laws_markRowS.f k (rd_T40 x0 x5).f2 b1.1).bind fun b2 => ((laws_markBoolS.f k (rd_T40 x0 x5).f3 b2.1).bind fun b3 => (laws_markTaskS.l0 k (x0.set (x5 : Int).toNat (⟨x1, b1.2, b2.2, b3.2, b3.1⟩ : S40)) (wrap64 (b3.1 + 1)) (wrap64 (x5 + 1)))))) else (none)) else (some (x1, x0))
def laws_markTaskS.f (k : Nat) (l0 : List (S40)) (a1 : Int) : Option (Int × (List (S40))) := laws_markTaskS.l0 k l0 a1 0
theorem laws_markTaskS.calls (k : Nat) (P0_ : Nat → Prop) (u9000_ : Value) (l0 : List (S40)) (a1 : Int) (r1 : Int) (r2 : List (S40)) (w0 w : World) (hB : Below w0.heap.size w0 w) (ho0 : Kd.S k40a 40 w w0.heap.size P0_ u9000_ l0) (h : laws_markTaskS.f k l0 a1 = some (r1, r2)) :
  Calls Try.prog 152 #[u9000_, .int .i64 a1] w fun e w' => e = .returned (.int .i64 r1) ∧ Kd.S k40a 40 w' w0.heap.size (fun k_ => (P0_ k_ ∨ w.heap.size ≤ k_)) u9000_ r2 ∧ Below w0.heap.size w0 w' ∧ Kept w w' (fun k_ => P0_ k_) := by
 have HO0 := Aside0.mk (show Kd.S k40a 40 w w0.heap.size (fun k_ => (P0_ k_ ∨ w.heap.size ≤ k_)) u9000_ l0 from Kd.S_mono ho0 (fun k_ hk => (.inl hk)))
 have HK := Aside0.mk (Kept.refl w (fun k_ => P0_ k_))
 have HW0 := Aside0.mk hB.size
 have HB := Aside0.mk hB
 clear hB
 have H : (laws_markTaskS.l0 k l0 a1 0) = some (r1, r2) := h
 clear h
 have H' := Aside0.mk H
 clear H
 go_enter Try.func152, Try.ntmps152
 go_wp2
 go_loopg [1, 5] k (fun kq v1 v5 w' => ∃ (x0_1 : List (S40)) (x1_1 : Int) (x5_1 : Int), v1 = .int .i64 x1_1 ∧ v5 = .int .i64 x5_1 ∧ Aside0 (laws_markTaskS.l0 kq x0_1 x1_1 x5_1 = some (r1, r2)) ∧ Aside0 (kq ≤ k) ∧ Aside0 (Kd.S k40a 40 w' w0.heap.size (fun k_ => (P0_ k_ ∨ w.heap.size ≤ k_)) u9000_ x0_1) ∧ Aside0 (Kept w w' (fun k_ => P0_ k_)) ∧ Aside0 (Below w0.heap.size w0 w'))
 case atStart => exact ⟨(l0), (a1), (0), rfl, rfl, H', ⟨Nat.le_refl _⟩, ⟨HO0.out⟩, ⟨HK.out⟩, ⟨HB.out⟩⟩
 case round =>
  clear H'
  obtain ⟨x0_1, x1_1, x5_1, rfl, rfl, HA, HK1, HO_0, HK, HB⟩ := hrel
  cases gk with
  | zero => exact absurd HA.out (by simp [laws_markTaskS.l0])
  | succ k1 =>
   have H := HA.out
   clear HA
   simp only [laws_markTaskS.l0] at H
   by_cases c3 : x5_1 < (x0_1.length : Int)
   ·rw [if_pos c3] at H
    have c3b0 : decide (x5_1 < (x0_1.length : Int)) = true := decide_eq_true c3
    by_cases c4 : 0 ≤ x5_1
    ·rw [if_pos c4] at H
     have c4b0 : decide (0 ≤ x5_1) = true := decide_eq_true c4
     have hlt : (x5_1 : Int).toNat < x0_1.length := by omega
     clear c3 c4
     obtain ⟨⟨t1, b1⟩, A1, H1⟩ := Option.bind_eq_some_iff.mp H
     clear H
     obtain ⟨⟨t2, b2⟩, A2, H2⟩ := Option.bind_eq_some_iff.mp H1
     clear H1
     obtain ⟨⟨t3, b3⟩, A3, H⟩ := Option.bind_eq_some_iff.mp H2
     clear H2
     dsimp only at A2 A3 H
     replace A1 := Aside0.mk A1
     replace A2 := Aside0.mk A2
     replace A3 := Aside0.mk A3
     have H' := Aside0.mk H
     clear H
     obtain ⟨Ao8, co8, eo8⟩ := Kd.S_slice HO_0.out
     subst eo8
     have p5 : 0 ≤ (x5_1 : Int) := of_decide_eq_true (by (with_reducible assumption))
     have q5 : (x5_1 : Int) < ((x0_1.length : Int) : Int) := of_decide_eq_true (by (with_reducible assumption))
     obtain ⟨go5, co5, eo5, gb5, gl5, cl5, HG5⟩ := Kd.S_form HO_0.out (by omega)
     (cases eo5)
     have GB5 := Aside0.mk gb5
     clear gb5 gl5 HG5
     have HMgo5 := Aside0.mk (show (P0_ go5 ∨ w.heap.size ≤ go5) from ((Kd.S_R HO_0.out).1 _ rfl))
     have HPa := (S40_put HO_0.out (x5_1 : Int) p5 q5 x1_1).1
     obtain ⟨va1, va2, va3, ⟨hxa_0, hxa_1, hxa_2, hxa_3, hxa_4⟩, hfra, -⟩ := S40_open HO_0.out (x5_1 : Int) p5 q5
     have hfa_0 := hfra 0
     (try simp only [Nat.add_zero] at hfa_0)
     clear hfra
     replace p5 := eq_true p5
     replace q5 := eq_true q5
     go_wp2_with (first | ((with_reducible refine gate_store (t := 3) (p := 16) rfl ?_); refine store_event (t := 3) (p := 16) (v := ?vo_w10) (w1 := (wr.setCell ⟨go5, (x5_1 : Int).toNat * 5, none⟩ (.int .i64 x1_1))) ?hg ?ho ?hn ?hr ?_; (case ho => rfl); (case hg => rfl); (case hn => rfl); (case hr => (go_simp; done)); intro w10 hw; have hg : wr.grownBy w10 (some go5) := (by rw [hw]; exact HPa.2); have hp_ : Kd.S k40a 40 w10 w0.heap.size (fun k_ => (P0_ k_ ∨ w.heap.size ≤ k_)) (.slice (some ⟨go5, 0, none⟩) x0_1.length co8) (x0_1.set (x5_1 : Int).toNat (⟨x1_1, (rd_T40 x0_1 x5_1).f1, (rd_T40 x0_1 x5_1).f2, (rd_T40 x0_1 x5_1).f3, (rd_T40 x0_1 x5_1).f4⟩ : S40)) := (by rw [hw]; exact HPa.1); clear HPa; have n0_ := Aside0.mk (hp_); have n1_ := Aside0.mk (by rw [hw]; exact below_set HB.out GB5.out : Below w0.heap.size w0 w10); have n2_ := Aside0.mk (Kept.of_grown (S := (fun k_ => P0_ k_)) hg HK.out (fun k_ e_ => by cases e_; exact HMgo5.out)); clear HO_0; clear HB; clear HK; have HO_0 := n0_; have HB := n1_; have HK := n2_; clear n0_ n1_ n2_; clear hg hw hp_; obtain ⟨vb1, vb2, vb3, ⟨hxb_0, hxb_1, hxb_2, hxb_3, hxb_4⟩, hfrb, gb1, gb2, gb3, ⟨okb1, okb2, okb3⟩, mb1, mb2, mb3⟩ := S40_open HO_0.out (x5_1 : Int) (of_decide_eq_true (by (with_reducible assumption))) (of_decide_eq_true (by (with_reducible assumption))); rw [rd_set40 _ _ _ hlt] at hxb_0 hxb_4 gb1 gb2 gb3; (try simp only [rd_set40 _ _ _ hlt, List.set_set] at mb1 mb2 mb3); have hfb_0 := hfrb 0; have hfb_1 := hfrb 1; have hfb_2 := hfrb 2; have hfb_3 := hfrb 3; have hfb_4 := hfrb 4; (try simp only [Nat.add_zero] at hfb_0); clear hfrb) | ((with_reducible refine gate_callee (f := 92) rfl ?_); refine goesL_ (some 25) rfl rfl Try.func92 (by kernel_rfl) rfl #[vb1, .int .i64 (wrap64 (x1_1 + 1))] rfl (by (try simp only [List.map_toArray, List.map_cons, List.map_nil]); rfl) ?_; (with_reducible refine (laws_markRowS.calls k1 (fun k_ => some k_ = vb1.ownBlock) vb1 (rd_T40 x0_1 x5_1).f1 (wrap64 (x1_1 + 1)) t1 b1 w0 _ ?side1 ?side2 A1.out).mono ?_); (case side1 => repeat (with_reducible exact HB.out)); (case side2 => exact gb1); rintro e w11 ⟨rfl, hy0, hb, hkp⟩; refine ⟨_, rfl, ?_⟩; have n0_ : Aside0 (Kd.S k40a 40 w11 w0.heap.size (fun k_ => (P0_ k_ ∨ w.heap.size ≤ k_)) (.slice (some ⟨go5, 0, none⟩) x0_1.length co8) (x0_1.set (x5_1 : Int).toNat (⟨x1_1, b1, (rd_T40 x0_1 x5_1).f2, (rd_T40 x0_1 x5_1).f3, (rd_T40 x0_1 x5_1).f4⟩ : S40))) := ⟨mb1 w11 b1 hkp hy0⟩; have n1_ := Aside0.mk (hb : Below w0.heap.size w0 w11); have n2_ := Aside0.mk (Kept.then_ (S := (fun k_ => P0_ k_)) HK.out hkp (fun k_ hk_ => okb1 k_ hk_)); clear HO_0; clear HB; clear HK; have HO_0 := n0_; have HB := n1_; have HK := n2_; clear n0_ n1_ n2_; clear hy0 hkp hb mb1 mb2 mb3 okb1 okb2 okb3; obtain ⟨vc1, vc2, vc3, ⟨hxc_0, hxc_1, hxc_2, hxc_3, hxc_4⟩, hfrc, gc1, gc2, gc3, ⟨okc1, okc2, okc3⟩, mc1, mc2, mc3⟩ := S40_open HO_0.out (x5_1 : Int) (of_decide_eq_true (by (with_reducible assumption))) (of_decide_eq_true (by (with_reducible assumption))); rw [rd_set40 _ _ _ hlt] at hxc_0 hxc_4 gc1 gc2 gc3; (try simp only [rd_set40 _ _ _ hlt, List.set_set] at mc1 mc2 mc3); have hfc_0 := hfrc 0; have hfc_1 := hfrc 1; have hfc_2 := hfrc 2; have hfc_3 := hfrc 3; have hfc_4 := hfrc 4; (try simp only [Nat.add_zero] at hfc_0); clear hfrc) | ((with_reducible refine gate_callee (f := 92) rfl ?_); refine goesL_ (some 32) rfl rfl Try.func92 (by kernel_rfl) rfl #[vc2, .int .i64 t1] rfl (by (try simp only [List.map_toArray, List.map_cons, List.map_nil]); rfl) ?_; (with_reducible refine (laws_markRowS.calls k1 (fun k_ => some k_ = vc2.ownBlock) vc2 (rd_T40 x0_1 x5_1).f2 t1 t2 b2 w0 _ ?side1 ?side2 A2.out).mono ?_); (case side1 => repeat (with_reducible exact HB.out)); (case side2 => exact gc2); rintro e w12 ⟨rfl, hy0, hb, hkp⟩; refine ⟨_, rfl, ?_⟩; have n0_ : Aside0 (Kd.S k40a 40 w12 w0.heap.size (fun k_ => (P0_ k_ ∨ w.heap.size ≤ k_)) (.slice (some ⟨go5, 0, none⟩) x0_1.length co8) (x0_1.set (x5_1 : Int).toNat (⟨x1_1, b1, b2, (rd_T40 x0_1 x5_1).f3, (rd_T40 x0_1 x5_1).f4⟩ : S40))) := ⟨mc2 w12 b2 hkp hy0⟩; have n1_ := Aside0.mk (hb : Below w0.heap.size w0 w12); have n2_ := Aside0.mk (Kept.then_ (S := (fun k_ => P0_ k_)) HK.out hkp (fun k_ hk_ => okc2 k_ hk_)); clear HO_0; clear HB; clear HK; have HO_0 := n0_; have HB := n1_; have HK := n2_; clear n0_ n1_ n2_; clear hy0 hkp hb mc1 mc2 mc3 okc1 okc2 okc3; obtain ⟨vd1, vd2, vd3, ⟨hxd_0, hxd_1, hxd_2, hxd_3, hxd_4⟩, hfrd, gd1, gd2, gd3, ⟨okd1, okd2, okd3⟩, md1, md2, md3⟩ := S40_open HO_0.out (x5_1 : Int) (of_decide_eq_true (by (with_reducible assumption))) (of_decide_eq_true (by (with_reducible assumption))); rw [rd_set40 _ _ _ hlt] at hxd_0 hxd_4 gd1 gd2 gd3; (try simp only [rd_set40 _ _ _ hlt, List.set_set] at md1 md2 md3); have hfd_0 := hfrd 0; have hfd_1 := hfrd 1; have hfd_2 := hfrd 2; have hfd_3 := hfrd 3; have hfd_4 := hfrd 4; (try simp only [Nat.add_zero] at hfd_0); clear hfrd) | ((with_reducible refine gate_callee (f := 143) rfl ?_); refine goesL_ (some 39) rfl rfl Try.func143 (by kernel_rfl) rfl #[vd3, .int .i64 t2] rfl (by (try simp only [List.map_toArray, List.map_cons, List.map_nil]); rfl) ?_; (with_reducible refine (laws_markBoolS.calls k1 (fun k_ => some k_ = vd3.ownBlock) vd3 (rd_T40 x0_1 x5_1).f3 t2 t3 b3 w0 _ ?side1 ?side2 A3.out).mono ?_); (case side1 => repeat (with_reducible exact HB.out)); (case side2 => exact gd3); rintro e w13 ⟨rfl, hy0, hb, hkp⟩; refine ⟨_, rfl, ?_⟩; have n0_ : Aside0 (Kd.S k40a 40 w13 w0.heap.size (fun k_ => (P0_ k_ ∨ w.heap.size ≤ k_)) (.slice (some ⟨go5, 0, none⟩) x0_1.length co8) (x0_1.set (x5_1 : Int).toNat (⟨x1_1, b1, b2, b3, (rd_T40 x0_1 x5_1).f4⟩ : S40))) := ⟨md3 w13 b3 hkp hy0⟩; have n1_ := Aside0.mk (hb : Below w0.heap.size w0 w13); have n2_ := Aside0.mk (Kept.then_ (S := (fun k_ => P0_ k_)) HK.out hkp (fun k_ hk_ => okd3 k_ hk_)); clear HO_0; clear HB; clear HK; have HO_0 := n0_; have HB := n1_; have HK := n2_; clear n0_ n1_ n2_; clear hy0 hkp hb md1 md2 md3 okd1 okd2 okd3; obtain ⟨ve1, ve2, ve3, ⟨hxe_0, hxe_1, hxe_2, hxe_3, hxe_4⟩, hfre, ge1, ge2, ge3, ⟨oke1, oke2, oke3⟩, me1, me2, me3⟩ := S40_open HO_0.out (x5_1 : Int) (of_decide_eq_true (by (with_reducible assumption))) (of_decide_eq_true (by (with_reducible assumption))); rw [rd_set40 _ _ _ hlt] at hxe_0 hxe_4 ge1 ge2 ge3; (try simp only [rd_set40 _ _ _ hlt, List.set_set] at me1 me2 me3); have hfe_0 := hfre 0; have hfe_1 := hfre 1; have hfe_2 := hfre 2; have hfe_3 := hfre 3; have hfe_4 := hfre 4; (try simp only [Nat.add_zero] at hfe_0); clear hfre; have HPe := (S40_put HO_0.out (x5_1 : Int) (of_decide_eq_true (by (with_reducible assumption))) (of_decide_eq_true (by (with_reducible assumption))) t3).2; (try simp only [rd_set40 _ _ _ hlt, List.set_set] at HPe)) | ((with_reducible refine gate_store (t := 3) (p := 44) rfl ?_); refine store_event (t := 3) (p := 44) (v := ?vo_w14) (w1 := (w13.setCell ⟨go5, (x5_1 : Int).toNat * 5 + 4, none⟩ (.int .i64 t3))) ?hg ?ho ?hn ?hr ?_; (case ho => rfl); (case hg => rfl); (case hn => rfl); (case hr => (go_simp; done)); intro w14 hw; have hg : w13.grownBy w14 (some go5) := (by rw [hw]; exact HPe.2); have hp_ : Kd.S k40a 40 w14 w0.heap.size (fun k_ => (P0_ k_ ∨ w.heap.size ≤ k_)) (.slice (some ⟨go5, 0, none⟩) x0_1.length co8) (x0_1.set (x5_1 : Int).toNat (⟨x1_1, b1, b2, b3, t3⟩ : S40)) := (by rw [hw]; exact HPe.1); clear HPe; have n0_ := Aside0.mk (hp_); have n1_ := Aside0.mk (by rw [hw]; exact below_set HB.out GB5.out : Below w0.heap.size w0 w14); have n2_ := Aside0.mk (Kept.of_grown (S := (fun k_ => P0_ k_)) hg HK.out (fun k_ e_ => by cases e_; exact HMgo5.out)); clear HO_0; clear HB; clear HK; have HO_0 := n0_; have HB := n1_; have HK := n2_; clear n0_ n1_ n2_; clear hg hw hp_))
     go_roundg k1
     case measure => have := HK1.out; omega
     case rel => exact ⟨(x0_1.set (x5_1 : Int).toNat (⟨x1_1, b1, b2, b3, t3⟩ : S40)), (wrap64 (t3 + 1)), (wrap64 (x5_1 + 1)), rfl, rfl, H', ⟨by have := HK1.out; omega⟩, ⟨HO_0.out⟩, ⟨HK.out⟩, ⟨HB.out⟩⟩
    ·rw [if_neg c4] at H
     exact absurd H (by simp)
   ·rw [if_neg c3] at H
    have c3b0 : decide (x5_1 < (x0_1.length : Int)) = false := decide_eq_false c3
    clear c3
    simp only [Option.some.injEq, Prod.mk.injEq] at H
    obtain ⟨rfl, rfl⟩ := H
    obtain ⟨Ao15, co15, eo15⟩ := Kd.S_slice HO_0.out
    subst eo15
    go_wp2
    go_ret
    exact ⟨rfl, HO_0.out, HB.out, HK.out⟩

def laws_markJoiner.f (k : Nat) (l0 : List (S40)) (a0_1 : Int) (a0_2 : Int) (a1 : Int) : Option (Int × (List (S40))) := laws_markTaskS.f k l0 a1
theorem laws_markJoiner.calls (k : Nat) (P0_ : Nat → Prop) (u9000_ : Value) (l0 : List (S40)) (a0_1 : Int) (a0_2 : Int) (a1 : Int) (r1 : Int) (r2 : List (S40)) (w0 w : World) (hB : Below w0.heap.size w0 w) (ho0 : Kd.S k40a 40 w w0.heap.size P0_ u9000_ l0) (h : laws_markJoiner.f k l0 a0_1 a0_2 a1 = some (r1, r2)) :
  Calls Try.prog 54 #[.agg #[u9000_, .int .i64 a0_1, .int .i64 a0_2], .int .i64 a1] w fun e w' => e = .returned (.int .i64 r1) ∧ Kd.S k40a 40 w' w0.heap.size (fun k_ => (P0_ k_ ∨ w.heap.size ≤ k_)) u9000_ r2 ∧ Below w0.heap.size w0 w' ∧ Kept w w' (fun k_ => P0_ k_) := by
 have hu24 := Try.underlying68
 have HO0 := Aside0.mk ho0
 have HB := Aside0.mk hB
 have A1 := Aside0.mk (show laws_markTaskS.f k l0 a1 = some (r1, r2) from h)
 clear hB ho0 h
 obtain ⟨Ao, co, eo⟩ := Kd.S_slice HO0.out
 subst eo
 go_enter Try.func54, Try.ntmps54
 go_wp2_with (first | ((with_reducible refine gate_dst (N := 2) rfl ?_); refine box_event ?hg (N := 2) ?hd (cs := #[.slice Ao l0.length co, .int .i64 a0_1, .int .i64 a0_2]) (t := 68) ?hr ?_; (case hd => rfl); (case hg => rfl); (case hr => (go_simp; done)); intro gb1 hg w9 hbox hb; have n0_ := Aside0.mk (Kd.S_below HO0.out hb); have n1_ := Aside0.mk (below_step HB.out hb); have n2_ : Aside0 (Below w.heap.size w w9) := ⟨hb⟩; clear HO0; clear HB; have HO0 := n0_; have HB := n1_; have HL := n2_; clear n0_ n1_ n2_; have BK1 := Aside0.mk hbox; clear hb hbox hg; have hcz_0 : w9.cell? ⟨gb1, 0, none⟩ = some (.slice Ao l0.length co) := (blk_cell BK1.out 0).trans rfl; have hfz_0 := blk_frozen BK1.out 0) | ((with_reducible refine gate_callee (f := 152) rfl ?_); refine goesL_ (some 8) rfl rfl Try.func152 (by kernel_rfl) rfl #[.slice Ao l0.length co, .int .i64 a1] rfl (by (try simp only [List.map_toArray, List.map_cons, List.map_nil]); rfl) ?_; (with_reducible refine (laws_markTaskS.calls k P0_ (.slice Ao l0.length co) l0 a1 r1 r2 w0 _ ?side1 ?side2 A1.out).mono ?_); (case side1 => repeat (with_reducible exact HB.out)); (case side2 => exact HO0.out); rintro e w11 ⟨rfl, hy0, hb, hkp⟩; refine ⟨_, rfl, ?_⟩; have hL : w.heap.size ≤ w9.heap.size := HL.out.size; have n0_ := Aside0.mk (show Kd.S k40a 40 w11 w0.heap.size (fun k_ => (P0_ k_ ∨ w.heap.size ≤ k_)) (.slice Ao l0.length co) r2 from Kd.S_mono hy0 (fun k_ hk_ => hk_.elim .inl (fun h_ => .inr (Nat.le_trans hL h_)))); have n1_ := Aside0.mk (hb : Below w0.heap.size w0 w11); have n2_ := Aside0.mk (Kept.then_ (S := P0_) (Kept.of_below HL.out P0_) hkp (fun _ h_ => .inl h_)); clear HO0; clear HB; have HO0 := n0_; have HB := n1_; have HK := n2_; clear n0_ n1_ n2_; clear hy0 hb hkp))
 go_ret
 exact ⟨rfl, HO0.out, HB.out, HK.out⟩

def laws_heldRowS.l0 : Nat → List (S60) → Int → Int → Option (Int)
 | 0, _, _, _ => none
 | k + 1, x0, x1, x5 => if x5 < (x0.length : Int) then (if 0 ≤ x5 then (if ((rd_T60 x0 x5).f0) = x1 then (if ((rd_T60 x0 x5).f1) = (wrap64 (x1 + 1)) then (if ((rd_T60 x0 x5).f2) = (wrap64 ((wrap64 (x1 + 1)) + 1)) then (laws_heldRowS.l0 k x0 (wrap64 ((wrap64 ((wrap64 (x1 + 1)) + 1)) + 1)) (wrap64 (x5 + 1))) else (some (-1))) else (some (-1))) else (some (-1))) else (none)) else (some x1)
def laws_heldRowS.f (k : Nat) (l0 : List (S60)) (a1 : Int) : Option (Int) := laws_heldRowS.l0 k l0 a1 0
theorem laws_heldRowS.calls (k : Nat) (A0 : Option Addr) (c0 : Nat) (l0 : List (S60)) (a1 : Int) (r : Int) (w : World) (hr0 : Kd.C k60 w A0 l0.length l0) (hc0 : l0.length ≤ c0) (h : laws_heldRowS.f k l0 a1 = some r) :
  Calls Try.prog 144 #[.slice A0 l0.length c0, .int .i64 a1] w fun e w' => e = .returned (.int .i64 r) ∧ Drawn0 w w' := by
 have HR0 := Aside0.mk hr0
 have HC0 := Aside0.mk hc0
 clear hr0 hc0
 have H : (laws_heldRowS.l0 k l0 a1 0) = some r := h
 clear h
 have H' := Aside0.mk H
 clear H
 go_enter Try.func144, Try.ntmps144
 go_wp2
 go_loopg [1, 5] k (fun kq v1 v5 w' => ∃ (x1_1 : Int) (x5_1 : Int), v1 = .int .i64 x1_1 ∧ v5 = .int .i64 x5_1 ∧ Aside0 (laws_heldRowS.l0 kq l0 x1_1 x5_1 = some r) ∧ Aside0 (kq ≤ k) ∧ Drawn0 w w')
 case atStart => exact ⟨(a1), (0), rfl, rfl, H', ⟨Nat.le_refl _⟩, by repeat (exact Drawn0.refl _)⟩
 case round =>
  clear H'
  obtain ⟨x1_1, x5_1, rfl, rfl, HA, HK1, ⟨m1, rfl⟩⟩ := hrel
  cases gk with
  | zero => exact absurd HA.out (by simp [laws_heldRowS.l0])
  | succ k1 =>
   have H := HA.out
   clear HA
   simp only [laws_heldRowS.l0] at H
   by_cases c3 : x5_1 < (l0.length : Int)
   ·rw [if_pos c3] at H
    have c3b0 : decide (x5_1 < (l0.length : Int)) = true := decide_eq_true c3
    clear c3
    by_cases c4 : 0 ≤ x5_1
    ·rw [if_pos c4] at H
     have c4b0 : decide (0 ≤ x5_1) = true := decide_eq_true c4
     clear c4
     by_cases c5 : ((rd_T60 l0 x5_1).f0) = x1_1
     ·rw [if_pos c5] at H
      have c5b0 : (((rd_T60 l0 x5_1).f0) == x1_1) = true := beq_iff_eq.mpr c5
      have c5b1 : (((rd_T60 l0 x5_1).f0) != x1_1) = false := bne_eq_false_iff_eq.mpr c5
      clear c5
      by_cases c6 : ((rd_T60 l0 x5_1).f1) = (wrap64 (x1_1 + 1))
      ·rw [if_pos c6] at H
       have c6b0 : (((rd_T60 l0 x5_1).f1) == (wrap64 (x1_1 + 1))) = true := beq_iff_eq.mpr c6
       have c6b1 : (((rd_T60 l0 x5_1).f1) != (wrap64 (x1_1 + 1))) = false := bne_eq_false_iff_eq.mpr c6
       clear c6
       by_cases c7 : ((rd_T60 l0 x5_1).f2) = (wrap64 ((wrap64 (x1_1 + 1)) + 1))
       ·rw [if_pos c7] at H
        have c7b0 : (((rd_T60 l0 x5_1).f2) == (wrap64 ((wrap64 (x1_1 + 1)) + 1))) = true := beq_iff_eq.mpr c7
        have c7b1 : (((rd_T60 l0 x5_1).f2) != (wrap64 ((wrap64 (x1_1 + 1)) + 1))) = false := bne_eq_false_iff_eq.mpr c7
        clear c7
        have H' := Aside0.mk H
        clear H
        have p1335 : 0 ≤ (x5_1 : Int) := of_decide_eq_true (by (with_reducible assumption))
        have q1335 : x5_1 < (l0.length : Int) := of_decide_eq_true (by (with_reducible assumption))
        obtain ⟨ad1335, e1335, hx1335_0, hx1335_1, hx1335_2⟩ := at_T60 HR0.out x5_1 p1335 q1335
        cases e1335
        replace p1335 := eq_true p1335
        replace q1335 := eq_true q1335
        have p1336 : 0 ≤ (x5_1 : Int) := of_decide_eq_true (by (with_reducible assumption))
        have q1336 : x5_1 < (l0.length : Int) := of_decide_eq_true (by (with_reducible assumption))
        obtain ⟨ad1336, e1336, hx1336_0, hx1336_1, hx1336_2⟩ := at_T60 HR0.out x5_1 p1336 q1336
        obtain rfl : ad1335 = ad1336 := (by injection e1336)
        replace p1336 := eq_true p1336
        replace q1336 := eq_true q1336
        have p1337 : 0 ≤ (x5_1 : Int) := of_decide_eq_true (by (with_reducible assumption))
        have q1337 : x5_1 < (l0.length : Int) := of_decide_eq_true (by (with_reducible assumption))
        obtain ⟨ad1337, e1337, hx1337_0, hx1337_1, hx1337_2⟩ := at_T60 HR0.out x5_1 p1337 q1337
        obtain rfl : ad1335 = ad1337 := (by injection e1337)
        replace p1337 := eq_true p1337
        replace q1337 := eq_true q1337
        go_wp2
        go_roundg k1
        case measure => have := HK1.out; omega
        case rel => exact ⟨(wrap64 ((wrap64 ((wrap64 (x1_1 + 1)) + 1)) + 1)), (wrap64 (x5_1 + 1)), rfl, rfl, H', ⟨by have := HK1.out; omega⟩, by repeat (first | exact Drawn0.refl _ | apply Drawn0.step)⟩
       ·rw [if_neg c7] at H
        have c7b0 : (((rd_T60 l0 x5_1).f2) == (wrap64 ((wrap64 (x1_1 + 1)) + 1))) = false := beq_eq_false_iff_ne.mpr c7
        have c7b1 : (((rd_T60 l0 x5_1).f2) != (wrap64 ((wrap64 (x1_1 + 1)) + 1))) = true := bne_iff_ne.mpr c7
        obtain rfl := Option.some.inj H
        have p1335 : 0 ≤ (x5_1 : Int) := of_decide_eq_true (by (with_reducible assumption))
        have q1335 : x5_1 < (l0.length : Int) := of_decide_eq_true (by (with_reducible assumption))
        obtain ⟨ad1335, e1335, hx1335_0, hx1335_1, hx1335_2⟩ := at_T60 HR0.out x5_1 p1335 q1335
        cases e1335
        replace p1335 := eq_true p1335
        replace q1335 := eq_true q1335
        have p1336 : 0 ≤ (x5_1 : Int) := of_decide_eq_true (by (with_reducible assumption))
        have q1336 : x5_1 < (l0.length : Int) := of_decide_eq_true (by (with_reducible assumption))
        obtain ⟨ad1336, e1336, hx1336_0, hx1336_1, hx1336_2⟩ := at_T60 HR0.out x5_1 p1336 q1336
        obtain rfl : ad1335 = ad1336 := (by injection e1336)
        replace p1336 := eq_true p1336
        replace q1336 := eq_true q1336
        have p1337 : 0 ≤ (x5_1 : Int) := of_decide_eq_true (by (with_reducible assumption))
        have q1337 : x5_1 < (l0.length : Int) := of_decide_eq_true (by (with_reducible assumption))
        obtain ⟨ad1337, e1337, hx1337_0, hx1337_1, hx1337_2⟩ := at_T60 HR0.out x5_1 p1337 q1337
        obtain rfl : ad1335 = ad1337 := (by injection e1337)
        replace p1337 := eq_true p1337
        replace q1337 := eq_true q1337
        go_wp2
        go_ret
        exact ⟨rfl, by repeat (first | exact Drawn0.refl _ | apply Drawn0.step)⟩
      ·rw [if_neg c6] at H
       have c6b0 : (((rd_T60 l0 x5_1).f1) == (wrap64 (x1_1 + 1))) = false := beq_eq_false_iff_ne.mpr c6
       have c6b1 : (((rd_T60 l0 x5_1).f1) != (wrap64 (x1_1 + 1))) = true := bne_iff_ne.mpr c6
       obtain rfl := Option.some.inj H
       have p1335 : 0 ≤ (x5_1 : Int) := of_decide_eq_true (by (with_reducible assumption))
       have q1335 : x5_1 < (l0.length : Int) := of_decide_eq_true (by (with_reducible assumption))
       obtain ⟨ad1335, e1335, hx1335_0, hx1335_1, hx1335_2⟩ := at_T60 HR0.out x5_1 p1335 q1335
       cases e1335
       replace p1335 := eq_true p1335
       replace q1335 := eq_true q1335
       have p1336 : 0 ≤ (x5_1 : Int) := of_decide_eq_true (by (with_reducible assumption))
       have q1336 : x5_1 < (l0.length : Int) := of_decide_eq_true (by (with_reducible assumption))
       obtain ⟨ad1336, e1336, hx1336_0, hx1336_1, hx1336_2⟩ := at_T60 HR0.out x5_1 p1336 q1336
       obtain rfl : ad1335 = ad1336 := (by injection e1336)
       replace p1336 := eq_true p1336
       replace q1336 := eq_true q1336
       go_wp2
       go_ret
       exact ⟨rfl, by repeat (first | exact Drawn0.refl _ | apply Drawn0.step)⟩
     ·rw [if_neg c5] at H
      have c5b0 : (((rd_T60 l0 x5_1).f0) == x1_1) = false := beq_eq_false_iff_ne.mpr c5
      have c5b1 : (((rd_T60 l0 x5_1).f0) != x1_1) = true := bne_iff_ne.mpr c5
      obtain rfl := Option.some.inj H
      have p1335 : 0 ≤ (x5_1 : Int) := of_decide_eq_true (by (with_reducible assumption))
      have q1335 : x5_1 < (l0.length : Int) := of_decide_eq_true (by (with_reducible assumption))
      obtain ⟨ad1335, e1335, hx1335_0, hx1335_1, hx1335_2⟩ := at_T60 HR0.out x5_1 p1335 q1335
      cases e1335
      replace p1335 := eq_true p1335
      replace q1335 := eq_true q1335
      go_wp2
      go_ret
      exact ⟨rfl, by repeat (first | exact Drawn0.refl _ | apply Drawn0.step)⟩
    ·rw [if_neg c4] at H
     exact absurd H (by simp)
   ·rw [if_neg c3] at H
    have c3b0 : decide (x5_1 < (l0.length : Int)) = false := decide_eq_false c3
    clear c3
    obtain rfl := Option.some.inj H
    go_wp2
    go_ret
    exact ⟨rfl, by repeat (first | exact Drawn0.refl _ | apply Drawn0.step)⟩

def laws_heldBoolS.l0 : Nat → List Bool → Int → Int → Option (Int)
 | 0, _, _, _ => none
 | k + 1, x0, x1, x5 => if x5 < (x0.length : Int) then (if 0 ≤ x5 then (if ((rdOf false x0 x5) != ((Int.tmod x1 3) == 0)) = true then (some (-1)) else (laws_heldBoolS.l0 k x0 (wrap64 (x1 + 1)) (wrap64 (x5 + 1)))) else (none)) else (some x1)
def laws_heldBoolS.f (k : Nat) (l0 : List Bool) (a1 : Int) : Option (Int) := laws_heldBoolS.l0 k l0 a1 0
theorem laws_heldBoolS.calls (k : Nat) (A0 : Option Addr) (c0 : Nat) (l0 : List Bool) (a1 : Int) (r : Int) (w : World) (hr0 : Kd.C Kd.bool w A0 l0.length l0) (hc0 : l0.length ≤ c0) (h : laws_heldBoolS.f k l0 a1 = some r) :
  Calls Try.prog 145 #[.slice A0 l0.length c0, .int .i64 a1] w fun e w' => e = .returned (.int .i64 r) ∧ Drawn0 w w' := by
 have HR0 := Aside0.mk hr0
 have HC0 := Aside0.mk hc0
 clear hr0 hc0
 have H : (laws_heldBoolS.l0 k l0 a1 0) = some r := h
 clear h
 have H' := Aside0.mk H
 clear H
 go_enter Try.func145, Try.ntmps145
 go_wp2
 go_loopg [1, 5] k (fun kq v1 v5 w' => ∃ (x1_1 : Int) (x5_1 : Int), v1 = .int .i64 x1_1 ∧ v5 = .int .i64 x5_1 ∧ Aside0 (laws_heldBoolS.l0 kq l0 x1_1 x5_1 = some r) ∧ Aside0 (kq ≤ k) ∧ Drawn0 w w')
 case atStart => exact ⟨(a1), (0), rfl, rfl, H', ⟨Nat.le_refl _⟩, by repeat (exact Drawn0.refl _)⟩
 case round =>
  clear H'
  obtain ⟨x1_1, x5_1, rfl, rfl, HA, HK1, ⟨m1, rfl⟩⟩ := hrel
  cases gk with
  | zero => exact absurd HA.out (by simp [laws_heldBoolS.l0])
  | succ k1 =>
   have H := HA.out
   clear HA
   simp only [laws_heldBoolS.l0] at H
   by_cases c3 : x5_1 < (l0.length : Int)
   ·rw [if_pos c3] at H
    have c3b0 : decide (x5_1 < (l0.length : Int)) = true := decide_eq_true c3
    clear c3
    by_cases c4 : 0 ≤ x5_1
    ·rw [if_pos c4] at H
     have c4b0 : decide (0 ≤ x5_1) = true := decide_eq_true c4
     clear c4
     by_cases c5 : ((rdOf false l0 x5_1) != ((Int.tmod x1_1 3) == 0)) = true
     ·rw [if_pos c5] at H
      have c5b0 : ((rdOf false l0 x5_1) != ((Int.tmod x1_1 3) == 0)) = true := c5
      (try (have c5b1 : decide ((rdOf false l0 x5_1) = ((Int.tmod x1_1 3) == 0)) = false := by simpa using c5))
      (try (have c5b2 : ((rdOf false l0 x5_1) == ((Int.tmod x1_1 3) == 0)) = false := by simpa using c5))
      (try (have c5b3 : ¬ ((rdOf false l0 x5_1) = ((Int.tmod x1_1 3) == 0)) := by simpa using c5))
      clear c5
      obtain rfl := Option.some.inj H
      have p1338 : 0 ≤ (x5_1 : Int) := of_decide_eq_true (by (with_reducible assumption))
      have q1338 : x5_1 < (l0.length : Int) := of_decide_eq_true (by (with_reducible assumption))
      obtain ⟨ad1338, e1338, hx1338_0⟩ := Kd.at_bool HR0.out x5_1 p1338 q1338
      cases e1338
      replace p1338 := eq_true p1338
      replace q1338 := eq_true q1338
      go_wp2
      go_ret
      exact ⟨rfl, by repeat (first | exact Drawn0.refl _ | apply Drawn0.step)⟩
     ·rw [if_neg c5] at H
      have c5b0 : ((rdOf false l0 x5_1) != ((Int.tmod x1_1 3) == 0)) = false := by simpa using c5
      (try (have c5b1 : decide ((rdOf false l0 x5_1) = ((Int.tmod x1_1 3) == 0)) = true := by simpa using c5))
      (try (have c5b2 : ((rdOf false l0 x5_1) == ((Int.tmod x1_1 3) == 0)) = true := by simpa using c5))
      clear c5
      have H' := Aside0.mk H
      clear H
      have p1338 : 0 ≤ (x5_1 : Int) := of_decide_eq_true (by (with_reducible assumption))
      have q1338 : x5_1 < (l0.length : Int) := of_decide_eq_true (by (with_reducible assumption))
      obtain ⟨ad1338, e1338, hx1338_0⟩ := Kd.at_bool HR0.out x5_1 p1338 q1338
      cases e1338
      replace p1338 := eq_true p1338
      replace q1338 := eq_true q1338
      go_wp2
      go_roundg k1
      case measure => have := HK1.out; omega
      case rel => exact ⟨(wrap64 (x1_1 + 1)), (wrap64 (x5_1 + 1)), rfl, rfl, H', ⟨by have := HK1.out; omega⟩, by repeat (first | exact Drawn0.refl _ | apply Drawn0.step)⟩
    ·rw [if_neg c4] at H
     exact absurd H (by simp)
   ·rw [if_neg c3] at H
    have c3b0 : decide (x5_1 < (l0.length : Int)) = false := decide_eq_false c3
    clear c3
    obtain rfl := Option.some.inj H
    go_wp2
    go_ret
    exact ⟨rfl, by repeat (first | exact Drawn0.refl _ | apply Drawn0.step)⟩

end Go.Proofs.Ytobndcjmjhehjaa.P
