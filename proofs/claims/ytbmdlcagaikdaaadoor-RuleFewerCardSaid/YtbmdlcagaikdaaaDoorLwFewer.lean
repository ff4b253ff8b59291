/- RuleFewer. -/
import Derived.Test.YtbmdlcagaikdaaaDoorLwEnds
import Derived.Test.YtbmdlcagaikdaaaDoorSyT
namespace Go.Proofs.YtbmdlcagaikdaaaDoor
set_option linter.unusedVariables false
set_option linter.unusedSimpArgs false
open Go Go.Sy Go.RowKit

def fwL (g : Value) (z : Int) : Value := sv 74 [g, .int .i64 z]
def fwI (j : Int) (l : Value) : Value := sv 24 [.int .i64 0, sv 14 [.int .i64 0, sv 0 [.int .u8 j]], sv 20 [.int .i64 0, l, .int .i64 1]]
def fwM : Value := sv 75 [gM, fwI 5 (fwL gM 1), fwL gM 1, .int .i64 1]
def fwD : Value := sv 75 [gD, .int .i64 0, fwI 6 (fwL gD 1), .int .i64 1]
def fwW : Value := sv 75 [gW, fwI 7 (fwL gW 2), fwL gW 2, .int .i64 2]
def fwP : Value := sv 75 [gP, .int .i64 0, fwI 8 (fwL gP 1), .int .i64 1]
def fwN (j : Int) (l : Value) (T : Tree) : Tree := .need (sv 30 [sv 20 [.int .i64 0, l, .int .i64 1], .int .i64 0]) false (.need (sv 31 [fwI j l, .int .i64 0]) false (.need (sv 31 [l, fwI j l]) false T))
def fwS (l : Value) (T : Tree) : Tree := .need (sv 31 [l, l]) false T
def fwT0 (T : Tree) : Tree := gN fwM 1 (gN fwD 1 (gN fwW 2 (gN fwP 1 T)))
def fwE (c : Int) : Tree := .leaf (sv 30 [sv 4 [.int .i64 130, gF, gI, gC, gU, fwM, fwD, fwW, fwP], .int .i64 c])
def fwB : Tree := fwT0 (.node (sv 5 [.int .i64 131, gF, gI, gC, gU, fwM, fwD, fwW, fwP]) (fwE 0) (fwE 6))
def fwT : Tree := xHead (xMake (fwN 5 (fwL gM 1) (fwS (fwL gM 1) (fwN 6 (fwL gD 1) (fwN 7 (fwL gW 2) (fwS (fwL gW 2) (fwN 8 (fwL gP 1)
  (.node (sv 31 [.int .i64 0, fwL fwP 1]) (.node (sv 31 [.int .i64 0, sv 20 [.int .i64 0, sv 20 [.int .i64 0, fwL fwM 1, fwL fwD 1], fwL fwW 2]]) fwB fwB) (fwT0 (fwE 0))))))))))

theorem fewer_run {s1 s2 s3 s4 : Value} {ms ds ps : List Int} {ws : List (Int × Int)} : fwT.ok (fun F => (arun (cfgH fn2 (kX s1 s2 s3 s4 ms ds ws ps) toldR F) 1000 6 [argX, sv 0 [.int .u8 5], sv 0 [.int .u8 6], sv 0 [.int .u8 7], sv 0 [.int .u8 8]] (heapOf 20 (vars gT1 gT2 gT3 gT4))).map (·.1)) [] = true := by kernel_rfl

theorem fwI_d {E : Env} {a : Int} {n : Nat} (ha : 0 ≤ a ∧ a ≤ 255) (hn : n ≤ 1000) {l : Value} {j : Int} (hj : E.int j.toNat = a) (hl : ∀ m, den E (m + 4) l = some (.int .i64 (n : Int))) :
    ∃ k : Nat, k ≤ n ∧ ∀ m, den E (m + 6) (fwI j l) = some (.int .i64 (k : Int)) := by
  have r0 := Int.tmod_nonneg ((n : Int) + 1) ha.1
  have r1 := Int.tmod_lt_of_pos a (b := (n : Int) + 1) (by omega)
  obtain ⟨k, hk⟩ := Int.eq_ofNat_of_zero_le r0
  refine ⟨k, by omega, fun m => ?_⟩
  simp only [fwI, den_sv, denL_cons, denL_nil, den_i, Option.bind_some, i0, i14, i20, i24, hj, hl, wr64 (n := a) (by omega) (by omega), wr64 (n := (n : Int) + 1) (by omega) (by omega), if_neg (show ¬ ((n : Int) + 1 = 0) by omega), hk]

theorem fwN_val {E : Env} {T : Tree} {n k : Nat} (hn : n ≤ 1000) {l : Value} {j : Int} (hl : ∀ m, den E (m + 4) l = some (.int .i64 (n : Int))) (hk : k ≤ n) (hi : ∀ m, den E (m + 6) (fwI j l) = some (.int .i64 (k : Int))) : (fwN j l T).val E = T.val E := by
  have c1 : ¬ ((n : Int) + 1 = 0) := by omega
  have c2 : ¬ ((k : Int) < 0) := by omega
  have c3 : ¬ ((n : Int) < k) := by omega
  simp only [fwN, val_need, den_sv, denL_cons, denL_nil, den_i, Option.bind_some, i20, i30, i31, hl, hi, wr64 (n := (n : Int) + 1) (by omega) (by omega), c1, c2, c3, want_b, decide_false, if_true]
theorem fwS_val {E : Env} {T : Tree} {n : Nat} {l : Value} (hl : ∀ m, den E (m + 4) l = some (.int .i64 (n : Int))) : (fwS l T).val E = T.val E := by
  simp only [fwS, val_need, den_sv, denL_cons, denL_nil, den_i, Option.bind_some, i31, hl, Int.lt_irrefl, want_b, decide_false, if_true]
theorem gN_i {E : Env} {T : Tree} {v : Value} {l : List Int} (hv : ∀ m, den E (m + 8) v = some (ints .i64 l)) (hl : l.length ≤ 1000) : (gN v 1 T).val E = T.val E := by
  have c : (l.length : Int) < 16777216 := by omega
  simp only [gN, val_need, den_sv, denL_cons, denL_nil, den_i, Option.bind_some, hv, i74i, i31, c, want_b, decide_true, if_true]
theorem gN_q {E : Env} {T : Tree} {v : Value} {l : List (Int × Int)} (hv : ∀ m, den E (m + 8) v = some (prs .i64 .i64 l)) (hl : l.length ≤ 1000) : (gN v 2 T).val E = T.val E := by
  have c : (l.length : Int) < 16777216 := by omega
  simp only [gN, val_need, den_sv, denL_cons, denL_nil, den_i, Option.bind_some, hv, i74p, i31, c, want_b, decide_true, if_true]

theorem len0 {α : Type} {l : List α} : l.length = 0 ↔ l = [] := List.length_eq_zero_iff

theorem fewer_val {E : Env} {n0 n1 n2 n3 n4 a b c d : Int} {ms ds ps : List Int} {ws : List (Int × Int)} {s1 s2 s3 s4 : Value} (h : XE E n0 n1 n2 n3 n4 ms ds ws ps s1 s2 s3 s4) (k : Small ms ds ws ps) (h0 : 0 ≤ n0 ∧ n0 ≤ 255) (h1 : 0 ≤ n1 ∧ n1 ≤ 255) (h3 : 0 ≤ n3 ∧ n3 ≤ 65535) (h4 : 0 ≤ n4)
    (ha : 0 ≤ a ∧ a ≤ 255) (hb : 0 ≤ b ∧ b ≤ 255) (hc : 0 ≤ c ∧ c ≤ 255) (hd : 0 ≤ d ∧ d ≤ 255) (e5 : E.int 5 = a) (e6 : E.int 6 = b) (e7 : E.int 7 = c) (e8 : E.int 8 = d) :
    (xMake (fwN 5 (fwL gM 1) (fwS (fwL gM 1) (fwN 6 (fwL gD 1) (fwN 7 (fwL gW 2) (fwS (fwL gW 2) (fwN 8 (fwL gP 1)
  (.node (sv 31 [.int .i64 0, fwL fwP 1]) (.node (sv 31 [.int .i64 0, sv 20 [.int .i64 0, sv 20 [.int .i64 0, fwL fwM 1, fwL fwD 1], fwL fwW 2]]) fwB fwB) (fwT0 (fwE 0)))))))))).val E = some (.bool true) := by
  have r0 := Int.tmod_nonneg 4 h0.1
  have r1 := Int.tmod_lt_of_pos n0 (b := 4) (by omega)
  have gF' := gF_d h h0.1
  have gM' := gM_d h
  have gD' := gD_d h
  have gW' := gW_d h
  have gP' := gP_d h
  have kM := mkMs_len ms
  have kD := @mkDs_len (n0.tmod 4) ds
  have kW := @mkWs_len (mkMost (n0.tmod 4)) ws
  have kP := @mkPs_len (n0.tmod 4) ms ds ws ps
  have km := k.lm
  have kd := k.ld
  have kw := k.lw
  have kp := k.lp
  have ok := @mk_ok (n0.tmod 4) (mkIv n1) (mkCo n2 n3) (mkTo n2 n4) _ _ _ _ k
  have none := @mk_none (n0.tmod 4) ms ds ps ws
  have dn : n0.tmod 4 = 1 → mkDsL (n0.tmod 4) ds = [] := fun e => by rw [mkDsL, if_pos e]
  rw [xMake_val h k h0.1]
  generalize n0.tmod 4 = f at *
  generalize mkMs ms = M at *
  generalize mkDsL f ds = D at *
  generalize mkWs (mkMost f) ws = W at *
  generalize mkPs f ms ds ws ps = P at *
  have lM : ∀ m, den E (m + 4) (fwL gM 1) = some (.int .i64 (M.length : Int)) := fun m => by simp only [fwL, den_sv, denL_cons, denL_nil, den_i, Option.bind_some, gM', i74i]
  have lD : ∀ m, den E (m + 4) (fwL gD 1) = some (.int .i64 (D.length : Int)) := fun m => by simp only [fwL, den_sv, denL_cons, denL_nil, den_i, Option.bind_some, gD', i74i]
  have lW : ∀ m, den E (m + 4) (fwL gW 2) = some (.int .i64 (W.length : Int)) := fun m => by simp only [fwL, den_sv, denL_cons, denL_nil, den_i, Option.bind_some, gW', i74p]
  have lP : ∀ m, den E (m + 4) (fwL gP 1) = some (.int .i64 (P.length : Int)) := fun m => by simp only [fwL, den_sv, denL_cons, denL_nil, den_i, Option.bind_some, gP', i74i]
  obtain ⟨x1, y1, z1⟩ := fwI_d ha (n := M.length) (by omega) (j := 5) e5 lM
  obtain ⟨x2, y2, z2⟩ := fwI_d hb (n := D.length) (by omega) (j := 6) e6 lD
  obtain ⟨x3, y3, z3⟩ := fwI_d hc (n := W.length) (by omega) (j := 7) e7 lW
  obtain ⟨x4, y4, z4⟩ := fwI_d hd (n := P.length) (by omega) (j := 8) e8 lP
  rw [fwN_val (by omega) lM y1 z1, fwS_val lM, fwN_val (by omega) lD y2 z2, fwN_val (by omega) lW y3 z3, fwS_val lW, fwN_val (by omega) lP y4 z4]
  obtain ⟨M', hM'⟩ : ∃ M', M' = (M.drop x1).take (M.length - x1) := ⟨_, rfl⟩
  obtain ⟨D', hD'⟩ : ∃ D', D' = (D.drop 0).take (x2 - 0) := ⟨_, rfl⟩
  obtain ⟨W', hW'⟩ : ∃ W', W' = (W.drop x3).take (W.length - x3) := ⟨_, rfl⟩
  obtain ⟨P', hP'⟩ : ∃ P', P' = (P.drop 0).take (x4 - 0) := ⟨_, rfl⟩
  have sub : ∀ {α : Type} (l : List α) (i j : Nat), ((l.drop i).take j).Sublist l := fun l i j => (List.take_sublist _ _).trans (List.drop_sublist _ _)
  have sM : M'.Sublist M := hM' ▸ sub _ _ _
  have sD : D'.Sublist D := hD' ▸ sub _ _ _
  have sW : W'.Sublist W := hW' ▸ sub _ _ _
  have sP : P'.Sublist P := hP' ▸ sub _ _ _
  have vM : ∀ m, den E (m + 8) fwM = some (ints .i64 M') := fun m => by simp only [fwM, den_sv, denL_cons, denL_nil, den_i, Option.bind_some, gM', lM, z1, i75i y1 (Nat.le_refl _), hM']
  have vD : ∀ m, den E (m + 8) fwD = some (ints .i64 D') := fun m => by
    simp only [fwD, den_sv, denL_cons, denL_nil, den_i, Option.bind_some, gD', z2, hD']
    exact i75i (a := 0) (Nat.zero_le _) y2 _ _ _
  have vW : ∀ m, den E (m + 8) fwW = some (prs .i64 .i64 W') := fun m => by simp only [fwW, den_sv, denL_cons, denL_nil, den_i, Option.bind_some, gW', lW, z3, i75p y3 (Nat.le_refl _), hW']
  have vP : ∀ m, den E (m + 8) fwP = some (ints .i64 P') := fun m => by
    simp only [fwP, den_sv, denL_cons, denL_nil, den_i, Option.bind_some, gP', z4, hP']
    exact i75i (a := 0) (Nat.zero_le _) y4 _ _ _
  have qM := sM.length_le
  have qD := sD.length_le
  have qW := sW.length_le
  have qP := sP.length_le
  have hT0 : ∀ T : Tree, (fwT0 T).val E = T.val E := fun T => by
    rw [fwT0, gN_i vM (by omega), gN_i vD (by omega), gN_q vW (by omega), gN_i vP (by omega)]
  have chk := (ok.fewer (s := ⟨f, mkIv n1, mkCo n2 n3, mkTo n2 n4, M', D', W', P'⟩) rfl sM sD sW sP).chk ⟨r0, r1⟩ (mkIv_bd h1.1 h1.2) (mkCo_bd h3.1 h3.2) (mkTo_ok h4) mk_one
  simp only at chk
  have d1 : ¬ (f = 1 ∧ D' ≠ []) := fun ⟨e, g⟩ => g (by have := dn e; subst this; exact List.sublist_nil.1 sD)
  have hE : ∀ c : Int, (fwE c).val E = some (.bool (decide (chkOf ⟨f, mkIv n1, mkCo n2 n3, mkTo n2 n4, M', D', W', P'⟩ = c))) := fun c => by
    simp only [fwE, val_leaf, den_sv, denL_cons, denL_nil, den_i, Option.bind_some, i4, i30, h.fns, Int.reduceToNat, vM, vD, vW, vP, gF', gI_d h, gC_d h, gU_d h, fn2_R.check]
  have hB : (fwB).val E = if 0 < M'.length + D'.length + W'.length then (fwE 0).val E else (fwE 6).val E := by
    rw [fwB, hT0]
    simp only [val_node, den_sv, denL_cons, denL_nil, den_i, Option.bind_some, i5, h.fns, Int.reduceToNat, vM, vD, vW, vP, gF', gI_d h, gC_d h, gU_d h, fn2_R.lists, hasLists, pick_b, decide_eq_true_eq]
  simp only [val_node, den_sv, denL_cons, denL_nil, den_i, Option.bind_some, i20, i31, fwL, vM, vD, vW, vP, i74i, i74p, pick_b, decide_eq_true_eq, hB, hT0, hE, ite_self]
  generalize chkOf ⟨f, mkIv n1, mkCo n2 n3, mkTo n2 n4, M', D', W', P'⟩ = C at *
  have nM := @len0 _ M'
  have nD := @len0 _ D'
  have nW := @len0 _ W'
  have nP := @len0 _ P'
  by_cases g1 : P' = []
  · have g2 : ¬ ((0 : Int) < (P'.length : Int)) := by have := nP.2 g1; omega
    rw [if_neg (by rintro (g | ⟨g, _⟩); exact d1 g; exact g g1)] at chk
    rw [if_neg g2, chk]
    rfl
  · have g2 : (0 : Int) < (P'.length : Int) := by have := mt nP.1 g1; omega
    rw [if_pos g2]
    by_cases g3 : 0 < M'.length + D'.length + W'.length
    · rw [if_neg (by rintro (g | ⟨_, q1, q2, q3⟩); exact d1 g; have := nM.2 q1; have := nD.2 q2; have := nW.2 q3; omega)] at chk
      rw [if_pos g3, chk]
      rfl
    · rw [if_pos (.inr ⟨g1, nM.1 (by omega), nD.1 (by omega), nW.1 (by omega)⟩)] at chk
      rw [if_neg g3, chk]
      rfl

theorem walk_RuleFewer (v0 : Value) (a1 a2 a3 a4 : Int) (w1 : (Lit.int .u8 a1).wf = true) (w2 : (Lit.int .u8 a2).wf = true) (w3 : (Lit.int .u8 a3).wf = true) (w4 : (Lit.int .u8 a4).wf = true) (w : World) (hs : Wld w) (ht : TypW w) {n0 n1 n2 n3 n4 : Int} {ms ds ps : List Int} {ws : List (Int × Int)} {s1 s2 s3 s4 : Value}
    (hx : XIn w v0 n0 n1 n2 n3 n4 ms ds ws ps s1 s2 s3 s4) : Calls Tryd.prog 6 #[v0, .int .u8 a1, .int .u8 a2, .int .u8 a3, .int .u8 a4] w fun e w' => e = .returned (.bool true) ∧ Below w.heap.size w w' := by
  have b0 := bounds_u8 hx.w0
  have b1 := bounds_u8 hx.w1
  have b3 := bounds_u16 hx.w3
  have b4 := bounds_u32 hx.w4
  have hE : XE (mkE fn2 (rowsX s1 s2 s3 s4 ms ds ws ps) [n0, n1, n2, n3, n4, a1, a2, a3, a4] [] [] fun _ => undef) n0 n1 n2 n3 n4 ms ds ws ps s1 s2 s3 s4 := hx.env rfl rfl rfl rfl rfl rfl rfl
  refine tree_hT (toldR_ok (awC_ok aw2 fn2)) (K := kX s1 s2 s3 s4 ms ds ws ps) (args := [argX, sv 0 [.int .u8 5], sv 0 [.int .u8 6], sv 0 [.int .u8 7], sv 0 [.int .u8 8]]) (Tr := fwT) (F0 := []) fewer_run (E := mkE fn2 (rowsX s1 s2 s3 s4 ms ds ws ps) [n0, n1, n2, n3, n4, a1, a2, a3, a4] [] [] fun _ => undef)
    (by intro p hp; cases hp) rfl rfl ?_ ?_ hs ht hx.rowsIn
  · exact xHead_val hE fun l1 l2 l3 l4 => fewer_val hE (hx.small l1 l2 l3 l4) b0 b1 b3 b4.1 (bounds_u8 w1) (bounds_u8 w2) (bounds_u8 w3) (bounds_u8 w4) rfl rfl rfl rfl
  · intro ρ hρ
    exact VRs.cons (hx.vr hE hρ) (VRs.cons (vr_int hρ _ _ rfl) (vr3 (vr_int hρ _ _ rfl) (vr_int hρ _ _ rfl) (vr_int hρ _ _ rfl)))
end Go.Proofs.YtbmdlcagaikdaaaDoor
