/- RuleEnds. -/
import Derived.Test.YtbmdlcagaikdaaaDoorLawR
namespace Go.Proofs.YtbmdlcagaikdaaaDoor
set_option linter.unusedVariables false
set_option linter.unusedSimpArgs false
open Go Go.Sy Go.RowKit

def enC : Value := sv 20 [.int .i64 0, .int .i64 1, sv 24 [.int .i64 0, sv 14 [.int .i64 0, sv 0 [.int .u16 5]], .int .i64 9999]]
def enU : Value := sv 20 [.int .i64 0, .int .i64 1, sv 14 [.int .i64 0, sv 24 [.int .u32 0, sv 0 [.int .u32 6], .int .u32 3652059]]]
def enL (M : Value) (c : Int) : Tree := gN gD 1 (gN gW 2 (gN gP 1 (.node (sv 30 [sv 4 [.int .i64 130, gF, gI, enC, enU, M, gD, gW, gP], .int .i64 7])
  (.leaf (sv 30 [sv 4 [.int .i64 130, gF, gI, .int .i64 0, .int .i64 0, M, gD, gW, gP], .int .i64 c])) (.leaf (.bool false)))))
def enT : Tree := xHead (xMake (.node (sv 1 [.int .i64 0]) (enL (.agg #[.int .i64 13]) 3) (gN gM 1 (enL gM 0))))

theorem ends_run {s1 s2 s3 s4 : Value} {ms ds ps : List Int} {ws : List (Int × Int)} : ∀ t1 t2 t3 t4, enT.ok (fun F => (arun (cfgH fn2 (kX s1 s2 s3 s4 ms ds ws ps) toldR F) 1000 7 [argX, sv 0 [.int .u16 5], sv 0 [.int .u32 6], sv 1 [.int .i64 0]] (heapOf 20 (vars t1 t2 t3 t4))).map (·.1)) [] = true := fun t1 t2 t3 t4 => by kernel_rfl

theorem ends_both {f i c u : Int} {ms ds ps : List Int} {ws : List (Int × Int)} (h1 : 0 ≤ f ∧ f < 4) (h2 : 1 ≤ i ∧ i ≤ 999) (h3 : 1 ≤ c ∧ c ≤ 9999) (h4 : isDay u = true) (h5 : 1 ≤ u) : chkOf ⟨f, i, c, u, ms, ds, ws, ps⟩ = 7 := by
  unfold chkOf
  rw [if_neg (by simp only; omega), if_neg (by simp only [h4]; simp; omega), if_pos (by simp only; omega)]
theorem ends_13 {f i : Int} {ds ps : List Int} {ws : List (Int × Int)} (h1 : 0 ≤ f ∧ f < 4) (h2 : 1 ≤ i ∧ i ≤ 999) : chkOf ⟨f, i, 0, 0, [13], ds, ws, ps⟩ = 3 := by
  have : lstOf ⟨f, i, 0, 0, [13], ds, ws, ps⟩ = 3 := by
    unfold lstOf
    rw [show chkList mayMonth cmpI [13] = 3 by decide]
    rfl
  unfold chkOf
  rw [if_neg (by simp only; omega), if_neg (by simp only; simp; omega), if_neg (by simp), this]
  rfl
theorem ends_none {f i : Int} {ms ds ps : List Int} {ws : List (Int × Int)} (h : Small ms ds ws ps) (h1 : 0 ≤ f ∧ f < 4) (h2 : 1 ≤ i ∧ i ≤ 999) : chkOf ⟨f, i, 0, 0, mkMs ms, mkDsL f ds, mkWs (mkMost f) ws, mkPs f ms ds ws ps⟩ = 0 :=
  ((mk_ok h).chk h1 h2 ⟨Int.le_refl 0, (by decide : (0 : Int) ≤ 9999)⟩ (.inl rfl) (.inl (Int.le_refl 0))).trans (if_neg mk_none)

section
variable {E : Env} {n0 n1 n2 n3 n4 : Int} {ms ds ps : List Int} {ws : List (Int × Int)} {s1 s2 s3 s4 : Value} (h : XE E n0 n1 n2 n3 n4 ms ds ws ps s1 s2 s3 s4)
include h
theorem gN_d {T : Tree} (k : Small ms ds ws ps) : (gN gD 1 T).val E = T.val E := by
  have c : ((mkDsL (n0.tmod 4) ds).length : Int) < 16777216 := by have := @mkDs_len (n0.tmod 4) ds; have := k.ld; omega
  simp only [gN, val_need, den_sv, denL_cons, denL_nil, den_i, Option.bind_some, gD_d h, i74i, i31, c, want_b, decide_true, if_true]
theorem gN_w {T : Tree} (k : Small ms ds ws ps) : (gN gW 2 T).val E = T.val E := by
  have c : ((mkWs (mkMost (n0.tmod 4)) ws).length : Int) < 16777216 := by have := @mkWs_len (mkMost (n0.tmod 4)) ws; have := k.lw; omega
  simp only [gN, val_need, den_sv, denL_cons, denL_nil, den_i, Option.bind_some, gW_d h, i74p, i31, c, want_b, decide_true, if_true]
theorem gN_p {T : Tree} (k : Small ms ds ws ps) : (gN gP 1 T).val E = T.val E := by
  have c : ((mkPs (n0.tmod 4) ms ds ws ps).length : Int) < 16777216 := by have := @mkPs_len (n0.tmod 4) ms ds ws ps; have := k.lp; omega
  simp only [gN, val_need, den_sv, denL_cons, denL_nil, den_i, Option.bind_some, gP_d h, i74i, i31, c, want_b, decide_true, if_true]
theorem gN_m {T : Tree} (k : Small ms ds ws ps) : (gN gM 1 T).val E = T.val E := by
  have c : ((mkMs ms).length : Int) < 16777216 := by have := mkMs_len ms; have := k.lm; omega
  simp only [gN, val_need, den_sv, denL_cons, denL_nil, den_i, Option.bind_some, gM_d h, i74i, i31, c, want_b, decide_true, if_true]

theorem enL_val {M : Value} {c n5 n6 : Int} {l : List Int} (k : Small ms ds ws ps) (h0 : 0 ≤ n0 ∧ n0 ≤ 255) (h1 : 0 ≤ n1 ∧ n1 ≤ 255) (e5 : E.int 5 = n5) (e6 : E.int 6 = n6) (h5 : 0 ≤ n5 ∧ n5 ≤ 65535) (h6 : 0 ≤ n6) (hM : ∀ n, den E (n + 3) M = some (ints .i64 l))
    (hc : chkOf ⟨n0.tmod 4, mkIv n1, 0, 0, l, mkDsL (n0.tmod 4) ds, mkWs (mkMost (n0.tmod 4)) ws, mkPs (n0.tmod 4) ms ds ws ps⟩ = c) : (enL M c).val E = some (.bool true) := by
  have r0 := Int.tmod_nonneg 4 h0.1
  have r1 := Int.tmod_lt_of_pos n0 (b := 4) (by omega)
  have a1 := Int.tmod_nonneg 9999 h5.1
  have a2 := Int.tmod_lt_of_pos n5 (b := 9999) (by omega)
  obtain ⟨u1, u2, u3⟩ := untl_bd h6
  have hb : chkOf ⟨n0.tmod 4, mkIv n1, 1 + n5.tmod 9999, 1 + n6.tmod 3652059, l, mkDsL (n0.tmod 4) ds, mkWs (mkMost (n0.tmod 4)) ws, mkPs (n0.tmod 4) ms ds ws ps⟩ = 7 :=
    ends_both ⟨r0, r1⟩ (mkIv_bd h1.1 h1.2) (by omega) (isDay_of (by omega) (by omega)) (by omega)
  have d5 : ∀ n, den E (n + 5) enC = some (.int .i64 (1 + n5.tmod 9999)) := fun n => by
    simp only [enC, den_sv, denL_cons, denL_nil, den_i, Option.bind_some, i0, i14, i20, i24, Int.reduceToNat, e5, wr64 (n := n5) (by omega) (by omega), Int.reduceEq, ↓reduceIte, wr64 (n := 1 + n5.tmod 9999) (by omega) (by omega)]
  have d6 : ∀ n, den E (n + 5) enU = some (.int .i64 (1 + n6.tmod 3652059)) := fun n => by
    simp only [enU, den_sv, denL_cons, denL_nil, den_i, Option.bind_some, i0, i14, i20, i24, Int.reduceToNat, e6, Int.reduceEq, ↓reduceIte, u1]
  unfold enL
  rw [gN_d h k, gN_w h k, gN_p h k]
  simp only [val_node, val_leaf, den_sv, denL_cons, denL_nil, den_i, Option.bind_some, i4, i30, h.fns, Int.reduceToNat, d5, d6, hM, gD_d h, gW_d h, gP_d h, gF_d h h0.1, gI_d h, fn2_R.check, hb, hc, pick_b, decide_true, if_true]
end

theorem walk_RuleEnds (v0 : Value) (a1 a2 : Int) (a3 : Bool) (w1 : (Lit.int .u16 a1).wf = true) (w2 : (Lit.int .u32 a2).wf = true) (w : World) (hs : Wld w) {n0 n1 n2 n3 n4 : Int} {ms ds ps : List Int} {ws : List (Int × Int)} {s1 s2 s3 s4 : Value}
    (hx : XIn w v0 n0 n1 n2 n3 n4 ms ds ws ps s1 s2 s3 s4) : Calls Tryd.prog 7 #[v0, .int .u16 a1, .int .u32 a2, .bool a3] w fun e w' => e = .returned (.bool true) ∧ Below w.heap.size w w' := by
  have b0 := bounds_u8 hx.w0
  have b1 := bounds_u8 hx.w1
  have c1 := bounds_u16 w1
  have c2 := bounds_u32 w2
  have hE : XE (mkE fn2 (rowsX s1 s2 s3 s4 ms ds ws ps) [n0, n1, n2, n3, n4, a1, a2] [a3] [] fun _ => undef) n0 n1 n2 n3 n4 ms ds ws ps s1 s2 s3 s4 := hx.env rfl rfl rfl rfl rfl rfl rfl
  refine tree_h (toldR_ok (awC_ok aw2 fn2)) (K := kX s1 s2 s3 s4 ms ds ws ps) (args := [argX, sv 0 [.int .u16 5], sv 0 [.int .u32 6], sv 1 [.int .i64 0]]) (Tr := enT) (F0 := []) ends_run (E := mkE fn2 (rowsX s1 s2 s3 s4 ms ds ws ps) [n0, n1, n2, n3, n4, a1, a2] [a3] [] fun _ => undef)
    (by intro p hp; cases hp) rfl rfl ?_ ?_ hs hx.rowsIn
  · refine xHead_val hE fun l1 l2 l3 l4 => ?_
    have k := hx.small l1 l2 l3 l4
    have r0 := Int.tmod_nonneg 4 b0.1
    have r1 := Int.tmod_lt_of_pos n0 (b := 4) (by omega)
    rw [xMake_val hE k b0.1]
    simp only [val_node, den_sv, denL_cons, denL_nil, den_i, Option.bind_some, i1, mk_bool, Int.reduceToNat, getD_z, pick_b]
    split
    · exact enL_val hE k b0 b1 rfl rfl c1 c2.1 (fun n => rfl) (ends_13 ⟨r0, r1⟩ (mkIv_bd b1.1 b1.2))
    · rw [gN_m hE k]
      exact enL_val hE k b0 b1 rfl rfl c1 c2.1 (gM_d hE) (ends_none k ⟨r0, r1⟩ (mkIv_bd b1.1 b1.2))
  · intro ρ hρ
    exact VRs.cons (hx.vr hE hρ) (vr3 (vr_int hρ _ _ rfl) (vr_int hρ _ _ rfl) (vr_bool hρ _ _ rfl))
end Go.Proofs.YtbmdlcagaikdaaaDoor
