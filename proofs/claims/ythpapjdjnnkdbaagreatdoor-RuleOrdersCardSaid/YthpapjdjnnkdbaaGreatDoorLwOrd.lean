/- LwOrd: joined of LwOrd, LwOrdW. -/
import Derived.Test.YthpapjdjnnkdbaaGreatDoorOrdT

/- RuleOrders. -/
namespace Go.Proofs.YthpapjdjnnkdbaaGreatDoor
set_option linter.unusedVariables false
set_option linter.unusedSimpArgs false
open Go Go.Sy Go.RowKit

theorem fn2_Q : FnQ fn2 where
  eqI l m := by simp only [fn2, v1, v2, deI_ints]
  eqN l m := by simp only [fn2, v1, v2, deP_prs]
  same a0 a1 a2 a3 b0 b1 b2 b3 m d k p m' d' k' p' := by simp only [fn2, rule2, deI_ints, deP_prs]
theorem toldO_ok : TOk fn2 toldO := ⟨fun c h => (by
    simp only [toldO, List.mem_cons, List.not_mem_nil, or_false] at h
    subst h
    exact awC_ok aw2 fn2), fun c h => (by
    simp only [toldO, List.mem_cons, List.not_mem_nil, or_false] at h
    rcases h with rfl | rfl
    · exact equalI_ok fn2_Q.toFnE
    · exact equalN_ok fn2_Q.toFnE), fun c h => (by
    simp only [toldO, List.mem_cons, List.not_mem_nil, or_false] at h
    rcases h with rfl | rfl | rfl
    · exact makeC_ok fn2_M
    · exact sameC_ok fn2_Q
    · exact orderC_ok fun a b c d => rfl), fun c h => (by cases h), fun c h => (by cases h)⟩

theorem node_val {E : Env} {e : Value} {t f : Tree} {p : Prop} [Decidable p] {v : Option Value} (h : den E 40 e = some (.bool (decide p))) (ht : p → t.val E = v) (hf : ¬ p → f.val E = v) : (Tree.node e t f).val E = v := by
  rw [val_node, h, pick_b]
  by_cases hp : p
  · simp only [hp, decide_true, if_true]; exact ht hp
  · simp only [hp, decide_false]; exact hf hp
theorem node_t {E : Env} {e : Value} {t f : Tree} (h : den E 40 e = some (.bool true)) : (Tree.node e t f).val E = t.val E := by
  rw [val_node, h, pick_b]; rfl
theorem need_t {E : Env} {e : Value} {b : Bool} {t : Tree} (h : den E 40 e = some (.bool b)) : (Tree.need e b t).val E = t.val E := by
  rw [val_need, h, want_b]; simp

theorem cmpN_z (a b c d : Int) : decide (cmpN (a, b) (c, d) = 0) = (decide (a = c) && decide (b = d)) := by
  rw [← Bool.decide_and]
  congr 1
  apply propext
  simp only [cmpN, cmpI]
  repeat' split
  all_goals omega
theorem cmpN_l (a b c d : Int) : (cmpN (a, b) (c, d) < 0) ↔ (a < c ∨ a = c ∧ b < d) := by
  simp only [cmpN, cmpI]
  repeat' split
  all_goals omega

/-- What an environment says of an argument's expressions. -/
structure OE (E : Env) (o : OA) (n0 n1 n2 n3 n4 : Int) (ms ds : List Int) (ws : List (Int × Int)) (ps : List Int) : Prop where
  fns : E.fns = fn2
  d0 : ∀ n, den E (n + 3) o.v0 = some (.int .u8 n0)
  d1 : ∀ n, den E (n + 3) o.v1 = some (.int .u8 n1)
  d2 : ∀ n, den E (n + 3) o.v2 = some (.int .u8 n2)
  d3 : ∀ n, den E (n + 3) o.v3 = some (.int .u16 n3)
  d4 : ∀ n, den E (n + 3) o.v4 = some (.int .u32 n4)
  x0 : ∀ n, den E (n + 3) o.r0 = some (ints .u8 ms)
  x1 : ∀ n, den E (n + 3) o.r1 = some (ints .i8 ds)
  x2 : ∀ n, den E (n + 3) o.r2 = some (prs .i8 .u8 ws)
  x3 : ∀ n, den E (n + 3) o.r3 = some (ints .i16 ps)
  g0 : 0 ≤ n0
  sm : Small ms ds ws ps

/-- the rule that Make makes -/
def oR (n0 n1 n2 n3 n4 : Int) (ms ds : List Int) (ws : List (Int × Int)) (ps : List Int) : RuleD :=
  ⟨n0.tmod 4, mkIv n1, mkCo n2 n3, mkTo n2 n4, mkMs ms, mkDsL (n0.tmod 4) ds, mkWs (mkMost (n0.tmod 4)) ws, mkPs (n0.tmod 4) ms ds ws ps⟩

section
variable {E : Env} {o : OA} {n0 n1 n2 n3 n4 : Int} {ms ds ps : List Int} {ws : List (Int × Int)} (h : OE E o n0 n1 n2 n3 n4 ms ds ws ps)
include h
theorem OE.F (n) : den E (n + 5) o.F = some (.int .i64 (n0.tmod 4)) := by
  have r0 := Int.tmod_nonneg 4 h.g0
  have r1 := Int.tmod_lt_of_pos n0 (b := 4) (by omega)
  simp only [OA.F, den_sv, denL_cons, denL_nil, den_i, Option.bind_some, h.d0, i24, i14, Int.reduceEq, ↓reduceIte, wr64 (n := n0.tmod 4) (by omega) (by omega)]
theorem OE.I (n) : den E (n + 4) o.I = some (.int .i64 (mkIv n1)) := by
  simp only [OA.I, den_sv, denL_cons, denL_nil, den_i, Option.bind_some, h.d1, i4, h.fns, Int.reduceToNat, fn2_M.f121]
theorem OE.C (n) : den E (n + 4) o.C = some (.int .i64 (mkCo n2 n3)) := by
  simp only [OA.C, den_sv, denL_cons, denL_nil, den_i, Option.bind_some, h.d2, h.d3, i4, h.fns, Int.reduceToNat, fn2_M.f122]
theorem OE.U (n) : den E (n + 4) o.U = some (.int .i64 (mkTo n2 n4)) := by
  simp only [OA.U, den_sv, denL_cons, denL_nil, den_i, Option.bind_some, h.d2, h.d4, i4, h.fns, Int.reduceToNat, fn2_M.f123]
theorem OE.M (n) : den E (n + 4) o.M = some (ints .i64 (mkMs ms)) := by
  simp only [OA.M, den_sv, denL_cons, denL_nil, den_i, Option.bind_some, h.x0, i81, h.fns, Int.reduceToNat, fn2_M.f120, ints_map]
theorem OE.D (n) : den E (n + 4) o.D = some (ints .i64 (mkDsL (n0.tmod 4) ds)) := by
  simp only [OA.D, den_sv, denL_cons, denL_nil, den_i, Option.bind_some, h.d0, h.x1, i81, h.fns, Int.reduceToNat, fn2_M.f124, ints_map]
theorem OE.W (n) : den E (n + 4) o.W = some (prs .i64 .i64 (mkWs (mkMost (n0.tmod 4)) ws)) := by
  simp only [OA.W, den_sv, denL_cons, denL_nil, den_i, Option.bind_some, h.d0, h.x2, i81, h.fns, Int.reduceToNat, fn2_M.f125, prs_cells]
theorem OE.P (n) : den E (n + 4) o.P = some (ints .i64 (mkPs (n0.tmod 4) ms ds ws ps)) := by
  simp only [OA.P, den_sv, denL_cons, denL_nil, den_i, Option.bind_some, h.d0, h.x0, h.x1, h.x2, h.x3, i81, h.fns, Int.reduceToNat, fn2_M.f126, ints_map]

/-- an expression of a list whose length is small -/
def OSm (E : Env) (p : Value × Int) : Prop := ∃ n : Nat, n < 16777216 ∧ ∀ m, den E (m + 8) (sv 74 [p.1, .int .i64 p.2]) = some (.int .i64 (n : Int))
theorem OE.lM : OSm E (o.M, 1) := ⟨(mkMs ms).length, by have := mkMs_len ms; have := h.sm.lm; omega, fun m => by simp only [den_sv, denL_cons, denL_nil, den_i, Option.bind_some, h.M, i74i]⟩
theorem OE.lD : OSm E (o.D, 1) := ⟨(mkDsL (n0.tmod 4) ds).length, by have := @mkDs_len (n0.tmod 4) ds; have := h.sm.ld; omega, fun m => by simp only [den_sv, denL_cons, denL_nil, den_i, Option.bind_some, h.D, i74i]⟩
theorem OE.lW : OSm E (o.W, 2) := ⟨(mkWs (mkMost (n0.tmod 4)) ws).length, by have := @mkWs_len (mkMost (n0.tmod 4)) ws; have := h.sm.lw; omega, fun m => by simp only [den_sv, denL_cons, denL_nil, den_i, Option.bind_some, h.W, i74p]⟩
theorem OE.lP : OSm E (o.P, 1) := ⟨(mkPs (n0.tmod 4) ms ds ws ps).length, by have := @mkPs_len (n0.tmod 4) ms ds ws ps; have := h.sm.lp; omega, fun m => by simp only [den_sv, denL_cons, denL_nil, den_i, Option.bind_some, h.P, i74i]⟩

theorem oMake_val {T : Tree} : (oMake o T).val E = T.val E := by
  have k := h.sm
  have a : (ws.all fun x => decide (0 ≤ x.2)) = true := List.all_eq_true.2 fun x hx => decide_eq_true (k.w x hx).2.2
  have c0 : ¬ n0 < 0 := by have := h.g0; omega
  have c1 : (ms.length : Int) < 1001 := by have := k.lm; omega
  have c2 : (ds.length : Int) < 1001 := by have := k.ld; omega
  have c3 : (ws.length : Int) < 1001 := by have := k.lw; omega
  have c4 : (ps.length : Int) < 1001 := by have := k.lp; omega
  unfold oMake
  rw [need_t (b := false) (by simp only [den_sv, denL_cons, denL_nil, den_i, Option.bind_some, h.d0, i31, c0, decide_false]), need_t (b := true) (by simp only [den_sv, denL_cons, denL_nil, den_i, Option.bind_some, h.x0, i74i, i31, c1, decide_true]),
    need_t (b := true) (by simp only [den_sv, denL_cons, denL_nil, den_i, Option.bind_some, h.x1, i74i, i31, c2, decide_true]), need_t (b := true) (by simp only [den_sv, denL_cons, denL_nil, den_i, Option.bind_some, h.x2, i74p, i31, c3, decide_true]),
    need_t (b := true) (by simp only [den_sv, denL_cons, denL_nil, den_i, Option.bind_some, h.x3, i74i, i31, c4, decide_true]), need_t (b := true) (by simp only [den_sv, denL_cons, denL_nil, den_i, Option.bind_some, h.x2, i5, h.fns, Int.reduceToNat, fn2_M.f127, a])]
end

theorem oL_val {E : Env} {T : Tree} : ∀ {l : List (Value × Int)}, (∀ p ∈ l, OSm E p) → (oL l T).val E = T.val E
  | [], _ => rfl
  | (v, z) :: l, hl => by
    obtain ⟨n, hn, hd⟩ := hl (v, z) (by simp)
    have c : (n : Int) < 16777216 := by omega
    show (Tree.need _ true (oL l T)).val E = _
    rw [need_t (b := true) (by simp only [den_sv (n := 39), denL_cons, denL_nil, den_i, Option.bind_some, hd 31, i31, c, decide_true])]
    exact oL_val fun p hp => hl p (by simp [hp])

section
variable {E : Env} {o p : OA} {n0 n1 n2 n3 n4 : Int} {ms ds ps : List Int} {ws : List (Int × Int)} (h : OE E o n0 n1 n2 n3 n4 ms ds ws ps)
  {k0 k1 k2 k3 k4 : Int} {ms' ds' ps' : List Int} {ws' : List (Int × Int)} (h' : OE E p k0 k1 k2 k3 k4 ms' ds' ws' ps')
include h h'
theorem oQ_val (n) : den E (n + 6) (oQ o p) = some (.bool (decide (oR n0 n1 n2 n3 n4 ms ds ws ps = oR k0 k1 k2 k3 k4 ms' ds' ws' ps'))) := by
  simp only [oQ, den_sv, denL_cons, denL_nil, den_i, Option.bind_some, h.F, h.I, h.C, h.U, h.M, h.D, h.W, h.P, h'.F, h'.I, h'.C, h'.U, h'.M, h'.D, h'.W, h'.P, i5, h.fns, Int.reduceToNat, fn2_Q.same]
  rfl
end

section
variable {E : Env} {o : OA} {n0 n1 n2 n3 n4 : Int} {ms ds ps : List Int} {ws : List (Int × Int)} (h : OE E o n0 n1 n2 n3 n4 ms ds ws ps)
include h
theorem oLeaf_val : (oLeaf o).val E = some (.bool true) := by
  unfold oLeaf
  rw [val_leaf, oQ_val h h 34]
  simp
theorem oLs_val {T : Tree} : (oLs o T).val E = T.val E := by
  have two : ∀ q, OSm E q → ∀ p ∈ [q, q], OSm E p := fun q hq p hp => by
    simp only [List.mem_cons, List.not_mem_nil, or_false] at hp
    rcases hp with rfl | rfl <;> exact hq
  unfold oLs
  rw [oL_val (two _ h.lM), need_t (b := true) (by simp only [den_sv, denL_cons, denL_nil, den_i, Option.bind_some, h.M, i5, h.fns, Int.reduceToNat, fn2_Q.eqI, decide_true]),
    oL_val (two _ h.lD), need_t (b := true) (by simp only [den_sv, denL_cons, denL_nil, den_i, Option.bind_some, h.D, i5, h.fns, Int.reduceToNat, fn2_Q.eqI, decide_true]),
    oL_val (two _ h.lW), need_t (b := true) (by simp only [den_sv, denL_cons, denL_nil, den_i, Option.bind_some, h.W, i5, h.fns, Int.reduceToNat, fn2_Q.eqN, decide_true]), oL_val (two _ h.lP)]
theorem OE.all : ∀ q ∈ o.ls, OSm E q := by
  intro q hq
  simp only [OA.ls, List.mem_cons, List.not_mem_nil, or_false] at hq
  rcases hq with rfl | rfl | rfl | rfl
  · exact h.lM
  · exact h.lD
  · exact h.lW
  · exact h.lP
end

theorem oOrd_val {E : Env} (hF : E.fns = fn2) {a b c' d' : Int} {c d less : Value} {T : Tree} (e0 : E.int 0 = a) (e1 : E.int 1 = b) (hc : ∀ n, den E (n + 3) c = some (.int .i64 c')) (hd : ∀ n, den E (n + 3) d = some (.int .i64 d'))
    (hl : den E 39 less = some (.bool (decide (cmpN (a, b) (c', d') < 0)))) : (oOrd c d less T).val E = T.val E := by
  have n0 : ∀ n, den E (n + 3) (oN 0) = some (.int .i64 a) := fun n => by simp only [oN, den_sv, denL_cons, denL_nil, den_i, Option.bind_some, i0, Int.reduceToNat, e0]
  have n1 : ∀ n, den E (n + 3) (oN 1) = some (.int .i64 b) := fun n => by simp only [oN, den_sv, denL_cons, denL_nil, den_i, Option.bind_some, i0, Int.reduceToNat, e1]
  have q : ∀ n, den E (n + 4) (oO c d) = some (.int .i64 (cmpN (a, b) (c', d'))) := fun n => by
    simp only [oO, den_sv, denL_cons, denL_nil, den_i, Option.bind_some, n0, n1, hc, hd, i4, hF, Int.reduceToNat]
    rfl
  unfold oOrd
  rw [node_t, node_t]
  · simp only [den_sv (n := 39), denL_cons, denL_nil, hl, Option.bind_some, den_sv (n := 38), q 34, den_i, i31, i30b, beq_self_eq_true]
  · simp only [den_sv, denL_cons, denL_nil, Option.bind_some, q, den_i, n0, n1, hc, hd, i30, i33, i30b, cmpN_z, beq_self_eq_true]

/-- what is left at a leaf behind Order's -/
theorem oStop_val {E : Env} {o : OA} {n0 n1 n2 n3 n4 : Int} {ms ds ps : List Int} {ws : List (Int × Int)} (h : OE E o n0 n1 n2 n3 n4 ms ds ws ps) {c d less : Value} {l : List (Value × Int)}
    (ho : ∀ {T : Tree}, (oOrd c d less T).val E = T.val E) (hl : ∀ q ∈ l, q ∈ o.ls) : (oStop o c d less l).val E = some (.bool true) := by
  unfold oStop
  rw [ho, oL_val, oLeaf_val h]
  intro q hq
  rcases List.mem_append.1 hq with hq | hq <;> exact h.all q (hl q hq)

section
variable {E : Env} {o p : OA} {n0 n1 n2 n3 n4 : Int} {ms ds ps : List Int} {ws : List (Int × Int)} (h : OE E o n0 n1 n2 n3 n4 ms ds ws ps)
  {k0 k1 k2 k3 k4 : Int} {ms' ds' ps' : List Int} {ws' : List (Int × Int)} (h' : OE E p k0 k1 k2 k3 k4 ms' ds' ws' ps')
include h h'
theorem oCmp_val {c d less : Value} (ho : ∀ {T : Tree}, (oOrd c d less T).val E = T.val E) : (oCmp o p c d less).val E = some (.bool true) := by
  have two : ∀ q r, OSm E q → OSm E r → ∀ p ∈ [q, r], OSm E p := fun q r hq hr p hp => by
    simp only [List.mem_cons, List.not_mem_nil, or_false] at hp
    rcases hp with rfl | rfl
    · exact hq
    · exact hr
  have st : ∀ {l : List (Value × Int)}, (∀ q ∈ l, q ∈ o.ls) → (oStop o c d less l).val E = some (.bool true) := fun hl => oStop_val h ho hl
  unfold oCmp
  refine node_val (p := n0.tmod 4 = k0.tmod 4) (by simp only [den_sv, denL_cons, denL_nil, den_i, Option.bind_some, h.F, h'.F, i30]) (fun c1 => ?_) fun _ => st (fun q hq => hq)
  refine node_val (p := mkIv n1 = mkIv k1) (by simp only [den_sv, denL_cons, denL_nil, den_i, Option.bind_some, h.I, h'.I, i30]) (fun c2 => ?_) fun _ => st (fun q hq => hq)
  refine node_val (p := mkCo n2 n3 = mkCo k2 k3) (by simp only [den_sv, denL_cons, denL_nil, den_i, Option.bind_some, h.C, h'.C, i30]) (fun c3 => ?_) fun _ => st (fun q hq => hq)
  refine node_val (p := mkTo n2 n4 = mkTo k2 k4) (by simp only [den_sv, denL_cons, denL_nil, den_i, Option.bind_some, h.U, h'.U, i30]) (fun c4 => ?_) fun _ => st (fun q hq => hq)
  rw [oL_val (two _ _ h.lM h'.lM)]
  refine node_val (p := mkMs ms = mkMs ms') (by simp only [den_sv, denL_cons, denL_nil, den_i, Option.bind_some, h.M, h'.M, i5, h.fns, Int.reduceToNat, fn2_Q.eqI]) (fun c5 => ?_) fun _ => st (fun q hq => by simp only [OA.ls, List.mem_cons, List.not_mem_nil, or_false] at hq ⊢; exact .inr hq)
  rw [oL_val (two _ _ h.lD h'.lD)]
  refine node_val (p := mkDsL (n0.tmod 4) ds = mkDsL (k0.tmod 4) ds') (by simp only [den_sv, denL_cons, denL_nil, den_i, Option.bind_some, h.D, h'.D, i5, h.fns, Int.reduceToNat, fn2_Q.eqI]) (fun c6 => ?_) fun _ => st (fun q hq => by simp only [OA.ls, List.mem_cons, List.not_mem_nil, or_false] at hq ⊢; exact .inr (.inr hq))
  rw [oL_val (two _ _ h.lW h'.lW)]
  refine node_val (p := mkWs (mkMost (n0.tmod 4)) ws = mkWs (mkMost (k0.tmod 4)) ws') (by simp only [den_sv, denL_cons, denL_nil, den_i, Option.bind_some, h.W, h'.W, i5, h.fns, Int.reduceToNat, fn2_Q.eqN]) (fun c7 => ?_) fun _ => st (fun q hq => by simp only [OA.ls, List.mem_cons, List.not_mem_nil, or_false] at hq ⊢; exact .inr (.inr (.inr hq)))
  rw [oL_val (two _ _ h.lP h'.lP), ho, node_t, oLeaf_val h]
  have e : decide (oR n0 n1 n2 n3 n4 ms ds ws ps = oR k0 k1 k2 k3 k4 ms' ds' ws' ps') = decide (mkPs (n0.tmod 4) ms ds ws ps = mkPs (k0.tmod 4) ms' ds' ws' ps') := by
    have c6' := c6
    have c7' := c7
    rw [c1] at c6' c7'
    simp only [oR, RuleD.mk.injEq, c1, c2, c3, c4, c5, c6', c7', true_and]
  simp only [den_sv (n := 39), denL_cons, denL_nil, Option.bind_some, oQ_val h h' 33, e, den_sv (n := 38), den_i, h.P, h'.P, i5, h.fns, Int.reduceToNat, fn2_Q.eqI, i30b, beq_self_eq_true]
end
end Go.Proofs.YthpapjdjnnkdbaaGreatDoor

/- RuleOrders: joined. -/
namespace Go.Proofs.YthpapjdjnnkdbaaGreatDoor
set_option linter.unusedVariables false
set_option linter.unusedSimpArgs false
open Go Go.Sy Go.ChangeShapes Go.WideShapes Go.RowKit Go.Deep

set_option maxRecDepth 100000 in
theorem open_N {H : Type} {enc : TypeId × Value → H} {W : World} {rr : Reach} {b0 base : Nat} {spare : Nat → Bool} {held : Bool} {v : Value} {d : DataW H} {p : List MemPlace}
    (hv : Value.okWide Tryz.prog W rr b0 23 v) (h : DataW.Trod enc Tryz.prog W base spare held 23 v d p) :
    ∃ a b, v = .agg #[.int .i64 a, .int .i64 b] := by
  obtain ⟨cs, n, rfl, hsz, hf⟩ := open_aggX Tryz.underlying23 (by kernel_rfl) (by kernel_rfl) hv h
  obtain ⟨v0, y0, e0, t0⟩ := hf 0 _ rfl
  obtain ⟨v1, y1, e1, t1⟩ := hf 1 _ rfl
  obtain ⟨z0, q0, _, w0⟩ := DataW.trod_int (k := .i64) (by kernel_rfl) t0
  obtain ⟨z1, q1, _, w1⟩ := DataW.trod_int (k := .i64) (by kernel_rfl) t1
  injection q0 with q0
  injection q1 with q1
  refine ⟨z0, z1, ?_⟩
  have hs2 : cs.size = 2 := hsz
  congr 1
  apply Array.ext
  · simpa using hs2
  · intro i hi _
    have : i = 0 ∨ i = 1 := by omega
    rcases this with rfl | rfl
    · simpa [q0] using (Array.getElem?_eq_some_iff.1 e0).2
    · simpa [q1] using (Array.getElem?_eq_some_iff.1 e1).2

theorem oHead_val {E : Env} {i : Int} {T : Tree} {l1 l2 l3 l4 : Nat} (h1 : ∀ n, den E (n + 3) (sv 11 [sv 9 [.int .i64 i]]) = some (.int .i64 l1)) (h2 : ∀ n, den E (n + 3) (sv 11 [sv 9 [.int .i64 (i + 1)]]) = some (.int .i64 l2))
    (h3 : ∀ n, den E (n + 3) (sv 11 [sv 9 [.int .i64 (i + 2)]]) = some (.int .i64 l3)) (h4 : ∀ n, den E (n + 3) (sv 11 [sv 9 [.int .i64 (i + 3)]]) = some (.int .i64 l4))
    (hT : l1 ≤ 20 → l2 ≤ 20 → l3 ≤ 20 → l4 ≤ 20 → T.val E = some (.bool true)) : (oHead i T).val E = some (.bool true) := by
  unfold oHead xL
  refine node_val (p := 20 < (l1 : Int)) (by rw [den_sv]; simp only [denL_cons, denL_nil, den_i, Option.bind_some, h1, i31]) (fun _ => rfl) fun c1 => ?_
  refine node_val (p := 20 < (l2 : Int)) (by rw [den_sv]; simp only [denL_cons, denL_nil, den_i, Option.bind_some, h2, i31]) (fun _ => rfl) fun c2 => ?_
  refine node_val (p := 20 < (l3 : Int)) (by rw [den_sv]; simp only [denL_cons, denL_nil, den_i, Option.bind_some, h3, i31]) (fun _ => rfl) fun c3 => ?_
  refine node_val (p := ¬ 20 < (l4 : Int)) (by rw [den_sv, denL_cons, denL_nil, den_sv (n := 38)]; simp only [denL_cons, denL_nil, den_i, Option.bind_some, h4, i31, i8, decide_not]) (fun c4 => hT (by omega) (by omega) (by omega) (by omega)) fun _ => rfl

section
variable {E : Env} {a b c d n0 n1 n2 n3 n4 k0 k1 k2 k3 k4 s : Int} {ms ds ps ms' ds' ps' : List Int} {ws ws' : List (Int × Int)}
  (hx : OE E oX n0 n1 n2 n3 n4 ms ds ws ps) (e0 : E.int 0 = a) (e1 : E.int 1 = b) (e2 : E.int 2 = c) (e3 : E.int 3 = d)

theorem oN_d {i : Int} {x : Int} (e : E.int i.toNat = x) (n) : den E (n + 3) (oN i) = some (.int .i64 x) := by
  simp only [oN, den_sv, denL_cons, denL_nil, den_i, Option.bind_some, i0, e]
theorem oLt_d {i j : Int} {x y : Int} (e : E.int i.toNat = x) (f : E.int j.toNat = y) (n) : den E (n + 4) (oLt i j) = some (.bool (decide (x < y))) := by
  unfold oLt
  rw [den_sv, denL_cons, denL_cons, denL_nil, oN_d e, oN_d f]
  simp only [Option.bind_some, i31]

include hx e0 in
theorem oAA_val {T : Tree} : (oAA T).val E = T.val E := by
  unfold oAA
  rw [need_t (b := false) (by rw [den_sv, denL_cons, denL_cons, denL_nil, oN_d (i := 0) e0 36]; simp only [Option.bind_some, i31, Int.lt_irrefl, decide_false]),
    need_t (b := true) (by rw [den_sv, denL_cons, denL_cons, denL_nil, oN_d (i := 0) e0 36]; simp only [Option.bind_some, i30, decide_true]), oMake_val hx,
    need_t (b := true) (by rw [den_sv, denL_cons, denL_cons, denL_nil, hx.F 34]; simp only [Option.bind_some, i30, decide_true])]
include hx in
theorem oCU_val {T : Tree} : (oCU T).val E = T.val E := by
  unfold oCU
  rw [need_t (b := true) (by rw [den_sv, denL_cons, denL_cons, denL_nil, hx.C 35]; simp only [Option.bind_some, i30, decide_true]),
    need_t (b := true) (by rw [den_sv, denL_cons, denL_cons, denL_nil, hx.U 35]; simp only [Option.bind_some, i30, decide_true])]
include hx in
theorem oPP : den E 39 (sv 5 [.int .i64 140, oX.P, oX.P]) = some (.bool true) := by
  simp only [den_sv (n := 38), denL_cons, denL_nil, den_i, Option.bind_some, hx.P, i5, hx.fns, Int.reduceToNat, fn2_Q.eqI, decide_true]

include hx e0 e1 in
theorem oA_val (hz : OE E oZ n0 k1 n2 n3 n4 ms ds ws ps) : oA.val E = some (.bool true) := by
  have ho : ∀ {T : Tree}, (oOrd (oN 0) (oN 1) (oLt 1 1) T).val E = T.val E := oOrd_val hx.fns e0 e1 (oN_d e0) (oN_d e1) ((oLt_d (i := 1) (j := 1) e1 e1 35).trans (by
    congr 3
    apply propext
    rw [cmpN_l]
    omega))
  unfold oA
  rw [oAA_val hx e0]
  refine node_val (p := mkIv n1 = mkIv k1) (by rw [den_sv, denL_cons, denL_cons, denL_nil, hx.I 35, hz.I 35]; simp only [Option.bind_some, i30]) (fun c1 => ?_) fun c1 => ?_
  · rw [oCU_val hx, oLs_val hx, ho, node_t, oLeaf_val hx]
    have e : oR n0 n1 n2 n3 n4 ms ds ws ps = oR n0 k1 n2 n3 n4 ms ds ws ps := by simp only [oR, c1]
    rw [den_sv, denL_cons, denL_cons, denL_nil, oQ_val hx hz 33, oPP hx, e]
    simp only [Option.bind_some, i30b, decide_true, beq_self_eq_true]
  · rw [ho, oL_val, node_t, oLeaf_val hx]
    · have e : oR n0 n1 n2 n3 n4 ms ds ws ps ≠ oR n0 k1 n2 n3 n4 ms ds ws ps := fun e => c1 (by have := congrArg RuleD.itv e; exact this)
      rw [den_sv, denL_cons, denL_cons, denL_nil, oQ_val hx hz 33, den_b, decide_eq_false e]
      rfl
    · intro q hq
      rcases List.mem_append.1 hq with hq | hq <;> exact hx.all q hq

include hx e0 e1 e3 in
theorem oB_val : oB.val E = some (.bool true) := by
  have ho : ∀ {T : Tree}, (oOrd (oN 0) (oN 3) (oLt 1 3) T).val E = T.val E := oOrd_val hx.fns e0 e1 (oN_d e0) (oN_d e3) ((oLt_d (i := 1) (j := 3) e1 e3 35).trans (by
    congr 3
    apply propext
    rw [cmpN_l]
    omega))
  unfold oB
  rw [oAA_val hx e0, need_t (b := true) (by rw [den_sv, denL_cons, denL_cons, denL_nil, hx.I 35]; simp only [Option.bind_some, i30, decide_true]), oCU_val hx, oLs_val hx, ho, node_t, oLeaf_val hx]
  rw [den_sv, denL_cons, denL_cons, denL_nil, oQ_val hx hx 33, oPP hx]
  simp only [Option.bind_some, i30b, decide_true, beq_self_eq_true]

include hx e0 e1 e2 e3 in
theorem oC_val (hy : OE E oY k0 k1 k2 k3 k4 ms' ds' ws' ps') {less : Value} (hl : den E 39 less = some (.bool (decide (a < c ∨ a = c ∧ b < d)))) : (oC less).val E = some (.bool true) := by
  unfold oC
  rw [oMake_val hx, oMake_val hy]
  exact oCmp_val hx hy (oOrd_val hx.fns e0 e1 (oN_d e2) (oN_d e3) (hl.trans (by
    congr 3
    apply propext
    rw [cmpN_l])))

include hx e0 e1 e2 e3 in
theorem oTop_val (hz : OE E oZ n0 (IntKind.u8.wrap (n1 + 1)) n2 n3 n4 ms ds ws ps) (hy : OE E oY k0 k1 k2 k3 k4 ms' ds' ws' ps') (e14 : E.int 14 = s) (hs : 0 ≤ s) : oTop.val E = some (.bool true) := by
  have r0 := Int.tmod_nonneg 3 hs
  have sm : ∀ n, den E (n + 4) oSm = some (.int .u8 (s.tmod 3)) := fun n => by
    simp only [oSm, den_sv, denL_cons, denL_nil, den_i, Option.bind_some, i0, i24, Int.reduceToNat, e14, Int.reduceEq, ↓reduceIte]
  unfold oTop
  refine node_val (p := 0 < s.tmod 3) (by rw [den_sv, denL_cons, denL_cons, denL_nil, sm 35]; simp only [den_i, Option.bind_some, i31]) (fun _ => ?_) fun c0 => ?_
  · exact node_val (p := 1 < s.tmod 3) (by rw [den_sv, denL_cons, denL_cons, denL_nil, sm 35]; simp only [den_i, Option.bind_some, i31]) (fun _ => oA_val hx e0 e1 hz) fun _ => oB_val hx e0 e1 e3
  · rw [need_t (b := false) (by rw [den_sv, denL_cons, denL_cons, denL_nil, sm 35]; simp only [den_i, Option.bind_some, i31, decide_eq_false (show ¬ 1 < s.tmod 3 by omega)])]
    refine node_val (p := a < c) (oLt_d e0 e2 36) (fun c1 => oC_val hx e0 e1 e2 e3 hy ?_) fun c1 => ?_
    · rw [den_b, decide_eq_true (.inl c1)]
    · refine node_val (p := a = c) (by rw [den_sv, denL_cons, denL_cons, denL_nil, oN_d (i := 0) e0 36, oN_d (i := 2) e2 36]; simp only [Option.bind_some, i30]) (fun c2 => oC_val hx e0 e1 e2 e3 hy ?_) fun c2 => oC_val hx e0 e1 e2 e3 hy ?_
      · rw [oLt_d (i := 1) (j := 3) e1 e3 35]
        congr 3
        apply propext
        omega
      · rw [den_b, decide_eq_false (by omega)]
end

theorem walk_RuleOrders (a b c d : Int) (v2 v3 : Value) (s : Int) (w4 : (Lit.int .u8 s).wf = true) (w : World) (hs : Wld w) (ht : TypW w) {n0 n1 n2 n3 n4 k0 k1 k2 k3 k4 : Int} {ms ds ps ms' ds' ps' : List Int} {ws ws' : List (Int × Int)} {s1 s2 s3 s4 s1' s2' s3' s4' : Value}
    (hx : XIn w v2 n0 n1 n2 n3 n4 ms ds ws ps s1 s2 s3 s4) (hy : XIn w v3 k0 k1 k2 k3 k4 ms' ds' ws' ps' s1' s2' s3' s4') :
    Calls Tryz.prog 3 #[.agg #[.int .i64 a, .int .i64 b], .agg #[.int .i64 c, .int .i64 d], v2, v3, .int .u8 s] w fun e w' => e = .returned (.bool true) ∧ Below w.heap.size w w' := by
  obtain ⟨E, hEq⟩ : ∃ E, E = mkE fn2 (rowsO (rowsX s1 s2 s3 s4 ms ds ws ps) (rowsX s1' s2' s3' s4' ms' ds' ws' ps')) [a, b, c, d, n0, n1, n2, n3, n4, k0, k1, k2, k3, k4, s] [] [] fun _ => undef := ⟨_, rfl⟩
  have hfn : E.fns = fn2 := by rw [hEq]; rfl
  have hrw : E.rows = rowsO (rowsX s1 s2 s3 s4 ms ds ws ps) (rowsX s1' s2' s3' s4' ms' ds' ws' ps') := by rw [hEq]; rfl
  have e0 : E.int 0 = a := by rw [hEq]; rfl
  have e1 : E.int 1 = b := by rw [hEq]; rfl
  have e2 : E.int 2 = c := by rw [hEq]; rfl
  have e3 : E.int 3 = d := by rw [hEq]; rfl
  have e4 : E.int 4 = n0 := by rw [hEq]; rfl
  have e5 : E.int 5 = n1 := by rw [hEq]; rfl
  have e6 : E.int 6 = n2 := by rw [hEq]; rfl
  have e7 : E.int 7 = n3 := by rw [hEq]; rfl
  have e8 : E.int 8 = n4 := by rw [hEq]; rfl
  have e9 : E.int 9 = k0 := by rw [hEq]; rfl
  have e10 : E.int 10 = k1 := by rw [hEq]; rfl
  have e11 : E.int 11 = k2 := by rw [hEq]; rfl
  have e12 : E.int 12 = k3 := by rw [hEq]; rfl
  have e13 : E.int 13 = k4 := by rw [hEq]; rfl
  have e14 : E.int 14 = s := by rw [hEq]; rfl
  clear hEq
  obtain ⟨p1, c1, q1⟩ := rowW_len hx.r1
  obtain ⟨p2, c2, q2⟩ := rowW_len hx.r2
  obtain ⟨p3, c3, q3⟩ := rowW_lenP hx.r3
  obtain ⟨p4, c4, q4⟩ := rowW_len hx.r4
  obtain ⟨p5, c5, q5⟩ := rowW_len hy.r1
  obtain ⟨p6, c6, q6⟩ := rowW_len hy.r2
  obtain ⟨p7, c7, q7⟩ := rowW_lenP hy.r3
  obtain ⟨p8, c8, q8⟩ := rowW_len hy.r4
  have ln : ∀ (i : Int) (l : Nat) (a : Option Addr) (c : Nat), E.rows.v i.toNat = .slice a l c → ∀ n, den E (n + 3) (sv 11 [sv 9 [.int .i64 i]]) = some (.int .i64 l) := fun i l a c e n => by
    simp only [den_sv, denL_cons, denL_nil, den_i, Option.bind_some, i9 _ e, i11]
  refine tree_hT toldO_ok (K := kO (rowsX s1 s2 s3 s4 ms ds ws ps) (rowsX s1' s2' s3' s4' ms' ds' ws' ps')) (args := oArgs) (Tr := ordersT) (F0 := []) orders_run (E := E) (by intro p hp; cases hp) hfn hrw ?_ ?_ hs ht ?_
  · refine oHead_val (ln 0 ms.length p1 c1 (by rw [hrw]; exact q1)) (ln 1 ds.length p2 c2 (by rw [hrw]; exact q2)) (ln 2 ws.length p3 c3 (by rw [hrw]; exact q3)) (ln 3 ps.length p4 c4 (by rw [hrw]; exact q4)) fun l1 l2 l3 l4 => ?_
    refine oHead_val (ln 4 ms'.length p5 c5 (by rw [hrw]; exact q5)) (ln 5 ds'.length p6 c6 (by rw [hrw]; exact q6)) (ln 6 ws'.length p7 c7 (by rw [hrw]; exact q7)) (ln 7 ps'.length p8 c8 (by rw [hrw]; exact q8)) fun l5 l6 l7 l8 => ?_
    have sx := hx.small l1 l2 l3 l4
    have sy := hy.small l5 l6 l7 l8
    have g0 := (bounds_u8 hx.w0).1
    have h0 := (bounds_u8 hy.w0).1
    have dn : ∀ (k : IntKind) (i x : Int), E.int i.toNat = x → ∀ n, den E (n + 3) (sv 0 [.int k i]) = some (.int k x) := fun k i x e n => by simp only [den_sv, denL_cons, denL_nil, den_i, Option.bind_some, i0, e]
    have rw' : ∀ (i : Int) (v : Value), (∀ n, den E (n + 2) (sv 80 [.int .i64 i]) = some v) → ∀ n, den E (n + 3) (sv 80 [.int .i64 i]) = some v := fun i v h n => h (n + 1)
    have y0 : ∀ n, den E (n + 3) (sv 80 [.int .i64 0]) = some (ints .u8 ms) := rw' _ _ fun n => by simp only [den_sv, denL_cons, denL_nil, den_i, Option.bind_some, i80, hrw]; rfl
    have y1 : ∀ n, den E (n + 3) (sv 80 [.int .i64 1]) = some (ints .i8 ds) := rw' _ _ fun n => by simp only [den_sv, denL_cons, denL_nil, den_i, Option.bind_some, i80, hrw]; rfl
    have y2 : ∀ n, den E (n + 3) (sv 80 [.int .i64 2]) = some (prs .i8 .u8 ws) := rw' _ _ fun n => by simp only [den_sv, denL_cons, denL_nil, den_i, Option.bind_some, i80, hrw]; rfl
    have y3 : ∀ n, den E (n + 3) (sv 80 [.int .i64 3]) = some (ints .i16 ps) := rw' _ _ fun n => by simp only [den_sv, denL_cons, denL_nil, den_i, Option.bind_some, i80, hrw]; rfl
    have y4 : ∀ n, den E (n + 3) (sv 80 [.int .i64 4]) = some (ints .u8 ms') := rw' _ _ fun n => by simp only [den_sv, denL_cons, denL_nil, den_i, Option.bind_some, i80, hrw]; rfl
    have y5 : ∀ n, den E (n + 3) (sv 80 [.int .i64 5]) = some (ints .i8 ds') := rw' _ _ fun n => by simp only [den_sv, denL_cons, denL_nil, den_i, Option.bind_some, i80, hrw]; rfl
    have y6 : ∀ n, den E (n + 3) (sv 80 [.int .i64 6]) = some (prs .i8 .u8 ws') := rw' _ _ fun n => by simp only [den_sv, denL_cons, denL_nil, den_i, Option.bind_some, i80, hrw]; rfl
    have y7 : ∀ n, den E (n + 3) (sv 80 [.int .i64 7]) = some (ints .i16 ps') := rw' _ _ fun n => by simp only [den_sv, denL_cons, denL_nil, den_i, Option.bind_some, i80, hrw]; rfl
    have HX : OE E oX n0 n1 n2 n3 n4 ms ds ws ps := ⟨hfn, dn .u8 4 n0 e4, dn .u8 5 n1 e5, dn .u8 6 n2 e6, dn .u16 7 n3 e7, dn .u32 8 n4 e8, y0, y1, y2, y3, g0, sx⟩
    have HY : OE E oY k0 k1 k2 k3 k4 ms' ds' ws' ps' := ⟨hfn, dn .u8 9 k0 e9, dn .u8 10 k1 e10, dn .u8 11 k2 e11, dn .u16 12 k3 e12, dn .u32 13 k4 e13, y4, y5, y6, y7, h0, sy⟩
    have HZ : OE E oZ n0 (IntKind.u8.wrap (n1 + 1)) n2 n3 n4 ms ds ws ps := ⟨hfn, dn .u8 4 n0 e4, fun n => by
      simp only [oZ, den_sv, denL_cons, denL_nil, den_i, Option.bind_some, i0, Int.reduceToNat, e5, i20], dn .u8 6 n2 e6, dn .u16 7 n3 e7, dn .u32 8 n4 e8, y0, y1, y2, y3, g0, sx⟩
    exact oTop_val HX e0 e1 e2 e3 HZ HY e14 (bounds_u8 w4).1
  · intro ρ hρ
    have sl : ∀ (i : Int) (s : Value) (n : Nat), E.rows.v i.toNat = s → (∃ a c, s = .slice a n c) → VR ρ (sv 9 [.int .i64 i]) s := fun i s n hs ⟨a, c, e⟩ => sv_vr (vr1 (.int _ _)) (by rw [hρ, e]; exact i9 _ (hs.trans e))
    rw [hx.val, hy.val]
    refine VRs.cons (VR.agg' (VRs.cons (vr_int hρ _ _ e0) (vr1 (vr_int hρ _ _ e1)))) (VRs.cons (VR.agg' (VRs.cons (vr_int hρ _ _ e2) (vr1 (vr_int hρ _ _ e3)))) (VRs.cons (VR.agg' ?_) (VRs.cons (VR.agg' ?_) (vr1 (vr_int hρ _ _ e14)))))
    · exact VRs.cons (vr_int hρ _ _ e4) (VRs.cons (vr_int hρ _ _ e5) (VRs.cons (vr_int hρ _ _ e6) (VRs.cons (vr_int hρ _ _ e7) (VRs.cons (vr_int hρ _ _ e8)
        (VRs.cons (sl 0 _ _ (by rw [hrw]; rfl) ⟨p1, c1, q1⟩) (VRs.cons (sl 1 _ _ (by rw [hrw]; rfl) ⟨p2, c2, q2⟩) (VRs.cons (sl 2 _ _ (by rw [hrw]; rfl) ⟨p3, c3, q3⟩) (vr1 (sl 3 _ _ (by rw [hrw]; rfl) ⟨p4, c4, q4⟩)))))))))
    · exact VRs.cons (vr_int hρ _ _ e9) (VRs.cons (vr_int hρ _ _ e10) (VRs.cons (vr_int hρ _ _ e11) (VRs.cons (vr_int hρ _ _ e12) (VRs.cons (vr_int hρ _ _ e13)
        (VRs.cons (sl 4 _ _ (by rw [hrw]; rfl) ⟨p5, c5, q5⟩) (VRs.cons (sl 5 _ _ (by rw [hrw]; rfl) ⟨p6, c6, q6⟩) (VRs.cons (sl 6 _ _ (by rw [hrw]; rfl) ⟨p7, c7, q7⟩) (vr1 (sl 7 _ _ (by rw [hrw]; rfl) ⟨p8, c8, q8⟩)))))))))
  · intro x hx'
    simp only [kO, srtsO, List.mem_cons, List.not_mem_nil, or_false] at hx'
    rcases hx' with rfl | rfl | rfl | rfl | rfl | rfl | rfl | rfl
    · exact hx.r1
    · exact hx.r2
    · exact hx.r3
    · exact hx.r4
    · exact hy.r1
    · exact hy.r2
    · exact hy.r3
    · exact hy.r4
end Go.Proofs.YthpapjdjnnkdbaaGreatDoor
