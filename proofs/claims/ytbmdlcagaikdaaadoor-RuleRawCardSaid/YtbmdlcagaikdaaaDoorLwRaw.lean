/- LwRaw: joined of OpenU, LwRaw. -/
import Derived.Test.YtbmdlcagaikdaaaDoorOpenX
import Derived.Test.YtbmdlcagaikdaaaDoorAw2E
import Derived.OpenShut
import Derived.Test.YtbmdlcagaikdaaaDoorChkF

/- A rule.Rule that came in: its numbers, its lists as slices that are only read. -/
namespace Go.Proofs.YtbmdlcagaikdaaaDoor
set_option linter.unusedVariables false
set_option linter.unusedSimpArgs false
open Go Go.Sy Go.ChangeShapes Go.WideShapes Go.RowKit Go.Deep

structure UIn (w : World) (v : Value) (r : RuleD) (s1 s2 s3 s4 : Value) : Prop where
  val : v = .agg #[.int .i64 r.freq, .int .i64 r.itv, .int .i64 r.cnt, .int .i64 r.untl, s1, s2, s3, s4]
  r1 : RowW w s1 [.int .i64] (r.months.map (Value.int .i64))
  r2 : RowW w s2 [.int .i64] (r.days.map (Value.int .i64))
  r3 : RowW w s3 [.int .i64, .int .i64] (r.wds.flatMap fun (p : Int × Int) => [Value.int .i64 p.1, Value.int .i64 p.2])
  r4 : RowW w s4 [.int .i64] (r.pos.map (Value.int .i64))

set_option maxRecDepth 100000 in
theorem open_U {H : Type} {enc : TypeId × Value → H} {W : World} {rr : Reach} {b0 base : Nat} {spare : Nat → Bool} {held : Bool} {v : Value} {d : DataW H} {p : List MemPlace}
    (hv : Value.okWide Tryd.prog W rr b0 27 v) (h : DataW.Trod enc Tryd.prog W base spare held 27 v d p) :
    ∃ r s1 s2 s3 s4, UIn W v r s1 s2 s3 s4 := by
  obtain ⟨cs, n, rfl, hsz, hf⟩ := open_aggX Tryd.underlying27 (by kernel_rfl) (by kernel_rfl) hv h
  obtain ⟨v0, y0, e0, t0⟩ := hf 0 _ rfl
  obtain ⟨v1, y1, e1, t1⟩ := hf 1 _ rfl
  obtain ⟨v2, y2, e2, t2⟩ := hf 2 _ rfl
  obtain ⟨v3, y3, e3, t3⟩ := hf 3 _ rfl
  obtain ⟨v4, y4, e4, t4⟩ := hf 4 _ rfl
  obtain ⟨v5, y5, e5, t5⟩ := hf 5 _ rfl
  obtain ⟨v6, y6, e6, t6⟩ := hf 6 _ rfl
  obtain ⟨v7, y7, e7, t7⟩ := hf 7 _ rfl
  obtain ⟨z0, q0, _, w0⟩ := DataW.trod_int (k := .i64) (by kernel_rfl) t0
  obtain ⟨z1, q1, _, w1⟩ := DataW.trod_int (k := .i64) (by kernel_rfl) t1
  obtain ⟨z2, q2, _, w2⟩ := DataW.trod_int (k := .i64) (by kernel_rfl) t2
  obtain ⟨z3, q3, _, w3⟩ := DataW.trod_int (k := .i64) (by kernel_rfl) t3
  injection q0 with q0
  injection q1 with q1
  injection q2 with q2
  injection q3 with q3
  obtain ⟨ms, r1, m1, l1⟩ := open_rowI (e := 3) (k := .i64) (by kernel_rfl) (by kernel_rfl) (by kernel_rfl) t4
  obtain ⟨ds, r2, m2, l2⟩ := open_rowI (e := 3) (k := .i64) (by kernel_rfl) (by kernel_rfl) (by kernel_rfl) t5
  obtain ⟨ws, r3, m3, l3⟩ := open_rowP (e := 34) (k := .i64) (k' := .i64) (by kernel_rfl) Tryd.underlying34 (by kernel_rfl) rfl rfl (by kernel_rfl) (by kernel_rfl) (by kernel_rfl) (by kernel_rfl) t6
  obtain ⟨ps, r4, m4, l4⟩ := open_rowI (e := 3) (k := .i64) (by kernel_rfl) (by kernel_rfl) (by kernel_rfl) t7
  refine ⟨⟨z0, z1, z2, z3, ms, ds, ws, ps⟩, v4, v5, v6, v7, ?_, r1, r2, r3, r4⟩
  have hs8 : cs.size = 8 := hsz
  congr 1
  apply Array.ext
  · simpa using hs8
  · intro i hi _
    have : i = 0 ∨ i = 1 ∨ i = 2 ∨ i = 3 ∨ i = 4 ∨ i = 5 ∨ i = 6 ∨ i = 7 := by omega
    rcases this with rfl | rfl | rfl | rfl | rfl | rfl | rfl | rfl
    · simpa [q0] using (Array.getElem?_eq_some_iff.1 e0).2
    · simpa [q1] using (Array.getElem?_eq_some_iff.1 e1).2
    · simpa [q2] using (Array.getElem?_eq_some_iff.1 e2).2
    · simpa [q3] using (Array.getElem?_eq_some_iff.1 e3).2
    · simpa using (Array.getElem?_eq_some_iff.1 e4).2
    · simpa using (Array.getElem?_eq_some_iff.1 e5).2
    · simpa using (Array.getElem?_eq_some_iff.1 e6).2
    · simpa using (Array.getElem?_eq_some_iff.1 e7).2
end Go.Proofs.YtbmdlcagaikdaaaDoor

/- RuleRaw. -/
namespace Go.Proofs.YtbmdlcagaikdaaaDoor
set_option linter.unusedVariables false
set_option linter.unusedSimpArgs false
open Go Go.Sy Go.RowKit

def rowsU (s1 s2 s3 s4 : Value) (r : RuleD) : RowE where
  v i := match i with
    | 0 => s1
    | 1 => s2
    | 2 => s3
    | 3 => s4
    | _ => undef
  cells i := match i with
    | 0 => r.months.map (Value.int .i64)
    | 1 => r.days.map (Value.int .i64)
    | 2 => r.wds.flatMap fun (p : Int × Int) => [Value.int .i64 p.1, Value.int .i64 p.2]
    | 3 => r.pos.map (Value.int .i64)
    | _ => []
def kU (s1 s2 s3 s4 : Value) (r : RuleD) : RowsK := ⟨[(0, [.int .i64]), (1, [.int .i64]), (2, [.int .i64, .int .i64]), (3, [.int .i64])], rowsU s1 s2 s3 s4 r⟩
def toldU : Tolds := ⟨[awC 8], [checkG, listsG], [refC], [], []⟩
theorem toldU_ok : TOk fnC toldU := ⟨fun c h => (by
    simp only [toldU, List.mem_cons, List.not_mem_nil, or_false] at h
    subst h
    exact awC_ok aw2 fnC), fun c h => (by
    simp only [toldU, List.mem_cons, List.not_mem_nil, or_false] at h
    rcases h with rfl | rfl
    · exact checkG_ok fnC_R
    · exact listsG_ok fnC_R), fun c h => (by
    simp only [toldU, List.mem_cons, List.not_mem_nil, or_false] at h
    subst h
    exact refC_ok fnC_K), fun c h => (by cases h), fun c h => (by cases h)⟩

def argU : Value := .agg #[sv 0 [.int .i64 0], sv 0 [.int .i64 1], sv 0 [.int .i64 2], sv 0 [.int .i64 3], sv 9 [.int .i64 0], sv 9 [.int .i64 1], sv 9 [.int .i64 2], sv 9 [.int .i64 3]]
def uL (i : Int) : Value := sv 31 [.int .i64 80, sv 11 [sv 9 [.int .i64 i]]]
def uN (i z : Int) (T : Tree) : Tree := .need (sv 31 [sv 74 [sv 80 [.int .i64 i], .int .i64 z], .int .i64 16777216]) true T
def uF (k : Int) : Value := sv 4 [.int .i64 k, sv 0 [.int .i64 0], sv 0 [.int .i64 1], sv 0 [.int .i64 2], sv 0 [.int .i64 3], sv 80 [.int .i64 0], sv 80 [.int .i64 1], sv 80 [.int .i64 2], sv 80 [.int .i64 3]]
def rawT : Tree := .node (uL 0) (.leaf (.bool true)) (.node (uL 1) (.leaf (.bool true)) (.node (uL 2) (.leaf (.bool true)) (.node (uL 3) (.leaf (.bool true)) (uN 0 1 (uN 1 1 (uN 2 2 (uN 3 1 (.leaf (sv 30 [uF 130, uF 133])))))))))

theorem raw_run {s1 s2 s3 s4 : Value} {r : RuleD} : ∀ t1 t2 t3 t4, rawT.ok (fun F => (arun (cfgH fnC (kU s1 s2 s3 s4 r) toldU F) 1000 3 [argU] (heapOf 20 (vars t1 t2 t3 t4))).map (·.1)) [] = true := fun t1 t2 t3 t4 => by kernel_rfl

theorem walk_RuleRaw (v0 : Value) (w : World) (hs : Wld w) {r : RuleD} {s1 s2 s3 s4 : Value} (hx : UIn w v0 r s1 s2 s3 s4) : Calls Tryd.prog 3 #[v0] w fun e w' => e = .returned (.bool true) ∧ Below w.heap.size w w' := by
  obtain ⟨E, hEq⟩ : ∃ E, E = mkE fnC (rowsU s1 s2 s3 s4 r) [r.freq, r.itv, r.cnt, r.untl] [] [] fun _ => undef := ⟨_, rfl⟩
  have hfn : E.fns = fnC := by rw [hEq]; rfl
  have hrw : E.rows = rowsU s1 s2 s3 s4 r := by rw [hEq]; rfl
  have e0 : E.int 0 = r.freq := by rw [hEq]; rfl
  have e1 : E.int 1 = r.itv := by rw [hEq]; rfl
  have e2 : E.int 2 = r.cnt := by rw [hEq]; rfl
  have e3 : E.int 3 = r.untl := by rw [hEq]; rfl
  obtain ⟨p1, c1, q1⟩ := rowW_len hx.r1
  obtain ⟨p2, c2, q2⟩ := rowW_len hx.r2
  obtain ⟨p3, c3, q3⟩ := rowW_lenP hx.r3
  obtain ⟨p4, c4, q4⟩ := rowW_len hx.r4
  refine tree_h toldU_ok (K := kU s1 s2 s3 s4 r) (args := [argU]) (Tr := rawT) (F0 := []) raw_run (E := E) (by intro p hp; cases hp) hfn hrw ?_ ?_ hs ?_
  · have d0 : ∀ n, den E (n + 2) (sv 80 [.int .i64 0]) = some (ints .i64 r.months) := fun n => by simp only [den_sv, denL_cons, denL_nil, den_i, Option.bind_some, i80, hrw]; rfl
    have d1 : ∀ n, den E (n + 2) (sv 80 [.int .i64 1]) = some (ints .i64 r.days) := fun n => by simp only [den_sv, denL_cons, denL_nil, den_i, Option.bind_some, i80, hrw]; rfl
    have d2 : ∀ n, den E (n + 2) (sv 80 [.int .i64 2]) = some (prs .i64 .i64 r.wds) := fun n => by simp only [den_sv, denL_cons, denL_nil, den_i, Option.bind_some, i80, hrw]; rfl
    have d3 : ∀ n, den E (n + 2) (sv 80 [.int .i64 3]) = some (ints .i64 r.pos) := fun n => by simp only [den_sv, denL_cons, denL_nil, den_i, Option.bind_some, i80, hrw]; rfl
    have v0 : E.rows.v (Int.toNat 0) = .slice p1 r.months.length c1 := by rw [hrw]; exact q1
    have v1 : E.rows.v (Int.toNat 1) = .slice p2 r.days.length c2 := by rw [hrw]; exact q2
    have v2 : E.rows.v (Int.toNat 2) = .slice p3 r.wds.length c3 := by rw [hrw]; exact q3
    have v3 : E.rows.v (Int.toNat 3) = .slice p4 r.pos.length c4 := by rw [hrw]; exact q4
    simp only [rawT, uL, uN, uF, val_node, val_need, val_leaf, den_sv, denL_cons, denL_nil, den_i, den_b, Option.bind_some, i9 _ v0, i9 _ v1, i9 _ v2, i9 _ v3, i11, i31, d0, d1, d2, d3, i74i, i74p, i0, i4, i30, Int.reduceToNat, e0, e1, e2, e3, hfn, fnC_R.check, fnC_K.ref, pick_b, want_b, decide_eq_true_eq, decide_true]
    split
    · rfl
    · split
      · rfl
      · split
        · rfl
        · split
          · rfl
          · rw [if_pos (by omega), if_pos (by omega), if_pos (by omega), if_pos (by omega)]
  · intro ρ hρ
    have sl : ∀ (i : Int) (s : Value) (n : Nat), E.rows.v i.toNat = s → (∃ a c, s = .slice a n c) → VR ρ (sv 9 [.int .i64 i]) s := fun i s n hs ⟨a, c, e⟩ => sv_vr (vr1 (.int _ _)) (by rw [hρ, e]; exact i9 _ (hs.trans e))
    rw [hx.val]
    refine vr1 (VR.agg' ?_)
    exact VRs.cons (vr_int hρ _ _ e0) (VRs.cons (vr_int hρ _ _ e1) (VRs.cons (vr_int hρ _ _ e2) (VRs.cons (vr_int hρ _ _ e3)
      (VRs.cons (sl 0 _ _ (by rw [hrw]; rfl) ⟨p1, c1, q1⟩) (VRs.cons (sl 1 _ _ (by rw [hrw]; rfl) ⟨p2, c2, q2⟩) (VRs.cons (sl 2 _ _ (by rw [hrw]; rfl) ⟨p3, c3, q3⟩) (vr1 (sl 3 _ _ (by rw [hrw]; rfl) ⟨p4, c4, q4⟩))))))))
  · intro x hx'
    simp only [kU, List.mem_cons, List.not_mem_nil, or_false] at hx'
    rcases hx' with rfl | rfl | rfl | rfl
    · exact hx.r1
    · exact hx.r2
    · exact hx.r3
    · exact hx.r4
end Go.Proofs.YtbmdlcagaikdaaaDoor
