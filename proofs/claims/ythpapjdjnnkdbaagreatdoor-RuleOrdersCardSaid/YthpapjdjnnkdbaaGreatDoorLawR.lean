/- Laws over a value of kalendslaw02.R: what is told; the environment; what its expressions are. -/
import Derived.Test.YthpapjdjnnkdbaaGreatDoorFn2
import Derived.Test.YthpapjdjnnkdbaaGreatDoorMkOk
import Derived.Test.YthpapjdjnnkdbaaGreatDoorOpenX
import Derived.Test.YthpapjdjnnkdbaaGreatDoorAw2E
import Derived.OpenShut
namespace Go.Proofs.YthpapjdjnnkdbaaGreatDoor
set_option linter.unusedVariables false
set_option linter.unusedSimpArgs false
open Go Go.Sy Go.RowKit

def rowsX (s1 s2 s3 s4 : Value) (ms ds : List Int) (ws : List (Int × Int)) (ps : List Int) : RowE where
  v i := match i with
    | 0 => s1
    | 1 => s2
    | 2 => s3
    | 3 => s4
    | _ => undef
  cells i := match i with
    | 0 => ms.map (Value.int .u8)
    | 1 => ds.map (Value.int .i8)
    | 2 => ws.flatMap fun (p : Int × Int) => [Value.int .i8 p.1, Value.int .u8 p.2]
    | 3 => ps.map (Value.int .i16)
    | _ => []
def srtsX : List (Nat × List Srt) := [(0, [.int .u8]), (1, [.int .i8]), (2, [.int .i8, .int .u8]), (3, [.int .i16])]
def kX (s1 s2 s3 s4 : Value) (ms ds : List Int) (ws : List (Int × Int)) (ps : List Int) : RowsK := ⟨srtsX, rowsX s1 s2 s3 s4 ms ds ws ps⟩
def argX : Value := .agg #[sv 0 [.int .u8 0], sv 0 [.int .u8 1], sv 0 [.int .u8 2], sv 0 [.int .u16 3], sv 0 [.int .u32 4], sv 9 [.int .i64 0], sv 9 [.int .i64 1], sv 9 [.int .i64 2], sv 9 [.int .i64 3]]

/-- What an environment says of such an argument. -/
structure XE (E : Env) (n0 n1 n2 n3 n4 : Int) (ms ds : List Int) (ws : List (Int × Int)) (ps : List Int) (s1 s2 s3 s4 : Value) : Prop where
  fns : E.fns = fn2
  rows : E.rows = rowsX s1 s2 s3 s4 ms ds ws ps
  e0 : E.int 0 = n0
  e1 : E.int 1 = n1
  e2 : E.int 2 = n2
  e3 : E.int 3 = n3
  e4 : E.int 4 = n4
  l1 : ∃ a c, s1 = .slice a ms.length c
  l2 : ∃ a c, s2 = .slice a ds.length c
  l3 : ∃ a c, s3 = .slice a ws.length c
  l4 : ∃ a c, s4 = .slice a ps.length c

section
variable {w : World} {v : Value} {n0 n1 n2 n3 n4 : Int} {ms ds ps : List Int} {ws : List (Int × Int)} {s1 s2 s3 s4 : Value}

theorem XIn.env (h : XIn w v n0 n1 n2 n3 n4 ms ds ws ps s1 s2 s3 s4) {E : Env} (hf : E.fns = fn2) (hr : E.rows = rowsX s1 s2 s3 s4 ms ds ws ps) (e0 : E.int 0 = n0) (e1 : E.int 1 = n1) (e2 : E.int 2 = n2) (e3 : E.int 3 = n3) (e4 : E.int 4 = n4) :
    XE E n0 n1 n2 n3 n4 ms ds ws ps s1 s2 s3 s4 := ⟨hf, hr, e0, e1, e2, e3, e4, rowW_len h.r1, rowW_len h.r2, rowW_lenP h.r3, rowW_len h.r4⟩

theorem XIn.rowsIn (h : XIn w v n0 n1 n2 n3 n4 ms ds ws ps s1 s2 s3 s4) : ∀ r ∈ (kX s1 s2 s3 s4 ms ds ws ps).s, RowIn (kX s1 s2 s3 s4 ms ds ws ps).r w.heap.size w r := by
  intro r hr
  simp only [kX, srtsX, List.mem_cons, List.not_mem_nil, or_false] at hr
  rcases hr with rfl | rfl | rfl | rfl
  · exact h.r1
  · exact h.r2
  · exact h.r3
  · exact h.r4

theorem XIn.vr (h : XIn w v n0 n1 n2 n3 n4 ms ds ws ps s1 s2 s3 s4) {E : Env} (x : XE E n0 n1 n2 n3 n4 ms ds ws ps s1 s2 s3 s4) {ρ : Rho} (hρ : ρ.env = E) : VR ρ argX v := by
  rw [h.val]
  refine VR.agg' ?_
  have sl : ∀ (i : Int) (s : Value) (n : Nat), E.rows.v i.toNat = s → (∃ a c, s = .slice a n c) → VR ρ (sv 9 [.int .i64 i]) s := fun i s n hs ⟨a, c, e⟩ => sv_vr (vr1 (.int _ _)) (by rw [hρ, e]; exact i9 _ (hs.trans e))
  exact VRs.cons (vr_int hρ _ _ x.e0) (VRs.cons (vr_int hρ _ _ x.e1) (VRs.cons (vr_int hρ _ _ x.e2) (VRs.cons (vr_int hρ _ _ x.e3) (VRs.cons (vr_int hρ _ _ x.e4)
    (VRs.cons (sl 0 _ _ (by rw [x.rows]; rfl) x.l1) (VRs.cons (sl 1 _ _ (by rw [x.rows]; rfl) x.l2) (VRs.cons (sl 2 _ _ (by rw [x.rows]; rfl) x.l3) (vr1 (sl 3 _ _ (by rw [x.rows]; rfl) x.l4)))))))))

theorem XIn.small (h : XIn w v n0 n1 n2 n3 n4 ms ds ws ps s1 s2 s3 s4) (l1 : ms.length ≤ 20) (l2 : ds.length ≤ 20) (l3 : ws.length ≤ 20) (l4 : ps.length ≤ 20) : Small ms ds ws ps :=
  ⟨fun x hx => (bounds_u8 (h.m x hx)).1, fun x hx => by have := bounds_i8 (h.d x hx); omega, fun x hx => by have := bounds_i8 (h.k x hx).1; have := bounds_u8 (h.k x hx).2; omega,
    fun x hx => bounds_i16 (h.p x hx), l1, l2, l3, l4⟩
end

section
variable {E : Env} {n0 n1 n2 n3 n4 : Int} {ms ds ps : List Int} {ws : List (Int × Int)} {s1 s2 s3 s4 : Value} (h : XE E n0 n1 n2 n3 n4 ms ds ws ps s1 s2 s3 s4)
include h
theorem x80a (n) : den E (n + 2) (sv 80 [.int .i64 0]) = some (ints .u8 ms) := by simp only [den_sv, denL_cons, denL_nil, den_i, Option.bind_some, i80, h.rows]; rfl
theorem x80b (n) : den E (n + 2) (sv 80 [.int .i64 1]) = some (ints .i8 ds) := by simp only [den_sv, denL_cons, denL_nil, den_i, Option.bind_some, i80, h.rows]; rfl
theorem x80c (n) : den E (n + 2) (sv 80 [.int .i64 2]) = some (prs .i8 .u8 ws) := by simp only [den_sv, denL_cons, denL_nil, den_i, Option.bind_some, i80, h.rows]; rfl
theorem x80d (n) : den E (n + 2) (sv 80 [.int .i64 3]) = some (ints .i16 ps) := by simp only [den_sv, denL_cons, denL_nil, den_i, Option.bind_some, i80, h.rows]; rfl
theorem x11a (n) : den E (n + 3) (sv 11 [sv 9 [.int .i64 0]]) = some (.int .i64 ms.length) := by
  obtain ⟨a, c, hs⟩ := h.l1
  have : E.rows.v (Int.toNat 0) = .slice a ms.length c := by rw [h.rows]; exact hs
  simp only [den_sv, denL_cons, denL_nil, den_i, Option.bind_some, i9 _ this, i11]
theorem x11b (n) : den E (n + 3) (sv 11 [sv 9 [.int .i64 1]]) = some (.int .i64 ds.length) := by
  obtain ⟨a, c, hs⟩ := h.l2
  have : E.rows.v (Int.toNat 1) = .slice a ds.length c := by rw [h.rows]; exact hs
  simp only [den_sv, denL_cons, denL_nil, den_i, Option.bind_some, i9 _ this, i11]
theorem x11c (n) : den E (n + 3) (sv 11 [sv 9 [.int .i64 2]]) = some (.int .i64 ws.length) := by
  obtain ⟨a, c, hs⟩ := h.l3
  have : E.rows.v (Int.toNat 2) = .slice a ws.length c := by rw [h.rows]; exact hs
  simp only [den_sv, denL_cons, denL_nil, den_i, Option.bind_some, i9 _ this, i11]
theorem x11d (n) : den E (n + 3) (sv 11 [sv 9 [.int .i64 3]]) = some (.int .i64 ps.length) := by
  obtain ⟨a, c, hs⟩ := h.l4
  have : E.rows.v (Int.toNat 3) = .slice a ps.length c := by rw [h.rows]; exact hs
  simp only [den_sv, denL_cons, denL_nil, den_i, Option.bind_some, i9 _ this, i11]
theorem xMs (n) : den E (n + 3) (sv 81 [.int .i64 120, sv 80 [.int .i64 0]]) = some (ints .i64 (mkMs ms)) := by
  simp only [den_sv, denL_cons, denL_nil, den_i, Option.bind_some, x80a h, i81, h.fns, Int.reduceToNat, fn2_M.f120, ints_map]
theorem xDs (n) : den E (n + 3) (sv 81 [.int .i64 124, sv 0 [.int .u8 0], sv 80 [.int .i64 1]]) = some (ints .i64 (mkDsL (n0.tmod 4) ds)) := by
  simp only [den_sv, denL_cons, denL_nil, den_i, Option.bind_some, x80b h, i0, h.e0, i81, h.fns, Int.reduceToNat, fn2_M.f124, ints_map]
theorem xWs (n) : den E (n + 3) (sv 81 [.int .i64 125, sv 0 [.int .u8 0], sv 80 [.int .i64 2]]) = some (prs .i64 .i64 (mkWs (mkMost (n0.tmod 4)) ws)) := by
  simp only [den_sv, denL_cons, denL_nil, den_i, Option.bind_some, x80c h, i0, h.e0, i81, h.fns, Int.reduceToNat, fn2_M.f125, prs_cells]
theorem xPs (n) : den E (n + 3) (sv 81 [.int .i64 126, sv 0 [.int .u8 0], sv 80 [.int .i64 0], sv 80 [.int .i64 1], sv 80 [.int .i64 2], sv 80 [.int .i64 3]]) = some (ints .i64 (mkPs (n0.tmod 4) ms ds ws ps)) := by
  simp only [den_sv, denL_cons, denL_nil, den_i, Option.bind_some, x80a h, x80b h, x80c h, x80d h, i0, h.e0, i81, h.fns, Int.reduceToNat, fn2_M.f126, ints_map]
theorem xIv (n) : den E (n + 3) (sv 4 [.int .i64 121, sv 0 [.int .u8 1]]) = some (.int .i64 (mkIv n1)) := by
  simp only [den_sv, denL_cons, denL_nil, den_i, Option.bind_some, i0, h.e1, i4, h.fns, Int.reduceToNat, fn2_M.f121]
theorem xCo (n) : den E (n + 3) (sv 4 [.int .i64 122, sv 0 [.int .u8 2], sv 0 [.int .u16 3]]) = some (.int .i64 (mkCo n2 n3)) := by
  simp only [den_sv, denL_cons, denL_nil, den_i, Option.bind_some, i0, h.e2, h.e3, i4, h.fns, Int.reduceToNat, fn2_M.f122]
theorem xTo (n) : den E (n + 3) (sv 4 [.int .i64 123, sv 0 [.int .u8 2], sv 0 [.int .u32 4]]) = some (.int .i64 (mkTo n2 n4)) := by
  simp only [den_sv, denL_cons, denL_nil, den_i, Option.bind_some, i0, h.e2, h.e4, i4, h.fns, Int.reduceToNat, fn2_M.f123]
theorem xFq (h0 : 0 ≤ n0) (n) : den E (n + 4) (sv 14 [.int .i64 0, sv 24 [.int .u8 0, sv 0 [.int .u8 0], .int .u8 4]]) = some (.int .i64 (n0.tmod 4)) := by
  have r0 := Int.tmod_nonneg 4 h0
  have r1 := Int.tmod_lt_of_pos n0 (b := 4) (by omega)
  simp only [den_sv, denL_cons, denL_nil, den_i, Option.bind_some, i0, h.e0, i24, i14, Int.reduceToNat, Int.reduceEq, ↓reduceIte, wr64 (n := n0.tmod 4) (by omega) (by omega)]
theorem x127 (n) : den E (n + 3) (sv 5 [.int .i64 127, sv 80 [.int .i64 2]]) = some (.bool (ws.all fun x => decide (0 ≤ x.2))) := by
  simp only [den_sv, denL_cons, denL_nil, den_i, Option.bind_some, x80c h, i5, h.fns, Int.reduceToNat, fn2_M.f127]
end

theorem mkDs_len {f : Int} {l : List Int} : (mkDsL f l).length ≤ l.length := by
  unfold mkDsL
  split
  · simp
  · simpa using (fewL_ok 31 (by omega) (l.map mkBF)).2.2
theorem mkWs_len {m : Int} {l : List (Int × Int)} : (mkWs m l).length ≤ l.length := by rw [(mkWs_perm m l).length_eq]; exact wdsX_len m l
theorem mkPs_len {f : Int} {ms ds : List Int} {ws : List (Int × Int)} {ps : List Int} : (mkPs f ms ds ws ps).length ≤ ps.length := by
  unfold mkPs
  split
  · simpa using (fewL_ok 366 (by omega) (ps.map mkDF)).2.2
  · simp

/-! ### How laws begin: is the argument small enough? What Make asks; what Make makes. -/

def gM : Value := sv 81 [.int .i64 120, sv 80 [.int .i64 0]]
def gD : Value := sv 81 [.int .i64 124, sv 0 [.int .u8 0], sv 80 [.int .i64 1]]
def gW : Value := sv 81 [.int .i64 125, sv 0 [.int .u8 0], sv 80 [.int .i64 2]]
def gP : Value := sv 81 [.int .i64 126, sv 0 [.int .u8 0], sv 80 [.int .i64 0], sv 80 [.int .i64 1], sv 80 [.int .i64 2], sv 80 [.int .i64 3]]
def gF : Value := sv 14 [.int .i64 0, sv 24 [.int .u8 0, sv 0 [.int .u8 0], .int .u8 4]]
def gI : Value := sv 4 [.int .i64 121, sv 0 [.int .u8 1]]
def gC : Value := sv 4 [.int .i64 122, sv 0 [.int .u8 2], sv 0 [.int .u16 3]]
def gU : Value := sv 4 [.int .i64 123, sv 0 [.int .u8 2], sv 0 [.int .u32 4]]
def gN (v : Value) (z : Int) (T : Tree) : Tree := .need (sv 31 [sv 74 [v, .int .i64 z], .int .i64 16777216]) true T
def xL (i : Int) : Value := sv 31 [.int .i64 20, sv 11 [sv 9 [.int .i64 i]]]
def xK (i z : Int) (T : Tree) : Tree := .need (sv 31 [sv 74 [sv 80 [.int .i64 i], .int .i64 z], .int .i64 1001]) true T
def xMake (T : Tree) : Tree := .need (sv 31 [sv 0 [.int .u8 0], .int .u8 0]) false (xK 0 1 (xK 1 1 (xK 2 2 (xK 3 1 (.need (sv 5 [.int .i64 127, sv 80 [.int .i64 2]]) true T)))))
def xHead (T : Tree) : Tree := .node (xL 0) (.leaf (.bool true)) (.node (xL 1) (.leaf (.bool true)) (.node (xL 2) (.leaf (.bool true)) (.node (sv 8 [xL 3]) T (.leaf (.bool true)))))

section
variable {E : Env} {n0 n1 n2 n3 n4 : Int} {ms ds ps : List Int} {ws : List (Int × Int)} {s1 s2 s3 s4 : Value} (h : XE E n0 n1 n2 n3 n4 ms ds ws ps s1 s2 s3 s4)
include h
theorem gM_d (n) : den E (n + 3) gM = some (ints .i64 (mkMs ms)) := xMs h n
theorem gD_d (n) : den E (n + 3) gD = some (ints .i64 (mkDsL (n0.tmod 4) ds)) := xDs h n
theorem gW_d (n) : den E (n + 3) gW = some (prs .i64 .i64 (mkWs (mkMost (n0.tmod 4)) ws)) := xWs h n
theorem gP_d (n) : den E (n + 3) gP = some (ints .i64 (mkPs (n0.tmod 4) ms ds ws ps)) := xPs h n
theorem gI_d (n) : den E (n + 3) gI = some (.int .i64 (mkIv n1)) := xIv h n
theorem gC_d (n) : den E (n + 3) gC = some (.int .i64 (mkCo n2 n3)) := xCo h n
theorem gU_d (n) : den E (n + 3) gU = some (.int .i64 (mkTo n2 n4)) := xTo h n
theorem gF_d (h0 : 0 ≤ n0) (n) : den E (n + 4) gF = some (.int .i64 (n0.tmod 4)) := xFq h h0 n

theorem xMake_val {T : Tree} (k : Small ms ds ws ps) (h0 : 0 ≤ n0) : (xMake T).val E = T.val E := by
  have a : (ws.all fun x => decide (0 ≤ x.2)) = true := List.all_eq_true.2 fun x hx => decide_eq_true (k.w x hx).2.2
  have c0 : ¬ n0 < 0 := by omega
  have c1 : (ms.length : Int) < 1001 := by have := k.lm; omega
  have c2 : (ds.length : Int) < 1001 := by have := k.ld; omega
  have c3 : (ws.length : Int) < 1001 := by have := k.lw; omega
  have c4 : (ps.length : Int) < 1001 := by have := k.lp; omega
  simp only [xMake, xK, val_need, den_sv, denL_cons, denL_nil, den_i, Option.bind_some, i0, i31, Int.reduceToNat, h.e0, x80a h, x80b h, x80c h, x80d h, x127 h, i74i, i74p, a, c0, c1, c2, c3, c4, want_b, decide_true, decide_false, if_true]

theorem xHead_val {T : Tree} (hT : ms.length ≤ 20 → ds.length ≤ 20 → ws.length ≤ 20 → ps.length ≤ 20 → T.val E = some (.bool true)) : (xHead T).val E = some (.bool true) := by
  simp only [xHead, xL, val_node, val_leaf, den_sv, denL_cons, denL_nil, den_i, den_b, Option.bind_some, x11a h, x11b h, x11c h, x11d h, i31, i8, pick_b, decide_eq_true_eq, Bool.not_eq_true', decide_eq_false_iff_not]
  split
  · rfl
  · split
    · rfl
    · split
      · rfl
      · split
        · exact hT (by omega) (by omega) (by omega) (by omega)
        · rfl
end
end Go.Proofs.YthpapjdjnnkdbaaGreatDoor
