/- kalendslaw02.Make, told with memory: what it makes. -/
import Derived.Test.YthpapjdjnnkdbaaGreatDoorMkF0
namespace Go.Proofs.YthpapjdjnnkdbaaGreatDoor
set_option linter.unusedVariables false
set_option linter.unusedSimpArgs false
open Go Go.Sy Go.RowKit

theorem i32e {E : Env} (k m l) : interp E 32 [.int k m, .int k l] = some (.bool (decide (m = l))) := by simp [interp]

def mkMs (l : List Int) : List Int := Lib.compact ((l.map mkAF).mergeSort fun x y => decide (x ≤ y))
def mkDsL (f : Int) (l : List Int) : List Int := if f = 1 then [] else fewL 31 (l.map mkBF)
def mkMost (f : Int) : Int := if f = 2 then 5 else if f = 3 then 53 else 0
def mkWs (m : Int) (l : List (Int × Int)) : List (Int × Int) := (wdsX m l).mergeSort fun a b => decide (¬ wdCmp b a < 0)
def mkPs (f : Int) (ms ds : List Int) (ws : List (Int × Int)) (ps : List Int) : List Int := if 0 < (mkMs ms).length + (mkDsL f ds).length + (mkWs (mkMost f) ws).length then fewL 366 (ps.map mkDF) else []

def mkIv (n : Int) : Int := if 250 < n then IntKind.i64.wrap (999 - IntKind.i64.wrap (n.tmod 5)) else IntKind.i64.wrap (1 + IntKind.i64.wrap (n.tmod 6))
def mkCo (a b : Int) : Int := if a.tmod 4 = 0 then IntKind.i64.wrap (1 + (IntKind.i64.wrap b).tmod 9999) else 0
def mkTo (a b : Int) : Int := if a.tmod 4 = 0 then 0 else if a.tmod 4 = 1 then IntKind.i64.wrap (1 + IntKind.i64.wrap (b.tmod 3652059)) else 0

/-- What these functions hand back, by numbers. -/
structure FnM (FN : Fns) : Prop extends FnF FN where
  nn : FnN FN
  f110 : ∀ l, FN.lst 110 [ints .u8 l] = (l.map mkAF).map (Value.int .i64)
  f111 : ∀ l, FN.lst 111 [ints .i8 l] = (l.map mkBF).map (Value.int .i64)
  f112 : ∀ l, FN.lst 112 [ints .i16 l] = (l.map mkDF).map (Value.int .i64)
  f113 : ∀ l m, FN.lst 113 [prs .i8 .u8 l, .int .i64 m] = cellsP (wdsX m l)
  f121 : ∀ n, FN.int 121 [.int .u8 n] = mkIv n
  f122 : ∀ a b, FN.int 122 [.int .u8 a, .int .u16 b] = mkCo a b
  f123 : ∀ a b, FN.int 123 [.int .u8 a, .int .u32 b] = mkTo a b
  f120 : ∀ l, FN.lst 120 [ints .u8 l] = (mkMs l).map (Value.int .i64)
  f124 : ∀ f l, FN.lst 124 [.int .u8 f, ints .i8 l] = (mkDsL (f.tmod 4) l).map (Value.int .i64)
  f125 : ∀ f l, FN.lst 125 [.int .u8 f, prs .i8 .u8 l] = cellsP (mkWs (mkMost (f.tmod 4)) l)
  f126 : ∀ f ms ds ws ps, FN.lst 126 [.int .u8 f, ints .u8 ms, ints .i8 ds, prs .i8 .u8 ws, ints .i16 ps] = (mkPs (f.tmod 4) ms ds ws ps).map (Value.int .i64)
  f127 : ∀ l, FN.bool 127 [prs .i8 .u8 l] = l.all fun x => decide (0 ≤ x.2)

structure MkEnv (FN : Fns) (E : Env) (n0 : Int) (ms ds : List Int) (ws : List (Int × Int)) (ps : List Int) : Prop where
  fns : E.fns = FN
  e0 : E.int 0 = n0
  v5 : E.val 1000005 = ints .u8 ms
  v6 : E.val 1000006 = ints .i8 ds
  v7 : E.val 1000007 = prs .i8 .u8 ws
  v8 : E.val 1000008 = ints .i16 ps
  l5 : (ms.length : Int) < 1001
  l6 : (ds.length : Int) < 1001
  l7 : (ws.length : Int) < 1001
  l8 : (ps.length : Int) < 1001
  f0 : 0 ≤ n0
  w0 : ∀ x ∈ ws, 0 ≤ x.2

theorem ints_map (k : IntKind) (l : List Int) : Value.agg (l.map (Value.int k)).toArray = ints k l := rfl
theorem prs_cells (l : List (Int × Int)) : Value.agg (cellsP l).toArray = prs .i64 .i64 l := rfl

section
variable {FN : Fns} {E : Env} {n0 : Int} {ms ds ps : List Int} {ws : List (Int × Int)} (hF : FnM FN) (h : MkEnv FN E n0 ms ds ws ps)
include h
theorem dSp5 (n) : den E (n + 2) (mkSp 5) = some (ints .u8 ms) := by simp [mkSp, den_sv, denL_cons, denL_nil, den_i, i98, h.v5]
theorem dSp6 (n) : den E (n + 2) (mkSp 6) = some (ints .i8 ds) := by simp [mkSp, den_sv, denL_cons, denL_nil, den_i, i98, h.v6]
theorem dSp7 (n) : den E (n + 2) (mkSp 7) = some (prs .i8 .u8 ws) := by simp [mkSp, den_sv, denL_cons, denL_nil, den_i, i98, h.v7]
theorem dSp8 (n) : den E (n + 2) (mkSp 8) = some (ints .i16 ps) := by simp [mkSp, den_sv, denL_cons, denL_nil, den_i, i98, h.v8]
theorem dL5 (n) : den E (n + 3) (mkLen 5 1) = some (.int .i64 ms.length) := by
  show den E (n + 3) (sv 74 [mkSp 5, .int .i64 1]) = _
  simp only [den_sv, denL_cons, denL_nil, den_i, Option.bind_some, dSp5 h, i74i]
theorem dL6 (n) : den E (n + 3) (mkLen 6 1) = some (.int .i64 ds.length) := by
  show den E (n + 3) (sv 74 [mkSp 6, .int .i64 1]) = _
  simp only [den_sv, denL_cons, denL_nil, den_i, Option.bind_some, dSp6 h, i74i]
theorem dL7 (n) : den E (n + 3) (mkLen 7 2) = some (.int .i64 ws.length) := by
  show den E (n + 3) (sv 74 [mkSp 7, .int .i64 2]) = _
  simp only [den_sv, denL_cons, denL_nil, den_i, Option.bind_some, dSp7 h, i74p]
theorem dL8 (n) : den E (n + 3) (mkLen 8 1) = some (.int .i64 ps.length) := by
  show den E (n + 3) (sv 74 [mkSp 8, .int .i64 1]) = _
  simp only [den_sv, denL_cons, denL_nil, den_i, Option.bind_some, dSp8 h, i74i]
theorem dFq (n) : den E (n + 3) mkFq = some (.int .u8 (n0.tmod 4)) := by
  simp [mkFq, den_sv, denL_cons, denL_nil, den_i, i0, i24, h.e0]
include hF
theorem d110 (n) : den E (n + 3) (sv 81 [.int .i64 110, mkSp 5]) = some (ints .i64 (ms.map mkAF)) := by
  simp only [den_sv, denL_cons, denL_nil, den_i, Option.bind_some, dSp5 h, i81, h.fns, Int.reduceToNat, hF.f110, ints_map]
theorem d103 (n) : den E (n + 4) (sv 81 [.int .i64 103, sv 81 [.int .i64 110, mkSp 5]]) = some (ints .i64 ((ms.map mkAF).mergeSort fun x y => decide (x ≤ y))) := by
  rw [den_sv]
  simp only [denL_cons, denL_nil, den_i, Option.bind_some, d110 hF h, i81, h.fns, Int.reduceToNat, hF.sort, ints_map]
theorem dM (n) : den E (n + 5) mkM = some (ints .i64 (mkMs ms)) := by
  rw [mkM, den_sv]
  simp only [denL_cons, denL_nil, den_i, Option.bind_some, d103 hF h, i81, h.fns, Int.reduceToNat, hF.comp, ints_map, mkMs]
theorem d111 (n) : den E (n + 3) (sv 81 [.int .i64 111, mkSp 6]) = some (ints .i64 (ds.map mkBF)) := by
  simp only [den_sv, denL_cons, denL_nil, den_i, Option.bind_some, dSp6 h, i81, h.fns, Int.reduceToNat, hF.f111, ints_map]
theorem dD (n) : den E (n + 4) mkD = some (ints .i64 (fewL 31 (ds.map mkBF))) := by
  rw [mkD, den_sv]
  simp only [denL_cons, denL_nil, den_i, Option.bind_some, d111 hF h, i81, h.fns, Int.reduceToNat, hF.few, ints_map]
theorem d112 (n) : den E (n + 3) (sv 81 [.int .i64 112, mkSp 8]) = some (ints .i64 (ps.map mkDF)) := by
  simp only [den_sv, denL_cons, denL_nil, den_i, Option.bind_some, dSp8 h, i81, h.fns, Int.reduceToNat, hF.f112, ints_map]
theorem dP (n) : den E (n + 4) mkP = some (ints .i64 (fewL 366 (ps.map mkDF))) := by
  rw [mkP, den_sv]
  simp only [denL_cons, denL_nil, den_i, Option.bind_some, d112 hF h, i81, h.fns, Int.reduceToNat, hF.few, ints_map]
theorem dW0 (n) (m : Int) : den E (n + 3) (mkW0 m) = some (prs .i64 .i64 (wdsX m ws)) := by
  simp only [mkW0, den_sv, denL_cons, denL_nil, den_i, Option.bind_some, dSp7 h, i81, h.fns, Int.reduceToNat, hF.f113, prs_cells]
theorem dW (n) (m : Int) : den E (n + 4) (mkW m) = some (prs .i64 .i64 (mkWs m ws)) := by
  rw [mkW, den_sv]
  simp only [denL_cons, denL_nil, den_i, Option.bind_some, dW0 hF h, i81, h.fns, Int.reduceToNat, hF.nn.sort, prs_cells, mkWs]
end

theorem mkMs_len (l : List Int) : (mkMs l).length ≤ l.length := Nat.le_trans (compact_len _) (by rw [List.length_mergeSort, List.length_map]; exact Nat.le_refl _)

theorem hd_val {E : Env} {i : Nat} {z x : Int} {T : HTree} (h : den E 39 (mkLen i z) = some (.int .i64 x)) (hx : x < 1001) : (mkHd i z T).val E = T.val E := by
  simp only [mkHd, HTree.val, den_sv, denL_cons, denL_nil, h, den_i, Option.bind_some, i30, i31, wantC, decide_true, hx, if_true]

theorem wdsX_mem (m : Int) (l : List (Int × Int)) : ∀ x ∈ wdsX m l, ∃ w ∈ l, x = wdX m w := by
  have : ∀ (l acc : List (Int × Int)), ∀ x ∈ l.foldl (fun acc w => if wdX m w ∈ acc then acc else acc ++ [wdX m w]) acc, x ∈ acc ∨ ∃ w ∈ l, x = wdX m w := by
    intro l
    induction l with
    | nil => intro acc x hx; exact .inl hx
    | cons a r ih =>
      intro acc x hx
      rw [List.foldl_cons] at hx
      rcases ih _ x hx with h | ⟨w, hw, e⟩
      · split at h
        · exact .inl h
        · rcases List.mem_append.1 h with h | h
          · exact .inl h
          · exact .inr ⟨a, by simp, by simpa using h⟩
      · exact .inr ⟨w, by simp [hw], e⟩
  intro x hx
  rcases this l [] x hx with h | h
  · cases h
  · exact h

theorem wdsX_may {m : Int} (h0 : 0 ≤ m) (h1 : m ≤ 100) {l : List (Int × Int)} (hl : ∀ x ∈ l, 0 ≤ x.2) : ((wdsX m l).all fun x => decide (-100 ≤ x.1 ∧ x.1 ≤ 100 ∧ 0 ≤ x.2 ∧ x.2 ≤ 6)) = true := by
  rw [List.all_eq_true]
  intro x hx
  obtain ⟨w, hw, rfl⟩ := wdsX_mem m l x hx
  have k := hl w hw
  refine decide_eq_true ?_
  simp only [wdX]
  have a1 := Int.tmod_lt_of_pos (IntKind.i64.wrap w.1) (b := m + 1) (by omega)
  have a2 := Int.lt_tmod_of_pos (IntKind.i64.wrap w.1) (b := m + 1) (by omega)
  have a3 := Int.tmod_lt_of_pos w.2 (b := 7) (by omega)
  have a4 := Int.tmod_nonneg 7 k
  exact ⟨by omega, by omega, by omega, by omega⟩

section
variable {FN : Fns} {E : Env} {n0 : Int} {ms ds ps : List Int} {ws : List (Int × Int)} (hF : FnM FN) (h : MkEnv FN E n0 ms ds ws ps)
include hF h

theorem last_val {f : Int} {e1 e2 e3 M D W c v1 v2 v3 vM vD vW : Value} {x : Int} (h1 : den E 40 e1 = some v1) (h2 : den E 40 e2 = some v2) (h3 : den E 40 e3 = some v3) (hM : den E 40 M = some vM) (hD : den E 40 D = some vD) (hW : den E 40 W = some vW) (hc : den E 39 c = some (.int .i64 x)) :
    (mkLast f e1 e2 e3 M D W c).val E = some (.ret, 0, [.int .i64 f, v1, v2, v3, vM, vD, vW, ints .i64 (if 0 < x then fewL 366 (ps.map mkDF) else [])]) := by
  have k8 := h.l8
  have kl : ((ps.map mkDF).length : Int) < 1001 := by simpa using k8
  by_cases hx : 0 < x
  · simp only [mkLast, HTree.val, den_sv, denL_cons, denL_nil, den_i, Option.bind_some, hc, i31, pickC, hx, decide_true, if_true, hd_val (dL8 h 36) k8, d112 hF h, i74i, kl, wantC, h1, h2, h3, hM, hD, hW, dP hF h]
  · simp only [mkLast, HTree.val, den_sv, denL_cons, denL_nil, den_i, Option.bind_some, hc, i31, pickC, hx, decide_false, if_false, Bool.false_eq_true, ↓reduceIte, h1, h2, h3, hM, hD, hW, den_ag]
    rfl

theorem wd_val {f m : Int} {e1 e2 e3 M D c v1 v2 v3 vM vD : Value} {x : Int} {T0 : HTree} (h1 : den E 40 e1 = some v1) (h2 : den E 40 e2 = some v2) (h3 : den E 40 e3 = some v3) (hM : den E 40 M = some vM) (hD : den E 40 D = some vD) (hc : den E 38 c = some (.int .i64 x)) (hx : 0 ≤ x ∧ x ≤ 5000) (hm : 0 ≤ m ∧ m ≤ 100)
    (h0 : ws = [] → T0.val E = some (.ret, 0, [.int .i64 f, v1, v2, v3, vM, vD, ints .i64 [], ints .i64 (if 0 < x then fewL 366 (ps.map mkDF) else [])])) :
    (mkWd f m e1 e2 e3 M D c T0).val E = some (.ret, 0, [.int .i64 f, v1, v2, v3, vM, vD, prs .i64 .i64 (mkWs m ws), ints .i64 (if 0 < x + (mkWs m ws).length then fewL 366 (ps.map mkDF) else [])]) := by
  have k7 := h.l7
  rw [mkWd, hd_val (dL7 h 36) k7]
  by_cases he : ws = []
  · subst he
    have z : mkWs m [] = [] := by simp [mkWs, wdsX]
    simp only [HTree.val, den_sv, denL_cons, denL_nil, den_i, Option.bind_some, dL7 h, i30, pickC, List.length_nil, Int.ofNat_zero, Int.natCast_zero, decide_true, if_true, h0 rfl, z, Int.add_zero]
    rfl
  · have hl : ¬ ((ws.length : Int) = 0) := by
      intro e
      exact he (List.length_eq_zero_iff.1 (by omega))
    have kl := wdsX_len m ws
    have kw : (mkWs m ws).length ≤ ws.length := by rw [mkWs, List.length_mergeSort]; exact kl
    have k1 : ((wdsX m ws).length : Int) < 1000001 := by omega
    have kmay := wdsX_may hm.1 hm.2 h.w0
    have hc' : den E 39 (sv 20 [.int .i64 0, c, sv 74 [mkW m, .int .i64 2]]) = some (.int .i64 (x + (mkWs m ws).length)) := by
      simp only [den_sv, denL_cons, denL_nil, den_i, Option.bind_some, hc, dW hF h, i74p, i20]
      rw [wr64 (by omega) (by omega)]
    have hl2 := last_val hF h (f := f) (c := sv 20 [.int .i64 0, c, sv 74 [mkW m, .int .i64 2]]) h1 h2 h3 hM hD (dW hF h 36 m) hc'
    simp only [HTree.val, den_sv, denL_cons, denL_nil, den_i, Option.bind_some, dL7 h, i30, pickC, hl, decide_false, Bool.false_eq_true, ↓reduceIte, if_false, dW0 hF h, i74p, i31, wantC, k1, decide_true, if_true, i5, h.fns, Int.reduceToNat, hF.nn.may, kmay]
    exact hl2

theorem wc_val {f m : Int} {e1 e2 e3 M D c v1 v2 v3 vM vD : Value} {x : Int} (h1 : den E 40 e1 = some v1) (h2 : den E 40 e2 = some v2) (h3 : den E 40 e3 = some v3) (hM : den E 40 M = some vM) (hD : den E 40 D = some vD) (hc : den E 38 c = some (.int .i64 x)) (hx : 0 ≤ x ∧ x ≤ 5000) (hm : 0 ≤ m ∧ m ≤ 100) :
    (mkWc f m e1 e2 e3 M D c).val E = some (.ret, 0, [.int .i64 f, v1, v2, v3, vM, vD, prs .i64 .i64 (mkWs m ws), ints .i64 (if 0 < x + (mkWs m ws).length then fewL 366 (ps.map mkDF) else [])]) := by
  refine wd_val hF h h1 h2 h3 hM hD hc hx hm fun he => ?_
  have hc' : den E 39 (sv 20 [.int .i64 0, c, .int .i64 0]) = some (.int .i64 x) := by
    simp only [den_sv, denL_cons, denL_nil, den_i, Option.bind_some, hc, i20]
    rw [Int.add_zero, wr64 (by omega) (by omega)]
  have := last_val hF h (f := f) (W := .agg #[]) (vW := ints .i64 []) h1 h2 h3 hM hD (by rfl) hc'
  exact this

theorem ds_val {e1 e2 e3 M lm v1 v2 v3 : Value} {T1 : HTree} (h1 : den E 40 e1 = some v1) (h2 : den E 40 e2 = some v2) (h3 : den E 40 e3 = some v3) (hM : den E 40 M = some (ints .i64 (mkMs ms))) (hm : den E 37 lm = some (.int .i64 (mkMs ms).length)) (hl : (mkMs ms).length ≤ ms.length)
    (h0 : n0.tmod 4 = 1 → T1.val E = some (.ret, 0, [.int .i64 1, v1, v2, v3, ints .i64 (mkMs ms), ints .i64 [], prs .i64 .i64 (mkWs 0 ws), ints .i64 (if 0 < ((mkMs ms).length : Int) + (mkWs 0 ws).length then fewL 366 (ps.map mkDF) else [])])) :
    (mkDs e1 e2 e3 M lm T1).val E = some (.ret, 0, [.int .i64 (n0.tmod 4), v1, v2, v3, ints .i64 (mkMs ms), ints .i64 (mkDsL (n0.tmod 4) ds), prs .i64 .i64 (mkWs (mkMost (n0.tmod 4)) ws), ints .i64 (mkPs (n0.tmod 4) ms ds ws ps)]) := by
  have k5 := h.l5
  have k6 := h.l6
  have r0 := Int.tmod_nonneg 4 h.f0
  have r1 := Int.tmod_lt_of_pos n0 (b := 4) (by omega)
  have kd : ((ds.map mkBF).length : Int) < 1001 := by simpa using k6
  have kf : (fewL 31 (ds.map mkBF)).length ≤ ds.length := by simpa using (fewL_ok 31 (by omega) (ds.map mkBF)).2.2
  have hw : IntKind.i64.wrap (n0.tmod 4) = n0.tmod 4 := wr64 (by omega) (by omega)
  have hc : den E 38 (sv 20 [.int .i64 0, lm, sv 74 [mkD, .int .i64 1]]) = some (.int .i64 ((mkMs ms).length + (fewL 31 (ds.map mkBF)).length)) := by
    simp only [den_sv, denL_cons, denL_nil, den_i, Option.bind_some, hm, dD hF h, i74i, i20]
    rw [wr64 (by omega) (by omega)]
  have hx : (0 : Int) ≤ (mkMs ms).length + (fewL 31 (ds.map mkBF)).length ∧ ((mkMs ms).length + (fewL 31 (ds.map mkBF)).length : Int) ≤ 5000 := by omega
  have hWc : ∀ f m : Int, 0 ≤ m ∧ m ≤ 100 → (mkWc f m e1 e2 e3 M mkD (sv 20 [.int .i64 0, lm, sv 74 [mkD, .int .i64 1]])).val E = _ := fun f m hm' => wc_val hF h (f := f) h1 h2 h3 hM (dD hF h 36) hc hx hm'
  rw [mkDs, hd_val (dL6 h 36) k6]
  simp only [HTree.val, den_sv, denL_cons, denL_nil, den_i, Option.bind_some, dFq h, i14, i30, i31, i32e, hw, pickC, wantC, d111 hF h, i74i, kd, decide_true, if_true, decide_eq_true_eq, hWc 0 0 (by omega), hWc 2 5 (by omega), hWc 3 53 (by omega)]
  have hcases : n0.tmod 4 = 0 ∨ n0.tmod 4 = 1 ∨ n0.tmod 4 = 2 ∨ n0.tmod 4 = 3 := by omega
  have pos : ∀ {a b c : Nat} {A : List Int}, (if (0 : Int) < (a : Int) + b + c then A else []) = if 0 < a + b + c then A else [] := fun {a b c A} => by
    by_cases hh : 0 < a + b + c
    · rw [if_pos hh, if_pos (by omega)]
    · rw [if_neg hh, if_neg (by omega)]
  have pos2 : ∀ {a c : Nat} {A : List Int}, (if (0 : Int) < (a : Int) + c then A else []) = if 0 < a + 0 + c then A else [] := fun {a c A} => by
    by_cases hh : 0 < a + 0 + c
    · rw [if_pos hh, if_pos (by omega)]
    · rw [if_neg hh, if_neg (by omega)]
  rcases hcases with e | e | e | e
  · simp only [e, mkPs, mkDsL, mkMost, Int.reduceEq, if_true, if_false, ↓reduceIte, decide_true, decide_false, Bool.false_eq_true, pos]
  · simp only [e, h0 e, mkPs, mkDsL, mkMost, Int.reduceEq, if_true, if_false, ↓reduceIte, decide_true, decide_false, Bool.false_eq_true, pos2, List.length_nil]
  · simp only [e, mkPs, mkDsL, mkMost, Int.reduceEq, if_true, if_false, ↓reduceIte, decide_true, decide_false, Bool.false_eq_true, pos]
  · simp only [e, mkPs, mkDsL, mkMost, Int.reduceEq, if_true, if_false, ↓reduceIte, decide_true, decide_false, Bool.false_eq_true, pos]

theorem tail_val {e1 e2 e3 v1 v2 v3 : Value} (h1 : den E 40 e1 = some v1) (h2 : den E 40 e2 = some v2) (h3 : den E 40 e3 = some v3) :
    (mkTail e1 e2 e3).val E = some (.ret, 0, [.int .i64 (n0.tmod 4), v1, v2, v3, ints .i64 (mkMs ms), ints .i64 (mkDsL (n0.tmod 4) ds), prs .i64 .i64 (mkWs (mkMost (n0.tmod 4)) ws), ints .i64 (mkPs (n0.tmod 4) ms ds ws ps)]) := by
  have k5 := h.l5
  have kl := mkMs_len ms
  rw [mkTail, hd_val (dL5 h 36) k5]
  by_cases he : ms = []
  · have hz : mkMs ms = [] := by rw [he]; simp [mkMs, Lib.compact, Lib.compactUpTo]
    have hl : (ms.length : Int) = 0 := by rw [he]; rfl
    have hv : (mkNo e1 e2 e3).val E = _ := ds_val hF h (M := .agg #[]) (lm := .int .i64 0) h1 h2 h3 (by rw [hz]; rfl) (by rw [hz]; rfl) kl fun hf => by
      rw [hz]
      have := wd_val hF h (f := 1) (m := 0) (M := .agg #[]) (D := .agg #[]) (vM := ints .i64 []) (vD := ints .i64 []) (c := .int .i64 0) (x := 0) (T0 := .leaf .ret 0 [.int .i64 1, e1, e2, e3, .agg #[], .agg #[], .agg #[], .agg #[]]) h1 h2 h3 (by rfl) (by rfl) (by rfl) (by omega) (by omega) fun _ => by
        simp only [HTree.val, denL_cons, denL_nil, den_i, den_ag, Option.bind_some, h1, h2, h3]
        rfl
      exact this
    simp only [HTree.val, den_sv, denL_cons, denL_nil, den_i, Option.bind_some, dL5 h, i30, pickC, hl, decide_true, if_true]
    exact hv
  · have hl : ¬ ((ms.length : Int) = 0) := by
      intro e
      exact he (List.length_eq_zero_iff.1 (by omega))
    have ka : ((ms.map mkAF).length : Int) < 16777216 := by rw [List.length_map]; omega
    have kb : (((ms.map mkAF).mergeSort fun x y => decide (x ≤ y)).length : Int) < 16777216 := by rw [List.length_mergeSort]; exact ka
    have hv : (mkYe e1 e2 e3).val E = _ := ds_val hF h (M := mkM) (lm := sv 74 [mkM, .int .i64 1]) h1 h2 h3 (dM hF h 35) (by simp only [den_sv, denL_cons, denL_nil, den_i, Option.bind_some, dM hF h, i74i]) kl fun hf => by
      have hc : den E 38 (sv 20 [.int .i64 0, sv 74 [mkM, .int .i64 1], .int .i64 0]) = some (.int .i64 (mkMs ms).length) := by
        simp only [den_sv, denL_cons, denL_nil, den_i, Option.bind_some, dM hF h, i74i, i20]
        rw [Int.add_zero, wr64 (by omega) (by omega)]
      exact wc_val hF h (f := 1) (m := 0) (D := .agg #[]) (vD := ints .i64 []) h1 h2 h3 (dM hF h 35) (by rfl) hc (by omega) (by omega)
    simp only [HTree.val, den_sv, denL_cons, denL_nil, den_i, Option.bind_some, dL5 h, d110 hF h, d103 hF h, i74i, i31, i30, pickC, wantC, hl, ka, kb, decide_true, decide_false, Bool.false_eq_true, ↓reduceIte, if_true, if_false]
    exact hv

theorem mkT_val {n1 n2 n3 n4 : Int} (j1 : E.int 1 = n1) (j2 : E.int 2 = n2) (j3 : E.int 3 = n3) (j4 : E.int 4 = n4) :
    mkT.val E = some (.ret, 0, [.int .i64 (n0.tmod 4), .int .i64 (mkIv n1), .int .i64 (mkCo n2 n3), .int .i64 (mkTo n2 n4), ints .i64 (mkMs ms), ints .i64 (mkDsL (n0.tmod 4) ds), prs .i64 .i64 (mkWs (mkMost (n0.tmod 4)) ws), ints .i64 (mkPs (n0.tmod 4) ms ds ws ps)]) := by
  have d1 : den E 40 mkI1 = some (.int .i64 (IntKind.i64.wrap (999 - IntKind.i64.wrap (n1.tmod 5)))) := by simp [mkI1, den_sv, denL_cons, denL_nil, den_i, i0, i14, i21, i24, j1]
  have d2 : den E 40 mkI2 = some (.int .i64 (IntKind.i64.wrap (1 + IntKind.i64.wrap (n1.tmod 6)))) := by simp [mkI2, den_sv, denL_cons, denL_nil, den_i, i0, i14, i20, i24, j1]
  have d3 : den E 40 mkCn = some (.int .i64 (IntKind.i64.wrap (1 + (IntKind.i64.wrap n3).tmod 9999))) := by simp [mkCn, den_sv, denL_cons, denL_nil, den_i, i0, i14, i20, i24, j3]
  have d4 : den E 40 mkUn = some (.int .i64 (IntKind.i64.wrap (1 + IntKind.i64.wrap (n4.tmod 3652059)))) := by simp [mkUn, den_sv, denL_cons, denL_nil, den_i, i0, i14, i20, i24, j4]
  have d5 : den E 40 (.int .i64 0) = some (.int .i64 0) := rfl
  have c0 : den E 40 mkE0 = some (.bool (decide (n2.tmod 4 = 0))) := by simp [mkE0, den_sv, denL_cons, denL_nil, den_i, i0, i24, i30, j2]
  have c1 : den E 40 mkE1 = some (.bool (decide (n2.tmod 4 = 1))) := by simp [mkE1, den_sv, denL_cons, denL_nil, den_i, i0, i24, i30, j2]
  have c2 : den E 40 (sv 31 [.int .u8 250, sv 0 [.int .u8 1]]) = some (.bool (decide (250 < n1))) := by simp [den_sv, denL_cons, denL_nil, den_i, i0, i31, j1]
  simp only [mkT, mkEn, HTree.val, c0, c1, c2, pickC, decide_eq_true_eq, tail_val hF h d1 d3 d5, tail_val hF h d1 d5 d4, tail_val hF h d1 d5 d5, tail_val hF h d2 d3 d5, tail_val hF h d2 d5 d4, tail_val hF h d2 d5 d5, mkIv, mkCo, mkTo]
  by_cases a1 : 250 < n1 <;> by_cases a2 : n2.tmod 4 = 0 <;> by_cases a3 : n2.tmod 4 = 1 <;> simp only [a1, a2, a3, if_true, if_false, ↓reduceIte, Int.reduceEq, reduceCtorEq]
end

end Go.Proofs.YthpapjdjnnkdbaaGreatDoor
