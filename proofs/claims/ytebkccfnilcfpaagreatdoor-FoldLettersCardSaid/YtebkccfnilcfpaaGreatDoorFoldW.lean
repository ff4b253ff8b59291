/- FoldLetters: the law's run, the walk. -/
import Derived.Test.YtebkccfnilcfpaaGreatDoorFoldT
import Derived.OpenShut
namespace Go.Proofs.YtebkccfnilcfpaaGreatDoor
set_option linter.unusedVariables false
set_option linter.unusedSimpArgs false
open Go Go.Sy Go.RowKit

def strB (a : Array Value) : List ByteArray := a.toList.map fun v => match v with | .string s => s | _ => ⟨#[]⟩
def intB (a : Array Value) : List Int := a.toList.map fun v => match v with | .int _ n => n | _ => 0
theorem strB_back (l : List ByteArray) : strB (l.map Value.string).toArray = l := by
  simp only [strB, List.map_map]
  exact List.map_id' l
theorem intB_back (l : List Int) : intB (l.map (Value.int .u8)).toArray = l := by
  simp only [intB, List.map_map]
  exact List.map_id' l

def fnT : Fns where
  int i l := match i, l with
    | 42, [.string s] => badI s.data.toList
    | _, _ => 0
  bool i l := match i, l with
    | 43, [.string s] => (bad s.data.toList).isSome
    | 45, [.string s] => (letters s.data.toList).isEmpty
    | 49, [.agg c] => shortB (strB c)
    | 52, [.agg c] => allB (intB c)
    | _, _ => false
  str i l := match i, l with
    | 46, [.string s] => smallB s
    | 51, [.int _ m, .agg a, .agg c] => bldF m.toNat (strB a) ⟨#[]⟩ (intB c)
    | _, _ => ⟨#[]⟩
  val _ _ := .bool false
  lst i l := match i, l with
    | 44, [.string s] => (letters s.data.toList).map fun l => .string (mkB l)
    | _, _ => []

theorem fnT_T : FnT fnT where
  bad := fun _ => rfl
  isb := fun _ => rfl
  let_ := fun _ => rfl
  emp := fun _ => rfl
  sml := fun _ => rfl
  sh := fun l => congrArg shortB (strB_back l)
  bld := fun m L l => (congrArg (fun x => bldF m.toNat x ⟨#[]⟩ (intB (l.map (Value.int .u8)).toArray)) (strB_back L)).trans (congrArg (bldF m.toNat L ⟨#[]⟩) (intB_back l))
  byt := fun l => congrArg allB (intB_back l)

def toldT : Tolds := ⟨[awC 25, fbadC, fsmallC], [], [], [], [ftLoop]⟩
theorem toldT_ok : TOk fnT toldT := ⟨fun c h => (by
    simp only [toldT, List.mem_cons, List.not_mem_nil, or_false] at h
    rcases h with rfl | rfl | rfl
    · exact awC_ok aw10 fnT
    · exact fbadC_ok fnT_T.toFnZ
    · exact fsmallC_ok fnT_T.toFnZ), fun c h => (by cases h), fun c h => (by cases h), fun c h => (by cases h), fun c h => (by
    simp only [toldT, List.mem_cons, List.not_mem_nil, or_false] at h
    subst h
    exact ftLoop_ok fnT_T)⟩

def wLG : Value := lLen (strs grL)
def wG : Value := sv 6 [.int .i64 51, wLG, strs grL, lV0]
def wS : Value := sv 6 [.int .i64 51, wLG, strs smL, lV0]
def wT : HTree := .node (sv 31 [.int .i64 60, lLen lV0]) (.leaf .ret 0 [.bool true]) (.need (sv 30 [lLen lV0, lLen lV0]) true (.need (sv 31 [lLen lV0, .int .i64 1048577]) true (.need (sv 5 [.int .i64 49, strs grL]) true (.need (sv 5 [.int .i64 49, strs smL]) true
  (.need (sv 5 [.int .i64 52, lV0]) true (.need (sv 31 [.int .i64 1048576, sv 10 [wG]]) false (.node (sv 30 [sv 6 [.int .i64 46, wG], wS]) (.leaf .ret 0 [sv 30 [sv 4 [.int .i64 42, wG], .int .i64 (-1)]]) (.leaf .ret 0 [.bool false]))))))))

def wC : FCtr where
  f := 9
  nb := 0
  nl := 1
  args := [nmR 0]
  objs := [.row [.int .u8] 0]
  srts := [none]
  wants := [(sv 5 [.int .i64 52, specL 0 0], true)]
  dec := none
  out _ := ⟨[lfb 0], [], [.bool true]⟩

theorem w_run : ∀ t1 t2 t3 t4, wT.okF (fun F => arun (cfgH fnT noRows toldT F) 1000 9 [nmR 0] (canH 0 (heapOf 20 (vars t1 t2 t3 t4)) [.row [.int .u8] 0])) (fun F => ⟨20, F, fnT, [], rows0⟩) 0 [⟨[(0, lfb 0)], [], 1⟩] [] = true := fun t1 t2 t3 t4 => by kernel_rfl

theorem grL_len : grL.length = 53 := by decide +kernel
theorem shorts : shortB grL = true ∧ shortB smL = true := by decide +kernel

theorem wC_ok : FOk fnT wC := by
  refine fok_of toldT_ok (Tr := wT) (F0 := []) (fins := [⟨[(0, lfb 0)], [], 1⟩]) (by decide) w_run (fun _ => 0) (fun _ => 1) (fun _ => 0) (fun q => ⟨_, rfl, rfl⟩) fun V ls q hlen hleaf hrow hask => ?_
  obtain ⟨v0, hv0, hR⟩ := hrow 0 0 [.int .u8] (.inl rfl) (by rw [hlen]; decide)
  obtain ⟨l, rfl⟩ := hasR_ints hR
  match ls, hlen with
  | [a0], _ =>
    simp only [List.getElem?_cons_zero, Option.some.injEq] at hv0
    subst hv0
    refine ⟨fun p hp => (by cases hp), .ret, [.bool true], ?_, rfl⟩
    have E0 : (envL fnT V 0 [ints .u8 l]).val 1000000 = ints .u8 l := rfl
    have Ef : (envL fnT V 0 [ints .u8 l]).fns = fnT := rfl
    have hask' : Asked (envL fnT V 0 [ints .u8 l]) wC.wants wC.dec q := hask
    show wT.val (envL fnT V 0 [ints .u8 l]) = _
    generalize envL fnT V 0 [ints .u8 l] = E at *
    have d0 : ∀ m, den E (m + 2) lV0 = some (ints .u8 l) := fun m => by simp only [lV0, den_i, den_sv, denL_cons, denL_nil, Option.bind_some, i98, Int.reduceToNat, E0]
    have k5 : den E 40 (sv 5 [.int .i64 52, lV0]) = some (.bool (allB l)) := by simp only [den_i, den_sv (n := 39), denL_cons, denL_nil, d0, Option.bind_some, i5, Ef, Int.reduceToNat, fnT_T.byt]
    have hall := asked_facts hask' (e := sv 5 [.int .i64 52, specL 0 0]) (b := true) (by simp [wC]) (c := allB l) k5
    rw [hall] at k5
    have k0 : den E 40 (sv 31 [.int .i64 60, lLen lV0]) = some (.bool (decide ((60 : Int) < (l.length : Int)))) := by simp only [lLen, den_i, den_sv (n := 39), den_sv (n := 38), denL_cons, denL_nil, d0, Option.bind_some, i31, i74i]
    by_cases c1 : (60 : Int) < (l.length : Int)
    · rw [decide_eq_true c1] at k0
      simp only [wT, HTree.val, k0, pickC, if_true, denL_cons, denL_nil, den_b]
      rfl
    rw [decide_eq_false c1] at k0
    have k1 : den E 40 (sv 30 [lLen lV0, lLen lV0]) = some (.bool true) := by simp only [lLen, den_i, den_sv (n := 39), den_sv (n := 38), denL_cons, denL_nil, d0, Option.bind_some, i30, i74i, decide_true]
    have k2 : den E 40 (sv 31 [lLen lV0, .int .i64 1048577]) = some (.bool true) := by
      simp only [lLen, den_i, den_sv (n := 39), den_sv (n := 38), denL_cons, denL_nil, d0, Option.bind_some, i31, i74i]
      rw [decide_eq_true (by omega)]
    have k3 : den E 40 (sv 5 [.int .i64 49, strs grL]) = some (.bool true) := by
      rw [den_sv, denL_cons, denL_cons, denL_nil, den_strs]
      simp only [den_i, Option.bind_some, i5, Ef, Int.reduceToNat, fnT_T.sh, shorts.1]
    have k4 : den E 40 (sv 5 [.int .i64 49, strs smL]) = some (.bool true) := by
      rw [den_sv, denL_cons, denL_cons, denL_nil, den_strs]
      simp only [den_i, Option.bind_some, i5, Ef, Int.reduceToNat, fnT_T.sh, shorts.2]
    have dLG : ∀ m, den E (m + 3) wLG = some (.int .i64 53) := fun m => by
      show den E (m + 2 + 1) (sv 74 [strs grL, .int .i64 1]) = _
      rw [den_sv, denL_cons, denL_cons, denL_nil, den_strs]
      simp only [den_i, Option.bind_some, i74s, grL_len]
      rfl
    have dG : ∀ m, den E (m + 4) wG = some (.string (bldF 53 grL ⟨#[]⟩ l)) := fun m => by
      show den E (m + 3 + 1) (sv 6 [.int .i64 51, wLG, strs grL, lV0]) = _
      rw [den_sv, denL_cons, denL_cons, denL_cons, denL_cons, denL_nil, den_strs, dLG, d0]
      simp only [den_i, Option.bind_some, i6, Ef, Int.reduceToNat, fnT_T.bld]
    have dS : ∀ m, den E (m + 4) wS = some (.string (bldF 53 smL ⟨#[]⟩ l)) := fun m => by
      show den E (m + 3 + 1) (sv 6 [.int .i64 51, wLG, strs smL, lV0]) = _
      rw [den_sv, denL_cons, denL_cons, denL_cons, denL_cons, denL_nil, den_strs, dLG, d0]
      simp only [den_i, Option.bind_some, i6, Ef, Int.reduceToNat, fnT_T.bld]
    obtain ⟨p1, p2⟩ := bld_small hall
    have hsz := bldF_size (m := 53) shorts.1 l ⟨#[]⟩
    have hz : (⟨#[]⟩ : ByteArray).size = 0 := rfl
    have k6 : den E 40 (sv 31 [.int .i64 1048576, sv 10 [wG]]) = some (.bool false) := by
      simp only [den_i, den_sv (n := 39), den_sv (n := 38), denL_cons, denL_nil, dG, Option.bind_some, i10, i31]
      rw [decide_eq_false (by omega)]
    have k7 : den E 40 (sv 30 [sv 6 [.int .i64 46, wG], wS]) = some (.bool true) := by
      have e : smallB (bldF 53 grL ⟨#[]⟩ l) = bldF 53 smL ⟨#[]⟩ l := ba_ext (by rw [smallB_list, p1])
      simp only [den_i, den_sv (n := 39), den_sv (n := 38), denL_cons, denL_nil, dG, dS, Option.bind_some, i6, i30s, Ef, Int.reduceToNat, fnT_T.sml, e, decide_true]
    have k8 : denL (den E 40) [sv 30 [sv 4 [.int .i64 42, wG], .int .i64 (-1)]] = some [.bool true] := by
      have e : badI (bldF 53 grL ⟨#[]⟩ l).data.toList = -1 := by unfold badI; rw [p2]
      simp only [den_i, den_sv (n := 39), den_sv (n := 38), denL_cons, denL_nil, dG, Option.bind_some, i4, i30, Ef, Int.reduceToNat, fnT_T.bad, e, decide_true]
    simp only [wT, HTree.val, k0, k1, k2, k3, k4, k5, k6, k7, k8, pickC, wantC, if_true, Bool.false_eq_true, ↓reduceIte]

def toldWl : Tolds := ⟨[], [], [wC], [], []⟩
theorem toldWl_ok : TOk fnT toldWl := ⟨fun c h => (by cases h), fun c h => (by cases h), fun c h => (by
    simp only [toldWl, List.mem_cons, List.not_mem_nil, or_false] at h
    subst h
    exact wC_ok), fun c h => (by cases h), fun c h => (by cases h)⟩

def rowsT (s1 : Value) (l : List Int) : RowE where
  v i := match i with
    | 0 => s1
    | _ => undef
  cells i := match i with
    | 0 => l.map (Value.int .u8)
    | _ => []
def kT (s1 : Value) (l : List Int) : RowsK := ⟨[(0, [.int .u8])], rowsT s1 l⟩
def wF : List (Value × Bool) := [(sv 5 [.int .i64 52, sv 80 [.int .i64 0]], true)]

theorem ww_run {s1 : Value} {l : List Int} : ∀ t1 t2 t3 t4, okT ((cfgH fnT (kT s1 l) toldWl wF).orcG 9 [sv 9 [.int .i64 0]] (heapOf 20 (vars t1 t2 t3 t4))) = true := fun t1 t2 t3 t4 => by kernel_rfl

theorem walk_FoldLetters (v0 : Value) (w : World) (hs : Wld w) {l : List Int} (hx : RowW w v0 [.int .u8] (l.map (Value.int .u8))) (hwf : ∀ n ∈ l, (Lit.int .u8 n).wf = true) :
    Calls Tryz.prog 9 #[v0] w fun e w' => e = .returned (.bool true) ∧ Below w.heap.size w w' := by
  obtain ⟨E, hEq⟩ : ∃ E, E = mkE fnT (rowsT v0 l) [] [] [] fun _ => undef := ⟨_, rfl⟩
  have hfn : E.fns = fnT := by rw [hEq]; rfl
  have hrw : E.rows = rowsT v0 l := by rw [hEq]; rfl
  obtain ⟨p1, c1, q1⟩ := rowW_len hx
  refine told_h toldWl_ok (K := kT v0 l) (args := [sv 9 [.int .i64 0]]) (F0 := wF) ww_run (E := E) (fun p hp => ?_) hfn hrw ?_ hs ?_
  · simp only [wF, List.mem_cons, List.not_mem_nil, or_false] at hp
    subst hp
    have d0 : ∀ n, den E (n + 2) (sv 80 [.int .i64 0]) = some (ints .u8 l) := fun n => by simp only [den_sv, denL_cons, denL_nil, den_i, Option.bind_some, i80, hrw]; rfl
    have hb : allB l = true := List.all_eq_true.2 fun n hn => by
      have := bounds_u8 (hwf n hn)
      simp; omega
    simp only [den_i, den_sv (n := 39), denL_cons, denL_nil, d0, Option.bind_some, i5, hfn, Int.reduceToNat, fnT_T.byt, hb]
  · intro ρ hρ
    exact vr1 (sv_vr (vr1 (.int _ _)) (by rw [hρ, q1]; exact i9 _ (by rw [hrw]; exact q1)))
  · intro x hx'
    simp only [kT, List.mem_cons, List.not_mem_nil, or_false] at hx'
    subst hx'
    exact hx
end Go.Proofs.YtebkccfnilcfpaaGreatDoor
