/- FoldBad. -/
import Derived.Test.YtebkccfnilcfpaaGreatDoorFoldL
import Derived.Test.YtebkccfnilcfpaaGreatDoorToldH
import Derived.Test.YtebkccfnilcfpaaGreatDoorOpenG
namespace Go.Proofs.YtebkccfnilcfpaaGreatDoor
set_option linter.unusedVariables false
set_option linter.unusedSimpArgs false
open Go Go.Sy Go.RowKit

def yV : Value := sv 98 [.int .i64 1000000]
def yS : Value := sv 2 [.int .i64 1]
def yB : Value := sv 83 [yV]
def yC : Value := sv 40 [yS, yB]
def yL (n : Int) (x : Value) : Value := sv 31 [.int .i64 n, sv 10 [x]]
def yQ (x : Value) : Value := sv 30 [zF x, zF x]
def fbT : HTree := .node (sv 31 [.int .i64 200, sv 74 [yV, .int .i64 1]]) (.leaf .ret 0 [.bool true]) (.node (yL 200 yS) (.leaf .ret 0 [.bool true])
  (.need (yL 1048576 yB) false (.need (yQ yB) true (.need (yL 1048576 yS) false (.need (yQ yS) true (.need (sv 41 [yS, yB]) true (.need (yL 1048576 yC) false (.leaf .ret 0 [yQ yC]))))))))

def fbC : FCtr where
  f := 7
  nb := 0
  nl := 2
  args := [nmR 0, lfs 1]
  objs := [.row [.int .u8] 0]
  srts := [none, some .str]
  wants := []
  dec := none
  out _ := ⟨[lfb 0], [], [.bool true]⟩

theorem fb_run : ∀ t1 t2 t3 t4, fbT.okF (fun F => arun (cfgH fnZ noRows toldZ F) 1000 7 [nmR 0, lfs 1] (canH 0 (heapOf 20 (vars t1 t2 t3 t4)) [.row [.int .u8] 0])) (fun F => ⟨20, F, fnZ, [], rows0⟩) 0 [⟨[(0, lfb 0)], [], 1⟩] [] = true := fun t1 t2 t3 t4 => by kernel_rfl

theorem fbC_ok : FOk fnZ fbC := by
  refine fok_of toldZ_ok (Tr := fbT) (F0 := []) (fins := [⟨[(0, lfb 0)], [], 1⟩]) (by decide) fb_run (fun _ => 0) (fun _ => 1) (fun _ => 0) (fun q => ⟨_, rfl, rfl⟩) fun V ls q hlen hleaf hrow hask => ?_
  obtain ⟨v0, hv0, hR⟩ := hrow 0 0 [.int .u8] (.inl rfl) (by rw [hlen]; decide)
  obtain ⟨l, rfl⟩ := hasR_ints hR
  match ls, hlen with
  | [a0, a1], _ =>
    simp only [List.getElem?_cons_zero, Option.some.injEq] at hv0
    subst hv0
    obtain ⟨s, rfl⟩ := hleaf 1 _ _ rfl rfl
    refine ⟨fun p hp => (by cases hp), .ret, [.bool true], ?_, rfl⟩
    have E0 : (envL fnZ V 0 [ints .u8 l, .string s]).val 1000000 = ints .u8 l := rfl
    have E1 : (envL fnZ V 0 [ints .u8 l, .string s]).str 1 = s := rfl
    have Ef : (envL fnZ V 0 [ints .u8 l, .string s]).fns = fnZ := rfl
    show fbT.val (envL fnZ V 0 [ints .u8 l, .string s]) = _
    generalize envL fnZ V 0 [ints .u8 l, .string s] = E at *
    have dV : ∀ m, den E (m + 2) yV = some (ints .u8 l) := fun m => by simp only [yV, den_i, den_sv, denL_cons, denL_nil, Option.bind_some, i98, Int.reduceToNat, E0]
    have dS : ∀ m, den E (m + 2) yS = some (.string s) := fun m => by simp only [yS, den_i, den_sv, denL_cons, denL_nil, Option.bind_some, i2, Int.reduceToNat, E1]
    obtain ⟨t, ht⟩ : ∃ t : ByteArray, t = ⟨((ints .u8 l).cells.toList.map byteV).toArray⟩ := ⟨_, rfl⟩
    have hts : t.size = l.length := by
      rw [ht]
      show (((l.map (Value.int .u8)).toArray.toList.map byteV).toArray).size = _
      simp
    have dB : ∀ m, den E (m + 3) yB = some (.string t) := fun m => by
      simp only [yB, den_sv, denL_cons, denL_nil, dV, Option.bind_some, ht]
      rfl
    by_cases c1 : (200 : Int) < (l.length : Int)
    · simp only [fbT, HTree.val, den_i, den_b, den_sv (n := 39), den_sv (n := 38), denL_cons, denL_nil, dV, Option.bind_some, i31, i74i, c1, decide_true, pickC, if_true]
    by_cases c2 : (200 : Int) < (s.size : Int)
    · simp only [fbT, yL, HTree.val, den_i, den_b, den_sv (n := 39), den_sv (n := 38), denL_cons, denL_nil, dV, dS, Option.bind_some, i10, i31, i74i, c1, c2, decide_true, decide_false, pickC, if_true, Bool.false_eq_true, ↓reduceIte]
    have dC : ∀ m, den E (m + 4) yC = some (.string (cat s t)) := fun m => by simp only [yC, den_sv, denL_cons, denL_nil, dS, dB, Option.bind_some]; exact i40c (by omega)
    have hL : ∀ {x : Value} {u : ByteArray}, (∀ m, den E (m + 4) x = some (.string u)) → u.size ≤ 1048576 → den E 40 (yL 1048576 x) = some (.bool false) := fun h hu => by
      simp only [yL, den_i, den_sv (n := 39), den_sv (n := 38), denL_cons, denL_nil, h, Option.bind_some, i10, i31]
      rw [decide_eq_false (by omega)]
    have hQ : ∀ {x : Value} {u : ByteArray}, (∀ m, den E (m + 4) x = some (.string u)) → den E 40 (yQ x) = some (.bool true) := fun h => by
      simp only [yQ, zF, den_i, den_sv (n := 39), den_sv (n := 38), denL_cons, denL_nil, h, Option.bind_some, i4, i30, decide_true]
    have q1 : den E 40 (sv 41 [yS, yB]) = some (.bool true) := by simp only [den_sv (n := 39), denL_cons, denL_nil, dS, dB, Option.bind_some]; exact i41c (by omega)
    have r2 : denL (den E 40) [yQ yC] = some [.bool true] := by rw [denL_cons, denL_nil, hQ dC]; rfl
    have k0 : den E 40 (sv 31 [.int .i64 200, sv 74 [yV, .int .i64 1]]) = some (.bool false) := by
      simp only [den_i, den_sv (n := 39), den_sv (n := 38), denL_cons, denL_nil, dV, Option.bind_some, i31, i74i, c1, decide_false]
    have k2 : den E 40 (yL 200 yS) = some (.bool false) := by
      simp only [yL, den_i, den_sv (n := 39), den_sv (n := 38), denL_cons, denL_nil, dS, Option.bind_some, i10, i31, c2, decide_false]
    simp only [fbT, HTree.val, k0, k2, hL (fun m => dB (m + 1)) (by omega), hQ (fun m => dB (m + 1)), hL (fun m => dS (m + 2)) (by omega), hQ (fun m => dS (m + 2)), q1, hL dC (by rw [cat_size]; omega), r2, pickC, wantC, Bool.false_eq_true, ↓reduceIte]

def toldFb : Tolds := ⟨[], [], [fbC], [], []⟩
theorem toldFb_ok : TOk fnZ toldFb := ⟨fun c h => (by cases h), fun c h => (by cases h), fun c h => (by
    simp only [toldFb, List.mem_cons, List.not_mem_nil, or_false] at h
    subst h
    exact fbC_ok), fun c h => (by cases h), fun c h => (by cases h)⟩

def rowsB (s1 : Value) (l : List Int) : RowE where
  v i := match i with
    | 0 => s1
    | _ => undef
  cells i := match i with
    | 0 => l.map (Value.int .u8)
    | _ => []
def kB (s1 : Value) (l : List Int) : RowsK := ⟨[(0, [.int .u8])], rowsB s1 l⟩

theorem fbw_run {s1 : Value} {l : List Int} : ∀ t1 t2 t3 t4, okT ((cfgH fnZ (kB s1 l) toldFb []).orcG 7 [sv 9 [.int .i64 0], sv 2 [.int .i64 0]] (heapOf 20 (vars t1 t2 t3 t4))) = true := fun t1 t2 t3 t4 => by kernel_rfl

theorem walk_FoldBad (v0 : Value) (s : ByteArray) (w : World) (hs : Wld w) {l : List Int} (hx : RowW w v0 [.int .u8] (l.map (Value.int .u8))) (_ : ∀ n ∈ l, (Lit.int .u8 n).wf = true) :
    Calls Tryz.prog 7 #[v0, .string s] w fun e w' => e = .returned (.bool true) ∧ Below w.heap.size w w' := by
  obtain ⟨E, hEq⟩ : ∃ E, E = mkE fnZ (rowsB v0 l) [] [] [s] fun _ => undef := ⟨_, rfl⟩
  have hfn : E.fns = fnZ := by rw [hEq]; rfl
  have hrw : E.rows = rowsB v0 l := by rw [hEq]; rfl
  have e0 : E.str 0 = s := by rw [hEq]; rfl
  obtain ⟨p1, c1, q1⟩ := rowW_len hx
  refine told_h toldFb_ok (K := kB v0 l) (args := [sv 9 [.int .i64 0], sv 2 [.int .i64 0]]) (F0 := []) fbw_run (E := E) (fun p hp => by cases hp) hfn hrw ?_ hs ?_
  · intro ρ hρ
    refine VRs.cons ?_ (vr1 ?_)
    · exact sv_vr (vr1 (.int _ _)) (by rw [hρ, q1]; exact i9 _ (by rw [hrw]; exact q1))
    · exact sv_vr (vr1 (.int _ _)) (by rw [hρ]; show some (Value.string (E.str 0)) = _; rw [e0])
  · intro x hx'
    simp only [kB, List.mem_cons, List.not_mem_nil, or_false] at hx'
    subst hx'
    exact hx
end Go.Proofs.YtebkccfnilcfpaaGreatDoor
