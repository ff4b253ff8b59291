/- kalendslaw02.Make, told with memory: its contract. -/
import Derived.Test.YthpapjdjnnkdbaaGreatDoorMkF
namespace Go.Proofs.YthpapjdjnnkdbaaGreatDoor
set_option linter.unusedVariables false
set_option linter.unusedSimpArgs false
open Go Go.Sy Go.RowKit

def makeC : FCtr where
  f := 7
  nb := 0
  nl := 9
  args := mkArgs
  objs := mkObjs
  srts := [some (.int .u8), some (.int .u8), some (.int .u8), some (.int .u16), some (.int .u32), none, none, none, none]
  wants := [(sv 31 [lfi .u8 0, .int .u8 0], false), (sv 31 [mkLen 5 1, .int .i64 1001], true), (sv 31 [mkLen 6 1, .int .i64 1001], true), (sv 31 [mkLen 7 2, .int .i64 1001], true), (sv 31 [mkLen 8 1, .int .i64 1001], true), (sv 5 [.int .i64 127, mkSp 7], true)]
  dec := none
  out _ := ⟨[.agg #[lfi .i64 0, lfi .i64 1, lfi .i64 2, lfi .i64 3, nmR 0, nmR 1, nmR 2, nmR 3]], [.row [.int .i64] 4, .row [.int .i64] 5, .row [.int .i64, .int .i64] 6, .row [.int .i64] 7],
    [sv 14 [.int .i64 0, mkFq], sv 4 [.int .i64 121, lfi .u8 1], sv 4 [.int .i64 122, lfi .u8 2, lfi .u16 3], sv 4 [.int .i64 123, lfi .u8 2, lfi .u32 4],
      sv 81 [.int .i64 120, mkSp 5], sv 81 [.int .i64 124, lfi .u8 0, mkSp 6], sv 81 [.int .i64 125, lfi .u8 0, mkSp 7], sv 81 [.int .i64 126, lfi .u8 0, mkSp 5, mkSp 6, mkSp 7, mkSp 8]]⟩

theorem toldMk_ok {FN : Fns} (hF : FnM FN) : TOk FN toldMk := ⟨fun c h => (by cases h), fun c h => (by simp only [toldMk, List.mem_cons, List.not_mem_nil, or_false] at h; subst h; exact containsN_ok hF.nn),
  fun c h => (by
    simp only [toldMk, List.mem_cons, List.not_mem_nil, or_false] at h
    rcases h with rfl | rfl | rfl | rfl | rfl | rfl | rfl
    · exact sortI_ok hF.toFnF.toFnS
    · exact sortI0_ok
    · exact compactI_ok hF.toFnF.toFnS
    · exact compactI0_ok
    · exact fewC_ok hF.toFnF
    · exact sortN_ok hF.nn
    · exact sortN0_ok), fun c h => (by cases h), fun c h => (by
    simp only [toldMk, List.mem_cons, List.not_mem_nil, or_false] at h
    rcases h with rfl | rfl | rfl | rfl
    · exact mkALoop_ok hF.f110
    · exact mkBLoop_ok hF.f111
    · exact mkDLoop_ok hF.f112
    · exact mkCLoop_ok hF.nn hF.f113 (containsN_ok hF.nn))⟩

theorem makeC_ok {FN : Fns} (hF : FnM FN) : FOk FN makeC := by
  refine fok_of (toldMk_ok hF) (Tr := mkT) (F0 := []) (fins := [mkFin]) (by decide) (fun t1 t2 t3 t4 => mk_run t1 t2 t3 t4) (fun _ => 0) (fun _ => 8) (fun _ => 0) (fun q => ⟨_, rfl, rfl⟩) fun V ls q hlen hleaf hrow hask => ?_
  refine ⟨fun p hp => (by cases hp), ?_⟩
  obtain ⟨x5, hx5, hR5⟩ := hrow 0 5 [.int .u8] (.inl rfl) (by rw [hlen]; decide)
  obtain ⟨x6, hx6, hR6⟩ := hrow 1 6 [.int .i8] (.inl rfl) (by rw [hlen]; decide)
  obtain ⟨x7, hx7, hR7⟩ := hrow 2 7 [.int .i8, .int .u8] (.inl rfl) (by rw [hlen]; decide)
  obtain ⟨x8, hx8, hR8⟩ := hrow 3 8 [.int .i16] (.inl rfl) (by rw [hlen]; decide)
  obtain ⟨ms, rfl⟩ := hasR_ints hR5
  obtain ⟨ds, rfl⟩ := hasR_ints hR6
  obtain ⟨ws, rfl⟩ := hasR_prs hR7
  obtain ⟨ps, rfl⟩ := hasR_ints hR8
  match ls, hlen with
  | [y0, y1, y2, y3, y4, y5, y6, y7, y8], _ =>
    simp only [List.getElem?_cons_zero, List.getElem?_cons_succ, Option.some.injEq] at hx5 hx6 hx7 hx8
    subst hx5; subst hx6; subst hx7; subst hx8
    obtain ⟨n0, rfl⟩ := hleaf 0 _ _ rfl rfl
    obtain ⟨n1, rfl⟩ := hleaf 1 _ _ rfl rfl
    obtain ⟨n2, rfl⟩ := hleaf 2 _ _ rfl rfl
    obtain ⟨n3, rfl⟩ := hleaf 3 _ _ rfl rfl
    obtain ⟨n4, rfl⟩ := hleaf 4 _ _ rfl rfl
    have hask' : Asked (envL FN V 0 [.int .u8 n0, .int .u8 n1, .int .u8 n2, .int .u16 n3, .int .u32 n4, ints .u8 ms, ints .i8 ds, prs .i8 .u8 ws, ints .i16 ps]) makeC.wants makeC.dec q := hask
    have E0 : (envL FN V 0 [.int .u8 n0, .int .u8 n1, .int .u8 n2, .int .u16 n3, .int .u32 n4, ints .u8 ms, ints .i8 ds, prs .i8 .u8 ws, ints .i16 ps]).int 0 = n0 := rfl
    have E1 : (envL FN V 0 [.int .u8 n0, .int .u8 n1, .int .u8 n2, .int .u16 n3, .int .u32 n4, ints .u8 ms, ints .i8 ds, prs .i8 .u8 ws, ints .i16 ps]).int 1 = n1 := rfl
    have E2 : (envL FN V 0 [.int .u8 n0, .int .u8 n1, .int .u8 n2, .int .u16 n3, .int .u32 n4, ints .u8 ms, ints .i8 ds, prs .i8 .u8 ws, ints .i16 ps]).int 2 = n2 := rfl
    have E3 : (envL FN V 0 [.int .u8 n0, .int .u8 n1, .int .u8 n2, .int .u16 n3, .int .u32 n4, ints .u8 ms, ints .i8 ds, prs .i8 .u8 ws, ints .i16 ps]).int 3 = n3 := rfl
    have E4 : (envL FN V 0 [.int .u8 n0, .int .u8 n1, .int .u8 n2, .int .u16 n3, .int .u32 n4, ints .u8 ms, ints .i8 ds, prs .i8 .u8 ws, ints .i16 ps]).int 4 = n4 := rfl
    have E5 : (envL FN V 0 [.int .u8 n0, .int .u8 n1, .int .u8 n2, .int .u16 n3, .int .u32 n4, ints .u8 ms, ints .i8 ds, prs .i8 .u8 ws, ints .i16 ps]).val 1000005 = ints .u8 ms := rfl
    have E6 : (envL FN V 0 [.int .u8 n0, .int .u8 n1, .int .u8 n2, .int .u16 n3, .int .u32 n4, ints .u8 ms, ints .i8 ds, prs .i8 .u8 ws, ints .i16 ps]).val 1000006 = ints .i8 ds := rfl
    have E7 : (envL FN V 0 [.int .u8 n0, .int .u8 n1, .int .u8 n2, .int .u16 n3, .int .u32 n4, ints .u8 ms, ints .i8 ds, prs .i8 .u8 ws, ints .i16 ps]).val 1000007 = prs .i8 .u8 ws := rfl
    have E8 : (envL FN V 0 [.int .u8 n0, .int .u8 n1, .int .u8 n2, .int .u16 n3, .int .u32 n4, ints .u8 ms, ints .i8 ds, prs .i8 .u8 ws, ints .i16 ps]).val 1000008 = ints .i16 ps := rfl
    have E9 : (envL FN V 0 [.int .u8 n0, .int .u8 n1, .int .u8 n2, .int .u16 n3, .int .u32 n4, ints .u8 ms, ints .i8 ds, prs .i8 .u8 ws, ints .i16 ps]).fns = FN := rfl
    show ∃ ex lo, mkT.val (envL FN V 0 [.int .u8 n0, .int .u8 n1, .int .u8 n2, .int .u16 n3, .int .u32 n4, ints .u8 ms, ints .i8 ds, prs .i8 .u8 ws, ints .i16 ps]) = _ ∧ denL (den (envL FN V 0 [.int .u8 n0, .int .u8 n1, .int .u8 n2, .int .u16 n3, .int .u32 n4, ints .u8 ms, ints .i8 ds, prs .i8 .u8 ws, ints .i16 ps]) 40) _ = _
    generalize envL FN V 0 [.int .u8 n0, .int .u8 n1, .int .u8 n2, .int .u16 n3, .int .u32 n4, ints .u8 ms, ints .i8 ds, prs .i8 .u8 ws, ints .i16 ps] = E at *
    have p5 : ∀ n, den E (n + 2) (mkSp 5) = some (ints .u8 ms) := fun n => by simp [mkSp, den_sv, denL_cons, denL_nil, den_i, i98, E5]
    have p6 : ∀ n, den E (n + 2) (mkSp 6) = some (ints .i8 ds) := fun n => by simp [mkSp, den_sv, denL_cons, denL_nil, den_i, i98, E6]
    have p7 : ∀ n, den E (n + 2) (mkSp 7) = some (prs .i8 .u8 ws) := fun n => by simp [mkSp, den_sv, denL_cons, denL_nil, den_i, i98, E7]
    have p8 : ∀ n, den E (n + 2) (mkSp 8) = some (ints .i16 ps) := fun n => by simp [mkSp, den_sv, denL_cons, denL_nil, den_i, i98, E8]
    have q5 : den E 39 (mkLen 5 1) = some (.int .i64 ms.length) := by
      show den E 39 (sv 74 [mkSp 5, .int .i64 1]) = _
      simp only [den_sv, denL_cons, denL_nil, den_i, Option.bind_some, p5, i74i]
    have q6 : den E 39 (mkLen 6 1) = some (.int .i64 ds.length) := by
      show den E 39 (sv 74 [mkSp 6, .int .i64 1]) = _
      simp only [den_sv, denL_cons, denL_nil, den_i, Option.bind_some, p6, i74i]
    have q7 : den E 39 (mkLen 7 2) = some (.int .i64 ws.length) := by
      show den E 39 (sv 74 [mkSp 7, .int .i64 2]) = _
      simp only [den_sv, denL_cons, denL_nil, den_i, Option.bind_some, p7, i74p]
    have q8 : den E 39 (mkLen 8 1) = some (.int .i64 ps.length) := by
      show den E 39 (sv 74 [mkSp 8, .int .i64 1]) = _
      simp only [den_sv, denL_cons, denL_nil, den_i, Option.bind_some, p8, i74i]
    have z0 := asked_facts hask' (e := sv 31 [lfi .u8 0, .int .u8 0]) (b := false) (by simp [makeC]) (c := decide (n0 < 0)) (by simp [lfi, den_sv, denL_cons, denL_nil, den_i, i0, i31, E0])
    have z5 := asked_facts hask' (e := sv 31 [mkLen 5 1, .int .i64 1001]) (b := true) (by simp [makeC]) (c := decide ((ms.length : Int) < 1001)) (by simp only [den_sv, denL_cons, denL_nil, den_i, Option.bind_some, q5, i31])
    have z6 := asked_facts hask' (e := sv 31 [mkLen 6 1, .int .i64 1001]) (b := true) (by simp [makeC]) (c := decide ((ds.length : Int) < 1001)) (by simp only [den_sv, denL_cons, denL_nil, den_i, Option.bind_some, q6, i31])
    have z7 := asked_facts hask' (e := sv 31 [mkLen 7 2, .int .i64 1001]) (b := true) (by simp [makeC]) (c := decide ((ws.length : Int) < 1001)) (by simp only [den_sv, denL_cons, denL_nil, den_i, Option.bind_some, q7, i31])
    have z8 := asked_facts hask' (e := sv 31 [mkLen 8 1, .int .i64 1001]) (b := true) (by simp [makeC]) (c := decide ((ps.length : Int) < 1001)) (by simp only [den_sv, denL_cons, denL_nil, den_i, Option.bind_some, q8, i31])
    have z9 := asked_facts hask' (e := sv 5 [.int .i64 127, mkSp 7]) (b := true) (by simp [makeC]) (c := ws.all fun x => decide (0 ≤ x.2)) (by simp only [den_sv, denL_cons, denL_nil, den_i, Option.bind_some, p7, i5, E9, Int.reduceToNat, hF.f127])
    simp only [decide_eq_true_eq, decide_eq_false_iff_not, List.all_eq_true] at z0 z5 z6 z7 z8 z9
    have hM : MkEnv FN E n0 ms ds ws ps := ⟨E9, E0, E5, E6, E7, E8, z5, z6, z7, z8, by omega, z9⟩
    refine ⟨_, _, mkT_val hF hM E1 E2 E3 E4, ?_⟩
    have r0 := Int.tmod_nonneg 4 hM.f0
    have r1 := Int.tmod_lt_of_pos n0 (b := 4) (by omega)
    simp only [makeC, lfi, den_sv, denL_cons, denL_nil, den_i, Option.bind_some, dFq hM, i0, i4, i14, i81, p5, p6, p7, p8, E0, E1, E2, E3, E4, E9, Int.reduceToNat, Int.toNat_natCast, hF.f120, hF.f121, hF.f122, hF.f123, hF.f124, hF.f125, hF.f126, ints_map, prs_cells, wr64 (n := n0.tmod 4) (by omega) (by omega)]

end Go.Proofs.YthpapjdjnnkdbaaGreatDoor
