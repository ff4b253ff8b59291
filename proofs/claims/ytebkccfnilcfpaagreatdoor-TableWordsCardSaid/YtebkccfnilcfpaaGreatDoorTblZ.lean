/- TableWords: the walk. -/
import Derived.Test.YtebkccfnilcfpaaGreatDoorTblV
import Derived.Test.YtebkccfnilcfpaaGreatDoorAw8
import Derived.OpenShut
namespace Go.Proofs.YtebkccfnilcfpaaGreatDoor
set_option linter.unusedVariables false
set_option linter.unusedSimpArgs false
open Go Go.Sy Go.RowKit

theorem csW_ok : ∀ c ∈ csW, CtrOk8 fnK c := fun c hc => by
  simp only [csW, List.mem_cons, List.not_mem_nil, or_false] at hc
  rcases hc with rfl | rfl | rfl
  · exact awC_ok8 aw8 fnK
  · exact formC1_ok.to8
  · exact formC2_ok.to8

def envW (a0 a1 a2 a3 a4 : Int) : Env := mkE fnK rows0 [a0, a1, a2, a3, a4] [] [] fun _ => undef

theorem run_w {F : List (Value × Bool)} (h : ∀ t1 t2 t3 t4 t5, runW t1 t2 t3 t4 t5 F = true) {a0 a1 a2 a3 a4 : Int} (hE : FactsOk (envW a0 a1 a2 a3 a4) F) (w : World) (hs : Wld8 w) :
    Calls Tryz.prog 5 #[.int .u8 a0, .int .u8 a1, .int .i8 a2, .int .i8 a3, .int .u16 a4] w fun e w' => e = .returned (.bool true) ∧ Below w.heap.size w w' := by
  refine tree8 (hs := [whoK]) csW_ok (fun c hc => ?_) h hE rfl rfl rfl (fun ρ hρ => ?_) hs
  · simp only [List.mem_cons, List.not_mem_nil, or_false] at hc
    subst hc
    exact whoK_ok fnK
  · refine VRs.cons ?_ (VRs.cons ?_ (VRs.cons ?_ (vr2 ?_ ?_))) <;> exact vr_int hρ _ _ rfl

theorem formP_rng (k n : Int) : formP k n = 0 ∨ formP k n = 1 ∨ formP k n = 2 := by
  unfold formP
  split
  · exact .inl rfl
  split
  · exact .inr (.inl rfl)
  split
  · exact .inr (.inl rfl)
  · exact .inr (.inr rfl)

section
variable {a0 a1 a2 a3 a4 : Int} (b0 : 0 ≤ a0 ∧ a0 ≤ 255) (b2 : -128 ≤ a2 ∧ a2 ≤ 127) (b3 : -128 ≤ a3 ∧ a3 ≤ 127) (b4 : 0 ≤ a4 ∧ a4 ≤ 65535)
include b2 in
theorem dC (m : Nat) : den (envW a0 a1 a2 a3 a4) (m + 4) eC = some (.int .i64 a2) := by
  simp (disch := omega) only [eC, den_i, den_sv, denL_cons, denL_nil, Option.bind_some, i0, i14, envW, mk_int, getD_z, getD_s, Int.reduceToNat, wr64]
include b3 in
theorem dV (m : Nat) : den (envW a0 a1 a2 a3 a4) (m + 4) eV = some (.int .i64 a3) := by
  simp (disch := omega) only [eV, den_i, den_sv, denL_cons, denL_nil, Option.bind_some, i0, i14, envW, mk_int, getD_z, getD_s, Int.reduceToNat, wr64]
include b4 in
theorem dN (m : Nat) : den (envW a0 a1 a2 a3 a4) (m + 4) eN = some (.int .i64 a4) := by
  simp (disch := omega) only [eN, den_i, den_sv, denL_cons, denL_nil, Option.bind_some, i0, i14, envW, mk_int, getD_z, getD_s, Int.reduceToNat, wr64]
include b0 b4 in
theorem dF (m : Nat) : den (envW a0 a1 a2 a3 a4) (m + 8) eF = some (.int .i64 (formP (a0.tmod 3) a4)) := by
  have hm : 0 ≤ a0.tmod 3 ∧ a0.tmod 3 < 3 := by rw [Int.tmod_eq_emod_of_nonneg b0.1]; omega
  have h3 : ¬ ((3 : Int) = 0) := by omega
  have hfn : ∀ k n, (envW a0 a1 a2 a3 a4).fns.int 3 [.int .i64 k, .int .i64 n] = formP k n := fun _ _ => rfl
  have hi : ∀ (i : Nat), (envW a0 a1 a2 a3 a4).int i = [a0, a1, a2, a3, a4].getD i 0 := fun _ => rfl
  simp (disch := omega) only [eF, den_i, den_sv, denL_cons, denL_nil, dN b4, Option.bind_some, i0, i4, i14, i24, hi, getD_z, getD_s, Int.reduceToNat, wr64, if_neg h3, hfn]

include b0 b4 in
theorem nF_ok : FactsOk (envW a0 a1 a2 a3 a4) nF := by
  intro p hp
  simp only [nF, List.mem_cons, List.not_mem_nil, or_false] at hp
  have := formP_rng (a0.tmod 3) a4
  rcases hp with rfl | rfl | rfl
  · simp only [den_i, den_sv (n := 39), denL_cons, denL_nil, dN b4, Option.bind_some, i31, show ¬ a4 < 0 by omega, decide_false]
  · simp only [den_i, den_sv (n := 39), denL_cons, denL_nil, dN b4, Option.bind_some, i31, show ¬ 1000000000000 < a4 by omega, decide_false]
  · simp only [den_i, den_sv (n := 39), denL_cons, denL_nil, dF b0 b4, Option.bind_some, i31, show ¬ formP (a0.tmod 3) a4 < 0 by omega, decide_false]

theorem cons_ok {E : Env} {p : Value × Bool} {F : List (Value × Bool)} (h : den E 40 p.1 = some (.bool p.2)) (h2 : FactsOk E F) : FactsOk E (p :: F) := fun q hq => by
  rcases List.mem_cons.1 hq with rfl | hq
  · exact h
  · exact h2 q hq
theorem app_ok {E : Env} {F G : List (Value × Bool)} (h : FactsOk E F) (h2 : FactsOk E G) : FactsOk E (F ++ G) := fun q hq => by
  rcases List.mem_append.1 hq with hq | hq
  · exact h q hq
  · exact h2 q hq
theorem map_ok {E : Env} {α : Type} {l : List α} {f : α → Value × Bool} (h : ∀ x ∈ l, den E 40 (f x).1 = some (.bool (f x).2)) : FactsOk E (l.map f) := fun q hq => by
  obtain ⟨x, hx, rfl⟩ := List.mem_map.1 hq
  exact h x hx

theorem i32 (E : Env) (k m l) : interp E 32 [.int k m, .int k l] = some (.bool (decide (m = l))) := by simp [interp]

include b0 b2 b3 b4 in
theorem hitF_ok : FactsOk (envW a0 a1 a2 a3 a4) (hitF (a2, a3)) := by
  refine cons_ok ?_ (cons_ok ?_ (nF_ok b0 b4))
  · simp only [den_i, den_sv (n := 39), denL_cons, denL_nil, dC b2, Option.bind_some, i32, decide_true]
  · simp only [den_i, den_sv (n := 39), denL_cons, denL_nil, dV b3, Option.bind_some, i32, decide_true]
end

theorem walk_TableWords (a0 a1 a2 a3 a4 : Int) (w0 : (Lit.int .u8 a0).wf = true) (w1 : (Lit.int .u8 a1).wf = true) (w2 : (Lit.int .i8 a2).wf = true) (w3 : (Lit.int .i8 a3).wf = true) (w4 : (Lit.int .u16 a4).wf = true) (w : World) (hw0 : Wld w) :
    Calls Tryz.prog 5 #[.int .u8 a0, .int .u8 a1, .int .i8 a2, .int .i8 a3, .int .u16 a4] w fun e w' => e = .returned (.bool true) ∧ Below w.heap.size w w' := by
  have hw : Wld8 w := ⟨hw0, hw0.many⟩
  have b0 := bounds_u8 w0
  have b2 := bounds_i8 w2
  have b3 := bounds_i8 w3
  have b4 := bounds_u16 w4
  by_cases hk : (a2, a3) ∈ keysW
  · simp only [keysW, keysL, List.mem_append] at hk
    rcases hk with ((hk | hk) | hk) | hk
    · exact run_w (fun t1 t2 t3 t4 t5 => List.all_eq_true.1 (runA t1 t2 t3 t4 t5) _ hk) (hitF_ok b0 b2 b3 b4) w hw
    · exact run_w (fun t1 t2 t3 t4 t5 => List.all_eq_true.1 (runB t1 t2 t3 t4 t5) _ hk) (hitF_ok b0 b2 b3 b4) w hw
    · exact run_w (fun t1 t2 t3 t4 t5 => List.all_eq_true.1 (runC t1 t2 t3 t4 t5) _ hk) (hitF_ok b0 b2 b3 b4) w hw
    · have hj : formP (a0.tmod 3) a4 ∈ ([0, 1, 2] : List Int) := by
        have := formP_rng (a0.tmod 3) a4
        simpa using this
      refine run_w (F := hitU (a2, a3) (formP (a0.tmod 3) a4)) (fun t1 t2 t3 t4 t5 => List.all_eq_true.1 (List.all_eq_true.1 (runU t1 t2 t3 t4 t5) _ hk) _ hj) (cons_ok ?_ (hitF_ok b0 b2 b3 b4)) w hw
      simp only [den_i, den_sv (n := 39), denL_cons, denL_nil, dF b0 b4, Option.bind_some, i32, decide_true]
  have hne : ∀ k ∈ keysW, (decide (a2 = k.1) && decide (a3 = k.2)) = false := fun k hk' => by
    cases h : (decide (a2 = k.1) && decide (a3 = k.2)) with
    | false => rfl
    | true =>
      simp only [Bool.and_eq_true, decide_eq_true_eq] at h
      exact absurd (by rw [h.1, h.2]; exact hk') hk
  by_cases hc : 0 ≤ a2 ∧ a2 ≤ 18
  · have hm : FactsOk (envW a0 a1 a2 a3 a4) (missF a2) := by
      refine cons_ok ?_ (app_ok (map_ok fun k hk' => ?_) (nF_ok b0 b4))
      · simp only [den_i, den_sv (n := 39), denL_cons, denL_nil, dC b2, Option.bind_some, i32, decide_true]
      · simp only [den_i, den_sv (n := 39), denL_cons, denL_nil, dV b3, Option.bind_some, i33, hne k hk']
    by_cases hd : a2 ≤ 9
    · have hin : a2 ∈ ([0, 1, 2, 3, 4, 5, 6, 7, 8, 9] : List Int) := by
        simp only [List.mem_cons, List.not_mem_nil, or_false]; omega
      exact run_w (fun t1 t2 t3 t4 t5 => List.all_eq_true.1 (runM t1 t2 t3 t4 t5) _ hin) hm w hw
    · have hin : a2 ∈ ([10, 11, 12, 13, 14, 15, 16, 17, 18] : List Int) := by
        simp only [List.mem_cons, List.not_mem_nil, or_false]; omega
      exact run_w (fun t1 t2 t3 t4 t5 => List.all_eq_true.1 (runN t1 t2 t3 t4 t5) _ hin) hm w hw
  have hout : ∀ p q, decide (a2 < 0) = p → decide (a2 < 19) = q → FactsOk (envW a0 a1 a2 a3 a4) (outF p q) := fun p q hp hq => by
    refine app_ok (app_ok (map_ok fun k hk' => ?_) (map_ok fun a ha => ?_)) (cons_ok ?_ (cons_ok ?_ (nF_ok b0 b4)))
    · simp only [den_i, den_sv (n := 39), denL_cons, denL_nil, dC b2, dV b3, Option.bind_some, i33, hne k hk']
    · have : ¬ a2 = a := fun e => by
        subst e
        simp only [List.mem_cons, List.not_mem_nil, or_false] at ha
        omega
      simp only [den_i, den_sv (n := 39), denL_cons, denL_nil, dC b2, Option.bind_some, i30, decide_eq_false this]
    · simp only [den_i, den_sv (n := 39), denL_cons, denL_nil, dC b2, Option.bind_some, i31, hp]
    · simp only [den_i, den_sv (n := 39), denL_cons, denL_nil, dC b2, Option.bind_some, i31, hq]
  by_cases hn : a2 < 0
  · exact run_w (fun t1 t2 t3 t4 t5 => (Bool.and_eq_true _ _ ▸ runO t1 t2 t3 t4 t5).1) (hout true true (by simp; omega) (by simp; omega)) w hw
  · exact run_w (fun t1 t2 t3 t4 t5 => (Bool.and_eq_true _ _ ▸ runO t1 t2 t3 t4 t5).2) (hout false false (by simp; omega) (by simp; omega)) w hw
end Go.Proofs.YtebkccfnilcfpaaGreatDoor
