/- PluralJoins: the walk. -/
import Derived.Test.YtebkccfnilcfpaaGreatDoorPjL
import Derived.Test.YtebkccfnilcfpaaGreatDoorOpenS
import Derived.Test.YtebkccfnilcfpaaGreatDoorToldH
namespace Go.Proofs.YtebkccfnilcfpaaGreatDoor
set_option linter.unusedVariables false
set_option linter.unusedSimpArgs false
open Go Go.Sy Go.RowKit

def toldPw : Tolds := ⟨[], [], [plC], [], []⟩
theorem toldPw_ok : TOk fnJ toldPw := ⟨fun c h => (by cases h), fun c h => (by cases h), fun c h => (by
    simp only [toldPw, List.mem_cons, List.not_mem_nil, or_false] at h
    subst h
    exact plC_ok), fun c h => (by cases h), fun c h => (by cases h)⟩

def rowsS (s1 : Value) (l : List ByteArray) : RowE where
  v i := match i with
    | 0 => s1
    | _ => undef
  cells i := match i with
    | 0 => l.map Value.string
    | _ => []
def kS (s1 : Value) (l : List ByteArray) : RowsK := ⟨[(0, [.str])], rowsS s1 l⟩

def pwF : List (Value × Bool) := [(sv 31 [sv 10 [sv 6 [.int .i64 30, sv 80 [.int .i64 0], .string ⟨#[]⟩]], .int .i64 1099511627777], true)]

theorem pw_run {s1 : Value} {l : List ByteArray} : ∀ t1 t2 t3 t4, okT ((cfgH fnJ (kS s1 l) toldPw pwF).orcG 3 [sv 9 [.int .i64 0], sv 2 [.int .i64 0]] (heapOf 20 (vars t1 t2 t3 t4))) = true := fun t1 t2 t3 t4 => by kernel_rfl

theorem walk_PluralJoins (v0 : Value) (and : ByteArray) (w : World) (hs : Wld w) {l : List ByteArray} (hx : RowW w v0 [.str] (l.map Value.string)) (hb : (joinB l none0).size < 1099511627777) :
    Calls Tryz.prog 3 #[v0, .string and] w fun e w' => e = .returned (.bool true) ∧ Below w.heap.size w w' := by
  obtain ⟨E, hEq⟩ : ∃ E, E = mkE fnJ (rowsS v0 l) [] [] [and] fun _ => undef := ⟨_, rfl⟩
  have hfn : E.fns = fnJ := by rw [hEq]; rfl
  have hrw : E.rows = rowsS v0 l := by rw [hEq]; rfl
  have e0 : E.str 0 = and := by rw [hEq]; rfl
  obtain ⟨p1, c1, q1⟩ := rowW_lenS hx
  have d0 : ∀ n, den E (n + 2) (sv 80 [.int .i64 0]) = some (strs l) := fun n => by simp only [den_sv, denL_cons, denL_nil, den_i, Option.bind_some, i80, hrw]; rfl
  have w1 : den E 40 (sv 31 [sv 10 [sv 6 [.int .i64 30, sv 80 [.int .i64 0], .string ⟨#[]⟩]], .int .i64 1099511627777]) = some (.bool true) := by
    simp only [den_i, den_s, den_sv (n := 39), den_sv (n := 38), den_sv (n := 37), denL_cons, denL_nil, d0, Option.bind_some, i31, i10, i6, hfn, Int.reduceToNat]
    rw [show fnJ.str 30 [strs l, .string ⟨#[]⟩] = joinB l none0 from fnJ_J.join l none0, decide_eq_true (by omega)]
  refine told_h toldPw_ok (K := kS v0 l) (args := [sv 9 [.int .i64 0], sv 2 [.int .i64 0]]) (F0 := pwF) pw_run (E := E) (fun p hp => ?_) hfn hrw ?_ hs ?_
  · simp only [pwF, List.mem_cons, List.not_mem_nil, or_false] at hp
    subst hp
    exact w1
  · intro ρ hρ
    refine VRs.cons ?_ (vr1 ?_)
    · exact sv_vr (vr1 (.int _ _)) (by rw [hρ, q1]; exact i9 _ (by rw [hrw]; exact q1))
    · exact sv_vr (vr1 (.int _ _)) (by rw [hρ]; show some (Value.string (E.str 0)) = _; rw [e0])
  · intro x hx'
    simp only [kS, List.mem_cons, List.not_mem_nil, or_false] at hx'
    subst hx'
    exact hx
end Go.Proofs.YtebkccfnilcfpaaGreatDoor
