/- A law's run where the variables' own types are told too (a drawn region whose orders are compared state by state wants them). -/
import Derived.Test.YthpapjdjnnkdbaaGreatDoorSyCtrH
namespace Go.Proofs.YthpapjdjnnkdbaaGreatDoor
set_option linter.unusedVariables false
set_option linter.unusedSimpArgs false
open Go Go.Sy Go.RowKit

def gT1 : TypeId := 96
def gT2 : TypeId := 137
def gT3 : TypeId := 0
def gT4 : TypeId := 0

def TypAt (w : World) (g : Nat) (T : TypeId) : Prop := ∀ cs t fr, w.heap[g]? = some (.cells cs t fr) → t = T
structure TypW (w : World) : Prop where
  t1 : TypAt w 0 gT1
  t2 : TypAt w 1 gT2

theorem typAt_of {W : World} (hsh : W.ShapedOpen Tryz.prog) {g : Nat} {T : TypeId} (hg : g < Tryz.prog.globals.size) (h : (((begin Tryz.prog (fun _ _ => 0) default).world.heap[g]?).bind Obj.row?).map (·.2) = some T) : TypAt W g T := by
  intro cs t fr hc
  obtain ⟨⟨zero, T'⟩, h1, h2⟩ := Option.map_eq_some_iff.1 h
  obtain ⟨cs', h3, _⟩ := hsh.1 g zero T' hg h1
  rw [hc] at h3
  cases h3
  exact h2

theorem typ_of_shaped {W : World} (hsh : W.ShapedOpen Tryz.prog) : TypW W where
  t1 := typAt_of hsh (of_decide_eq_true (by kernel_rfl)) (by kernel_rfl)
  t2 := typAt_of hsh (of_decide_eq_true (by kernel_rfl)) (by kernel_rfl)

theorem gv_typed {w : World} (h : Wld w) (ht : TypW w) : ∀ x ∈ vars gT1 gT2 gT3 gT4, GvOk w x := by
  obtain ⟨t1, t2, t3, t4, hw⟩ := h.gv
  intro x hx
  simp only [vars, List.mem_cons, List.not_mem_nil, or_false] at hx
  rcases hx with rfl | rfl
  · obtain ⟨fr, h⟩ := hw (0, t1, vMonths) (by simp [vars])
    obtain rfl := ht.t1 _ _ _ h
    exact ⟨fr, h⟩
  · obtain ⟨fr, h⟩ := hw (1, t2, vPow) (by simp [vars])
    obtain rfl := ht.t2 _ _ _ h
    exact ⟨fr, h⟩

/-- What a function hands back, its decisions told by a tree; contracts speak of memory; the variables' types are known. -/
theorem tree_hT {FN : Fns} {K : RowsK} {T : Tolds} (hT : TOk FN T) {f : FuncId} {args : List Value} {Tr : Tree} {F0 : List (Value × Bool)}
    (h : Tr.ok (fun F => (arun (cfgH FN K T F) 1000 f args (heapOf 20 (vars gT1 gT2 gT3 gT4))).map (·.1)) F0 = true) {E : Env} (hE : FactsOk E F0) (hF : E.fns = FN) (hR : E.rows = K.r) {u : Value} (hu : Tr.val E = some u) {args' : Array Value}
    (ha : ∀ ρ : Rho, ρ.env = E → VRs ρ args args'.toList) {w : World} (hs : Wld w) (ht : TypW w) (hrow : ∀ r ∈ K.s, RowIn K.r w.heap.size w r) :
    Calls Tryz.prog f args' w fun e w' => e = .returned u ∧ Below w.heap.size w w' :=
  run_tree (C := cfgH FN K T) (fun _ => rfl) (fun _ => rfl) (fun F => goodH hT (fun r hr => rowIn_v (hrow r hr)) gT1 gT2 gT3 gT4 F) h hE hF hR hu ha (gv_typed hs ht) ⟨hs.x, hrow⟩
end Go.Proofs.YthpapjdjnnkdbaaGreatDoor
