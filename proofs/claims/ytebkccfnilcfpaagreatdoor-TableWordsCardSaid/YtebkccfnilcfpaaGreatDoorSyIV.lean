/- Contracts that speak of what slices hold. -/
import Derived.Test.YtebkccfnilcfpaaGreatDoorSyIII
namespace Go.Sy
set_option linter.unusedVariables false
set_option linter.unusedSimpArgs false
open Go Go.RowKit

/-- What a cell of an argument is to be: a number, a truth, a text; or a slice of elements of such cells. -/
inductive ASort where
  | sc (s : Srt)
  | row (srts : List Srt)

/-- What a slice holds. -/
def viewRow (S : Knw) (H : Heap) (srts : List Srt) (a : Value) : Option Value :=
  match rowH H a with
  | some (s, spec) => cond (decide (s = srts)) (some spec) none
  | none => match a with
    | .func (.methodOf 9 _) ⟨[.int _ (.ofNat j)]⟩ _ => match rowOf S.rowS j with
      | some s => cond (decide (s = srts)) (some (sv 80 [.int .i64 (j : Nat)])) none
      | none => none
    | .slice none 0 0 => some (.agg #[])
    | .slice (some ⟨b, o, none⟩) n c => match look H b with
      | some (.cells cs _ _ _ _ _) => cond (Nat.ble (o + n * srts.length) cs.length && repSrt srts 0 ((cs.drop o).take (n * srts.length)))
          (some (.agg ((cs.drop o).take (n * srts.length)).toArray)) none
      | _ => none
    | _ => none

theorem viewRow_ok {S : Knw} {base : Nat} {ρ : Rho} {H : Heap} {w : World} (hr : Rel S base ρ H w) (hin : ∀ r ∈ S.rowS, RowIn S.rows base w r) {srts : List Srt} {a x v : Value} (h : viewRow S H srts a = some v) (hx : VR ρ a x) : RowIs ρ w srts v x := by
  unfold viewRow at h
  split at h
  · rename_i s spec hrow
    obtain ⟨hs, h⟩ := cond_some' h
    cases h
    have hs := of_decide_eq_true hs
    subst hs
    exact rowH_ok hr hrow hx
  · split at h
    · rename_i nm k j c _
      split at h
      · rename_i s hj
        obtain ⟨hs, h⟩ := cond_some' h
        cases h
        have hs := of_decide_eq_true hs
        subst hs
        obtain ⟨a, n, c', e1, e2, e3, e4, e5⟩ := hin _ (rowOf_mem hj)
        obtain ⟨vs, hvs, hi⟩ := hx.sym_invL
        obtain ⟨y, l, rfl, hy, hn⟩ := hvs.cons_inv
        rw [hn.nil_inv] at hi
        cases hy
        have hv : ρ.env.rows.v j = .slice a n c' := by rw [hr.glob.rows]; exact e1
        have hi' : some (Value.slice a n c') = some x := by
          have hi2 : (match ρ.env.rows.v j with | .slice a n c => some (Value.slice a n c) | _ => none) = some x := hi
          rw [hv] at hi2
          exact hi2
        cases hi'
        refine ⟨a, n, c', (S.rows.cells j).toArray, rfl, ?_, by simpa using e2, fun q v s hq hs => e3 q v s (by simpa using hq) hs, fun h0 => ?_, e5⟩
        · refine sv_vr (vr1 (.int _ _)) ?_
          show some (Value.agg (ρ.env.rows.cells j).toArray) = _
          rw [hr.glob.rows]
        · obtain ⟨b, o, ccs, el, fr, f1, _, f2, f3, f4⟩ := e4 h0
          exact ⟨b, o, ccs, el, fr, f1, f2, f3, fun q hq => by rw [f4 q hq]; simp⟩
      · cases h
    · cases h
      cases hx
      exact ⟨none, 0, _, #[], rfl, VR.agg' (VRs.nil ρ), by simp, fun q v s hq => by simp at hq, fun h0 => by omega, Nat.zero_le _⟩
    · rename_i b o n c _
      split at h
      · rename_i cs el rig esz root wr hl
        obtain ⟨hc, h⟩ := cond_some' h
        cases h
        simp only [Bool.and_eq_true] at hc
        have hle := Nat.le_of_ble_eq_true hc.1
        obtain ⟨ccs, fr, h0, hcr⟩ := hr.obj b _ hl
        have hlen : ((cs.drop o).take (n * srts.length)).length = n * srts.length := by simp only [List.length_take, List.length_drop]; omega
        cases hx with
        | slice _ _ _ _ c' hd q1 q2 q3 q4 =>
          have hcell : ∀ j, j < n * srts.length → ∃ v', ccs[ρ.off b + o + j]? = some v' ∧ ∃ u, ((cs.drop o).take (n * srts.length))[j]? = some u ∧ VR ρ u v' := fun j hj => by
            have hu : cs[o + j]? = some cs[o + j] := List.getElem?_eq_getElem (by omega)
            obtain ⟨v', g1, g2⟩ := hcr.cell (o + j) _ hu
            refine ⟨v', by rw [Nat.add_assoc]; exact g1, _, ?_, g2⟩
            rw [List.getElem?_take, if_pos hj, List.getElem?_drop]
            exact hu
          have hsz : ρ.off b + o + n * srts.length ≤ ccs.size := by
            have := hcr.len
            omega
          have hex : ∀ j, (ccs.extract (ρ.off b + o) (ρ.off b + o + n * srts.length))[j]? = if j < n * srts.length then ccs[ρ.off b + o + j]? else none := fun j => by
            rw [Array.getElem?_extract]
            rw [show min (ρ.off b + o + n * srts.length) ccs.size - (ρ.off b + o) = n * srts.length by omega]
          refine ⟨_, n, c', ccs.extract (ρ.off b + o) (ρ.off b + o + n * srts.length), rfl, VR.agg' ⟨?_, fun j u v hu hv => ?_⟩, ?_, fun j v s hv hs => ?_, fun _ => ⟨_, _, ccs, el, fr, rfl, h0, hsz, fun j hj => ?_⟩, by omega⟩
          · simp only [List.length_map, Array.length_toList, Array.size_extract]
            rw [hlen]
            omega
          · have hj : j < n * srts.length := by rw [← hlen]; exact (List.getElem?_eq_some_iff.1 hu).1
            obtain ⟨v', g1, u', g2, g3⟩ := hcell j hj
            have hu' : ((cs.drop o).take (n * srts.length))[j]? = some u := by simpa using hu
            rw [g2] at hu'
            cases hu'
            have hv' : (ccs.extract (ρ.off b + o) (ρ.off b + o + n * srts.length))[j]? = some v := by rw [← Array.getElem?_toList]; exact hv
            rw [hex, if_pos hj, g1] at hv'
            cases hv'
            exact g3
          · simp only [Array.size_extract]
            omega
          · rw [hex] at hv
            split at hv
            · rename_i hj
              obtain ⟨v', g1, u', g2, g3⟩ := hcell j hj
              rw [g1] at hv
              cases hv
              exact HasS.of (repSrt_ok hc.2 j u' s g2 (by rw [Nat.zero_add]; exact hs)) g3
            · cases hv
          · rw [hex, if_pos hj]
        | sliceE _ _ o' hd =>
          exact ⟨_, 0, 0, #[], rfl, by rw [show (0 : Nat) * srts.length = 0 by omega]; exact VR.agg' (VRs.nil ρ), by simp, fun q v s hq => by simp at hq, fun h0 => by omega, Nat.zero_le _⟩
      · cases h
    · cases h

def views (S : Knw) (H : Heap) : List ASort → List Value → Option (List Value)
  | [], [] => some []
  | .sc s :: r, a :: l => cond (decide (sortOf a = some s)) (match views S H r l with
    | some q => some (a :: q)
    | none => none) none
  | .row srts :: r, a :: l => match viewRow S H srts a, views S H r l with
    | some v, some q => some (v :: q)
    | _, _ => none
  | _, _ => none

/-- What the world bears of arguments, cell by cell. -/
def LeafR (ρ : Rho) (w : World) : List ASort → List Value → List Value → Prop
  | [], [], [] => True
  | .sc s :: r, v :: q, x :: l => (VR ρ v x ∧ HasS s x) ∧ LeafR ρ w r q l
  | .row srts :: r, v :: q, x :: l => RowIs ρ w srts v x ∧ LeafR ρ w r q l
  | _, _, _ => False

theorem views_ok {S : Knw} {base : Nat} {ρ : Rho} {H : Heap} {w : World} (hr : Rel S base ρ H w) (hin : ∀ r ∈ S.rowS, RowIn S.rows base w r) : ∀ {sorts : List ASort} {l vs l' : List Value}, views S H sorts l = some vs → VRs ρ l l' → LeafR ρ w sorts vs l'
  | [], [], vs, l', h, hv => by cases h; rw [hv.nil_inv]; trivial
  | .sc s :: r, a :: l, vs, l', h, hv => by
    obtain ⟨y, r', rfl, h1, h2⟩ := hv.cons_inv
    simp only [views] at h
    obtain ⟨hs, h⟩ := cond_some' h
    split at h
    · rename_i q hq
      cases h
      exact ⟨⟨h1, HasS.of (of_decide_eq_true hs) h1⟩, views_ok hr hin hq h2⟩
    · cases h
  | .row srts :: r, a :: l, vs, l', h, hv => by
    obtain ⟨y, r', rfl, h1, h2⟩ := hv.cons_inv
    simp only [views] at h
    split at h
    · rename_i v q hv1 hq
      cases h
      exact ⟨viewRow_ok hr hin hv1 h1, views_ok hr hin hq h2⟩
    · cases h
  | [], _ :: _, _, _, h, _ => by cases h
  | .sc _ :: _, [], _, _, h, _ => by cases h
  | .row _ :: _, [], _, _, h, _ => by cases h

/-! ### New slices -/

def pushAll : Heap → List (List Srt × Value) → Heap
  | H, [] => H
  | H, (s, v) :: r => pushAll (H.push (.row s v)) r

def RowsNew (ρ : Rho) (w w' : World) : List (List Srt × Value) → List Value → Prop
  | [], [] => True
  | (s, v) :: r, x :: l => (RowIs ρ w' s v x ∧ ∀ q off n c, x = .slice (some ⟨q, off, none⟩) n c → 0 < n → w.heap.size ≤ q) ∧ RowsNew ρ w w' r l
  | _, _ => False

theorem RowIs.mono {ρ ρ' : Rho} (e : Ext ρ ρ') {w : World} {s : List Srt} {v x : Value} (h : RowIs ρ w s v x) : RowIs ρ' w s v x := by
  obtain ⟨a, n, c, cells, e1, e2, e3, e4, e5, e6⟩ := h
  exact ⟨a, n, c, cells, e1, e2.mono e, e3, e4, e5, e6⟩

theorem RowsNew.mono {ρ ρ' : Rho} (e : Ext ρ ρ') {w w' : World} : ∀ {l : List (List Srt × Value)} {r : List Value}, RowsNew ρ w w' l r → RowsNew ρ' w w' l r
  | [], [], h => h
  | (s, v) :: r, x :: l, h => ⟨⟨h.1.1.mono e, h.1.2⟩, RowsNew.mono e h.2⟩
  | [], _ :: _, h => h
  | _ :: _, [], h => h

theorem pushAll_next : ∀ {l : List (List Srt × Value)} {H : Heap}, (pushAll H l).next = H.next + l.length
  | [], H => rfl
  | (s, v) :: r, H => by
    simp only [pushAll, pushAll_next, List.length_cons]
    simp only [Heap.push]
    omega

theorem keep_pushAll : ∀ {l : List (List Srt × Value)} {H : Heap}, Keep H (pushAll H l)
  | [], H => Keep.refl H
  | (s, v) :: r, H => (Keep.push H _).trans keep_pushAll

theorem Post.rowsF {NG : Knw} {base lim : Nat} {ρ : Rho} {H : Heap} {w w' : World} (f0 : ∀ b, H.next ≤ b → b < lim → ¬ ρ.dom b) : ∀ {l : List (List Srt × Value)} {rs : List Value} {ρ1 : Rho} {H1 : Heap}, Post NG base ρ H H1 w w' ρ1 →
    (∀ b, H1.next ≤ b → b < lim → ¬ ρ1.dom b) → (pushAll H1 l).next < lim → (∀ b o, look H1 b = some o → o.wr = true → ρ1.blk b < w.heap.size) → RowsNew ρ1 w w' l rs →
    ∃ ρ', Ext ρ1 ρ' ∧ Post NG base ρ H (pushAll H1 l) w w' ρ' ∧ ∀ (j : Nat) x, rs[j]? = some x → VR ρ' (sv 70 [.int .i64 ((H1.next + j : Nat) : Int)]) x
  | [], rs, ρ1, H1, p, _, _, _, h => by
    cases rs with
    | nil => exact ⟨ρ1, Ext.refl ρ1, p, fun j x hx => by simp at hx⟩
    | cons => exact h.elim
  | (s, v) :: r, rs, ρ1, H1, p, hf, hl, hw, h => by
    cases rs with
    | nil => exact h.elim
    | cons x rs =>
      obtain ⟨⟨h1, h2⟩, h3⟩ := h
      have hnx := pushAll_next (l := (s, v) :: r) (H := H1)
      rw [hnx] at hl
      simp only [List.length_cons] at hl
      obtain ⟨ρ2, e, hv, p2, hdom⟩ := p.rowF (hf _ (Nat.le_refl _) (by omega)) (f0 _ p.next (by omega)) h1 fun q off n c hx h0 => by
        have := h2 q off n c hx h0
        exact ⟨.inl this, fun b o hb ho he => by have := hw b o hb ho; omega⟩
      have hnext : (H1.push (.row s v)).next = H1.next + 1 := rfl
      obtain ⟨ρ3, e3, p3, hall⟩ := Post.rowsF f0 (l := r) (rs := rs) p2 (fun b hb hlt hd => by
          rw [hnext] at hb
          rcases hdom b hd with hd | hd
          · exact hf b (by omega) hlt hd
          · omega) (by rw [pushAll_next, hnext]; omega) (fun b o hb ho => by
          rw [look_push p.rel.hide] at hb
          by_cases hbn : b = H1.next
          · rw [if_pos hbn] at hb; cases hb; cases ho
          · rw [if_neg hbn] at hb
            rw [e.blk b (p.rel.dom b o hb)]
            exact hw b o hb ho) (h3.mono e)
      refine ⟨ρ3, e.trans e3, p3, fun j y hy => ?_⟩
      cases j with
      | zero =>
        simp only [List.getElem?_cons_zero, Option.some.injEq] at hy
        subst hy
        exact hv.mono e3
      | succ j =>
        simp only [List.getElem?_cons_succ] at hy
        have := hall j y hy
        rw [hnext, show H1.next + 1 + j = H1.next + (j + 1) by omega] at this
        exact this

/-! ### What one is told -/

def wayOf (S : Knw) : Option Value → Option Bool
  | none => some true
  | some e => truth S e

/-- What a function hands back, out of what its arguments are and their slices hold: a value; slices of its own. -/
structure GCtr where
  f : FuncId
  open_ : List Value → Option (List Value)
  sorts : List ASort
  wants : List Value → List (Value × Bool)
  dec : List Value → Option Value
  val : Bool → List Value → Nat → Value
  rows : Bool → List Value → List (List Srt × Value)

def GCtr.run (S : Knw) (c : GCtr) (args : List Value) (H : Heap) : Option (Value × Heap) :=
  match c.open_ args with
  | some ls => match views S H c.sorts ls with
    | some vs => cond ((c.wants vs).all (holds S)) (match wayOf S (c.dec vs) with
      | some b => some (c.val b vs H.next, pushAll H (c.rows b vs))
      | none => none) none
    | none => none
  | none => none

def orcGL (S : Knw) : List GCtr → FuncId → List Value → Heap → Option (Value × Heap)
  | [], _, _, _ => none
  | c :: r, f, l, H => cond (Nat.beq f c.f) (c.run S l H) (orcGL S r f l H)

theorem GCtr.keep {S : Knw} {c : GCtr} {args : List Value} {H : Heap} {r : Value × Heap} (h : c.run S args H = some r) : Keep H r.2 := by
  unfold GCtr.run at h
  split at h
  · split at h
    · obtain ⟨_, h⟩ := cond_some' h
      split at h
      · cases h; exact keep_pushAll
      · cases h
    · cases h
  · cases h

theorem orcGL_ok {S : Knw} {f : FuncId} {args : List Value} {H : Heap} {r : Value × Heap} : ∀ {cs : List GCtr}, orcGL S cs f args H = some r → ∃ c ∈ cs, c.f = f ∧ c.run S args H = some r
  | [], h => by cases h
  | c :: l, h => by
    simp only [orcGL] at h
    cases hb : Nat.beq f c.f with
    | true => rw [hb] at h; exact ⟨c, by simp, (Nat.eq_of_beq_eq_true hb).symm, h⟩
    | false =>
      rw [hb] at h
      obtain ⟨d, hd, h1⟩ := orcGL_ok h
      exact ⟨d, List.mem_cons_of_mem _ hd, h1⟩

/-- The words of a contract are the machine's. -/
theorem GCtr.snd {C : Cfg} {K : World → Prop} {base : Nat} {c : GCtr} {args : List Value} {H : Heap} {r : Value × Heap} (hin : ∀ w, K w → ∀ r ∈ C.NG.rowS, RowIn C.NG.rows base w r) (h : c.run C.NG args H = some r)
    (hok : ∀ ls vs q, c.open_ args = some ls → (∀ p ∈ c.wants vs, holds C.NG p = true) → wayOf C.NG (c.dec vs) = some q → ∀ ρ (args' : Array Value) w, Glob C.NG ρ → VRs ρ args args'.toList → K w → (∀ l', VRs ρ ls l' → LeafR ρ w c.sorts vs l') →
      Calls C.P c.f args' w fun e w' => ∃ v' rs, e = .returned v' ∧ Below w.heap.size w w' ∧ RowsNew ρ w w' (c.rows q vs) rs ∧
        ∀ ρ' nx, Ext ρ ρ' → (∀ (j : Nat) x, rs[j]? = some x → VR ρ' (sv 70 [.int .i64 ((nx + j : Nat) : Int)]) x) → VR ρ' (c.val q vs nx) v') : SndFn C K base c.f args H r := by
  intro ρ w lim n args' hrel hK hvs hroom hlim
  unfold GCtr.run at h
  split at h
  · rename_i ls hls
    split at h
    · rename_i vs hv
      obtain ⟨hw, h⟩ := cond_some' h
      split at h
      · rename_i q hq
        cases h
        refine (callsIn_wide.2 (hok ls vs q hls (List.all_eq_true.1 hw) hq ρ args' w hrel.glob hvs hK fun l' hl => views_ok hrel (hin w hK) hv hl)).mono fun e w' ⟨v', rs, he, hb, hr, hval⟩ => ?_
        have p := Post.quiet hrel hb
        obtain ⟨ρ', e', p', hall⟩ := Post.rowsF hroom.free p hroom.free hlim (fun b o hb ho => (hrel.obj b o hb).lt) hr
        exact ⟨v', he, ρ', hval ρ' H.next e' hall, p'⟩
      · cases h
    · cases h
  · cases h

end Go.Sy
