/- What a piece of code comes to, put back into the memory in which its pattern was found. -/
import Derived.Test.YtebkccfnilcfpaaGreatDoorSyVI
namespace Go.Sy
set_option linter.unusedVariables false
set_option linter.unusedSimpArgs false
open Go Go.RowKit

def plugL (f : Value → Option Value) : List Value → Option (List Value)
  | [] => some []
  | p :: r => match f p, plugL f r with
    | some a, some l => some (a :: l)
    | _, _ => none

def plugV (N : Nat) (μ : List Nat) (θ : List Value) : Nat → Value → Option Value
  | 0, _ => none
  | n + 1, p => match p with
    | .func (.methodOf t nm) ks c => match t, ks.toList with
      | 0, [.int k (.ofNat l)] => match θ[l]? with
        | some e => cond (decide (sortOf e = some (.int k))) (some e) none
        | none => none
      | 1, [.int _ (.ofNat l)] => match θ[l]? with
        | some e => cond (decide (sortOf e = some .bool)) (some e) none
        | none => none
      | 2, [.int _ (.ofNat l)] => match θ[l]? with
        | some e => cond (decide (sortOf e = some .str)) (some e) none
        | none => none
      | 70, [.int _ (.ofNat b)] => match cond (Nat.ble N b) μ[b - N]? none with
        | some b' => some (sv 70 [.int .i64 b'])
        | none => none
      | 98, [.int _ (.ofNat i)] => cond (Nat.ble 1000000 i) θ[i - 1000000]? none
      | 99, _ => some (.func (.methodOf 99 "") #[] #[])
      | _, _ => none
    | .pointer (some ⟨b, o, none⟩) => match cond (Nat.ble N b) μ[b - N]? none with
      | some b' => some (.pointer (some ⟨b', o, none⟩))
      | none => none
    | .slice (some ⟨b, o, none⟩) x y => match cond (Nat.ble N b) μ[b - N]? none with
      | some b' => some (.slice (some ⟨b', o, none⟩) x y)
      | none => none
    | .agg ps => match plugL (plugV N μ θ n) ps.toList with
      | some l => some (.agg l.toArray)
      | none => none
    | .tuple ps => match plugL (plugV N μ θ n) ps.toList with
      | some l => some (.tuple l.toArray)
      | none => none
    | .iface t v => match plugV N μ θ n v with
      | some v' => some (.iface t v')
      | none => none
    | .func (.func f) x y => match plugL (plugV N μ θ n) x.toList, plugL (plugV N μ θ n) y.toList with
      | some l, some l' => some (.func (.func f) l.toArray l'.toArray)
      | _, _ => none
    | p => cond (flat 40 p) (some p) none

theorem plugL_get {f : Value → Option Value} : ∀ {ps l : List Value}, plugL f ps = some l → ps.length = l.length ∧ ∀ (i : Nat) p, ps[i]? = some p → ∃ a, l[i]? = some a ∧ f p = some a
  | [], l, h => by cases h; exact ⟨rfl, fun i p h => by simp at h⟩
  | p :: r, l, h => by
    simp only [plugL] at h
    split at h
    · rename_i a q h1 h2
      cases h
      obtain ⟨e1, e2⟩ := plugL_get h2
      refine ⟨by simp [e1], fun i p' hp => ?_⟩
      cases i with
      | zero => simp only [List.getElem?_cons_zero, Option.some.injEq] at hp; subst hp; exact ⟨a, rfl, h1⟩
      | succ i => simpa using e2 i p' (by simpa using hp)
    · cases h

/-- A name of the memory bears what a name of the pattern bears. -/
def NameP (ρf ρ2 : Rho) (N i b : Nat) : Prop :=
  ρf.dom (N + i) → ρ2.dom b ∧ ρ2.blk b = ρf.blk (N + i) ∧ ρ2.off b = ρf.off (N + i) ∧ ρ2.tot b = ρf.tot (N + i) ∧ ρ2.esz b = ρf.esz (N + i) ∧ ρ2.rig b = ρf.rig (N + i) ∧ ρ2.hval b = ρf.hval (N + i)

theorem plug_name {N b b' : Nat} {μ : List Nat} (h : (cond (Nat.ble N b) μ[b - N]? none) = some b') : N + (b - N) = b ∧ μ[b - N]? = some b' := by
  cases hb : Nat.ble N b with
  | false => rw [hb] at h; cases h
  | true => rw [hb] at h; have := Nat.le_of_ble_eq_true hb; exact ⟨by omega, h⟩

theorem plugV_ok {FN : Fns} {V : Nat → Value} {nt N : Nat} {lf θ : List Value} {μ : List Nat} {ρf ρ2 : Rho} (he : ρf.env = envL FN V nt lf) (hlen : θ.length = lf.length) (hl : ∀ (l : Nat) e u, θ[l]? = some e → lf[l]? = some u → VR ρ2 e u)
    (hn : ∀ (i : Nat) b, μ[i]? = some b → NameP ρf ρ2 N i b) : ∀ {n : Nat} {p a v : Value}, plugV N μ θ n p = some a → VR ρf p v → VR ρ2 a v := by
  have leaf : ∀ {l : Nat} {e : Value}, θ[l]? = some e → ∃ u, lf[l]? = some u ∧ VR ρ2 e u := fun {l e} he => by
    have hl' : l < lf.length := by rw [← hlen]; exact (List.getElem?_eq_some_iff.1 he).1
    exact ⟨_, List.getElem?_eq_getElem hl', hl l e _ he (List.getElem?_eq_getElem hl')⟩
  intro n
  induction n with
  | zero => intro p a v h; cases h
  | succ n ih =>
    intro p a v h hv
    have lst : ∀ {ps l bs : List Value}, plugL (plugV N μ θ n) ps = some l → VRs ρf ps bs → VRs ρ2 l bs := fun {ps l bs} hp hb => by
      obtain ⟨e1, e2⟩ := plugL_get hp
      refine ⟨e1.symm.trans hb.1, fun i x y hx hy => ?_⟩
      have hi : i < ps.length := by rw [e1]; exact (List.getElem?_eq_some_iff.1 hx).1
      obtain ⟨a, ha, hf⟩ := e2 i _ (List.getElem?_eq_getElem hi)
      rw [hx] at ha
      cases ha
      exact ih hf (hb.2 i _ y (List.getElem?_eq_getElem hi) hy)
    simp only [plugV] at h
    split at h
    · rename_i t nm ks c
      have sym : ∀ {t : Nat}, t ≠ 99 → t ≠ 70 → ∀ {k : IntKind} {l : Int}, ks.toList = [.int k l] → VR ρf (.func (.methodOf t nm) ks c) v → interp (envL FN V nt lf) t [.int k l] = some v := fun {t} h99 h70 {k l} hk hv => by
        obtain ⟨vs, h1, h2⟩ := hv.sym_invL h99 h70
        rw [hk] at h1
        obtain ⟨y, r, rfl, hy, hr⟩ := h1.cons_inv
        rw [hr.nil_inv] at h2
        cases hy
        rw [← he]; exact h2
      split at h
      · rename_i k l hks
        split at h
        · rename_i e hθ
          obtain ⟨hs, h⟩ := cond_some' h
          cases h
          obtain ⟨u, hu, huv⟩ := leaf hθ
          obtain ⟨m, rfl⟩ := HasS.of (of_decide_eq_true hs) huv
          have := sym (by decide) (by decide) hks hv
          simp only [interp, envL, show (Int.ofNat l).toNat = l from rfl, hu, Option.some.injEq] at this
          rw [← this]; exact huv
        · cases h
      · rename_i k l hks
        split at h
        · rename_i e hθ
          obtain ⟨hs, h⟩ := cond_some' h
          cases h
          obtain ⟨u, hu, huv⟩ := leaf hθ
          obtain ⟨m, rfl⟩ := HasS.of (of_decide_eq_true hs) huv
          have := sym (by decide) (by decide) hks hv
          simp only [interp, envL, show (Int.ofNat l).toNat = l from rfl, hu, Option.some.injEq] at this
          rw [← this]; exact huv
        · cases h
      · rename_i k l hks
        split at h
        · rename_i e hθ
          obtain ⟨hs, h⟩ := cond_some' h
          cases h
          obtain ⟨u, hu, huv⟩ := leaf hθ
          obtain ⟨m, rfl⟩ := HasS.of (of_decide_eq_true hs) huv
          have := sym (by decide) (by decide) hks hv
          simp only [interp, envL, show (Int.ofNat l).toNat = l from rfl, hu, Option.some.injEq] at this
          rw [← this]; exact huv
        · cases h
      · rename_i k b hks
        split at h
        · rename_i b' hb
          cases h
          obtain ⟨e1, e2⟩ := plug_name hb
          have hks' : ks = ⟨[.int k ((N + (b - N) : Nat) : Int)]⟩ := by
            apply Array.ext'
            rw [e1]; simpa using hks
          subst hks'
          cases hv with
          | func _ _ _ _ _ _ hf => cases hf with | same _ _ hn => simp [named] at hn
          | sym _ _ _ _ _ _ _ _ h3 => simp [interp] at h3
          | row _ _ _ _ a' n' c' hd hvv hp =>
            obtain ⟨h1, _, _, _, _, _, h2⟩ := hn _ _ e2 hd
            exact .row "" #[] .i64 b' a' n' c' h1 (h2.trans hvv) hp
        · cases h
      · rename_i k i hks
        obtain ⟨hs, h⟩ := cond_some' h
        have hle := Nat.le_of_ble_eq_true hs
        obtain ⟨u, hu, huv⟩ := leaf h
        have := sym (by decide) (by decide) hks hv
        simp only [interp, envL, show (Int.ofNat i).toNat = i from rfl, Option.some.injEq] at this
        rw [if_neg (by omega), List.getD_eq_getElem?_getD, hu] at this
        simp only [Option.getD_some] at this
        rw [← this]; exact huv
      · cases h; exact .top _ _ _ _
      · cases h
    · rename_i b o
      split at h
      · rename_i b' hb
        cases h
        obtain ⟨e1, e2⟩ := plug_name hb
        cases hv with
        | ptr _ _ hd =>
          rw [← e1] at hd
          obtain ⟨h1, h2, h3, _⟩ := hn _ _ e2 hd
          rw [e1] at h2 h3
          rw [← h2, ← h3]
          exact .ptr _ _ h1
      · cases h
    · rename_i b o x1 y1
      split at h
      · rename_i b' hb
        cases h
        obtain ⟨e1, e2⟩ := plug_name hb
        cases hv with
        | slice _ _ _ _ c' hd q1 q2 q3 q4 =>
          rw [← e1] at hd
          obtain ⟨h1, h2, h3, h4, h5, h6, _⟩ := hn _ _ e2 hd
          rw [e1] at h2 h3 h4 h5 h6
          rw [← h2, ← h3]
          exact .slice _ _ _ _ _ h1 q1 q2 (fun hr => q3 (by rw [← h6]; exact hr)) (fun hr => by rw [h3, h4, h5]; exact q4 (by rw [← h6]; exact hr))
        | sliceE _ _ o' hd =>
          rw [← e1] at hd
          obtain ⟨h1, h2, _⟩ := hn _ _ e2 hd
          rw [e1] at h2
          rw [← h2]
          exact .sliceE _ _ _ h1
      · cases h
    · split at h
      · rename_i l hl'
        cases h
        obtain ⟨b, rfl, hb⟩ := hv.agg_inv
        exact VR.agg' (by simpa using lst hl' hb)
      · cases h
    · split at h
      · rename_i l hl'
        cases h
        obtain ⟨b, rfl, hb⟩ := hv.tuple_inv
        exact VR.tuple' (by simpa using lst hl' hb)
      · cases h
    · split at h
      · rename_i v' hv1
        cases h
        cases hv with
        | iface _ _ v' hv' => exact .iface _ _ _ (ih hv1 hv')
      · cases h
    · split at h
      · rename_i l l' h1 h2
        cases h
        cases hv with
        | func _ fn' _ a' _ b' hf h3 h4 h5 h6 =>
          cases hf
          have g1 := arr_of_vrs (a := l.toArray) (b := a') (by simpa using lst h1 (vrs_of_arr h3 h4))
          have g2 := arr_of_vrs (a := l'.toArray) (b := b') (by simpa using lst h2 (vrs_of_arr h5 h6))
          exact .func _ _ _ _ _ _ (.same _ (fun l e => by cases e) rfl) g1.1 g1.2 g2.1 g2.2
      · cases h
    · obtain ⟨hs, h⟩ := cond_some' h
      cases h
      rw [flat_eq hv 40 hs]
      exact flat_refl ρ2 40 _ hs

def plugO (N : Nat) (μ : List Nat) (θ : List Value) (root : Nat) : PObj → Option AObj
  | .box cs el rig esz => match plugL (plugV N μ θ 40) cs with
    | some l => some (.cells l el rig esz root true)
    | none => none
  | .row srts l => match θ[l]? with
    | some e => some (.row srts e)
    | none => none
  | .own srts el l => match θ[l]? with
    | some e => some (.orow srts e el root)
    | none => none

theorem plugO_kind {N root : Nat} {μ : List Nat} {θ : List Value} {o : PObj} {a : AObj} (h : plugO N μ θ root o = some a) : a.wr = o.wr ∧ a.isRow = !o.wr ∧ ∀ r, rootOf a = some r → r = root := by
  cases o <;> simp only [plugO] at h <;> split at h <;> cases h
  · exact ⟨rfl, rfl, fun r hr => by cases hr; rfl⟩
  · exact ⟨rfl, rfl, fun r hr => by cases hr⟩
  · exact ⟨rfl, rfl, fun r hr => by cases hr; rfl⟩

theorem plugO_ok {FN : Fns} {V : Nat → Value} {nt N i b root : Nat} {lf θ : List Value} {μ : List Nat} {ρf ρ2 : Rho} {w : World} (he : ρf.env = envL FN V nt lf) (hlen : θ.length = lf.length) (hl : ∀ (l : Nat) e u, θ[l]? = some e → lf[l]? = some u → VR ρ2 e u)
    (hn : ∀ (i : Nat) b, μ[i]? = some b → NameP ρf ρ2 N i b) (hd : ρf.dom (N + i)) (hi : μ[i]? = some b) {o : PObj} {a : AObj} (h : plugO N μ θ root o = some a) (ho : ObjRel ρf w (N + i) (o.can nt (N + i))) : ObjRel ρ2 w b a := by
  obtain ⟨_, h2, h3, h4, h5, h6, h7⟩ := hn i b hi hd
  have spec : ∀ {l : Nat} {e : Value} {cells : Array Value}, θ[l]? = some e → VR ρf (specL nt l) (.agg cells) → VR ρ2 e (.agg cells) := fun {l e cells} hθ hv => by
    have hl' : l < lf.length := by rw [← hlen]; exact (List.getElem?_eq_some_iff.1 hθ).1
    have hu := List.getElem?_eq_getElem hl'
    have h1 := hl l e _ hθ hu
    obtain ⟨vs, g1, g2⟩ := hv.sym_invL
    obtain ⟨y, r, rfl, hy, hr⟩ := g1.cons_inv
    rw [hr.nil_inv] at g2
    cases hy
    simp only [interp, he, envL, Int.toNat_natCast, Option.some.injEq] at g2
    rw [if_neg (by omega), show 1000000 + l - 1000000 = l by omega, List.getD_eq_getElem?_getD, hu] at g2
    simp only [Option.getD_some] at g2
    rw [← g2]; exact h1
  cases o with
  | box cs el rig esz =>
    simp only [plugO] at h
    split at h
    · rename_i l hl'
      cases h
      obtain ⟨ccs, fr, h0, hq⟩ := ho
      obtain ⟨e1, e2⟩ := plugL_get hl'
      refine ⟨ccs, fr, by rw [h2]; exact h0, ⟨by rw [h4]; exact hq.tot, by rw [h6]; exact hq.rig, by rw [h5]; exact hq.esz, by rw [h3, ← e1]; exact hq.len, by rw [h3, ← e1]; exact hq.full, fun j v hv => ?_, by rw [h3]; exact hq.free⟩⟩
      have hj : j < cs.length := by rw [e1]; exact (List.getElem?_eq_some_iff.1 hv).1
      obtain ⟨v', g1, g2⟩ := hq.cell j _ (List.getElem?_eq_getElem hj)
      obtain ⟨a, ha, hf⟩ := e2 j _ (List.getElem?_eq_getElem hj)
      rw [hv] at ha
      cases ha
      exact ⟨v', by rw [h3]; exact g1, plugV_ok he hlen hl hn hf g2⟩
    · cases h
  | row srts l =>
    simp only [plugO] at h
    split at h
    · rename_i e hθ
      cases h
      obtain ⟨g0, a, n, c, cells, g1, g2, g3, g4, g5⟩ := ho
      exact ⟨by rw [h2]; exact g0, a, n, c, cells, by rw [h7]; exact g1, spec hθ g2, g3, g4, by rw [h2]; exact g5⟩
    · cases h
  | own srts el l =>
    simp only [plugO] at h
    split at h
    · rename_i e hθ
      cases h
      obtain ⟨o, n, c, cells, ccs, fr, g1, g2, g3, g4, g5, g6⟩ := ho
      exact ⟨o, n, c, cells, ccs, fr, by rw [h7, h2]; exact g1, spec hθ g2, g3, g4, by rw [h2]; exact g5, g6⟩
    · cases h

/-! ### The memory behind -/

/-- What was writable is no more to be seen. -/
def killP (H0 : Heap) : List (PObj × Nat) → Heap → Heap
  | [], H => H
  | (o, b) :: r, H => killP H0 r (cond o.wr (H.only (rootAt H0 b) []) H)

theorem killP_look {H0 : Heap} : ∀ {l : List (PObj × Nat)} {H : Heap} {x : Nat} {y : AObj}, look (killP H0 l H) x = some y → look H x = some y ∧ ∀ o b, (o, b) ∈ l → o.wr = true → rootOf y ≠ some (rootAt H0 b)
  | [], H, x, y, h => ⟨h, fun _ _ hm => by cases hm⟩
  | (o, b) :: r, H, x, y, h => by
    obtain ⟨h1, h2⟩ := killP_look (l := r) h
    cases hw : o.wr with
    | false =>
      rw [hw] at h1
      refine ⟨h1, fun o' b' hm hw' => ?_⟩
      rcases List.mem_cons.1 hm with e | hm
      · cases e; rw [hw] at hw'; cases hw'
      · exact h2 o' b' hm hw'
    | true =>
      rw [hw] at h1
      obtain ⟨h3, h4⟩ := look_only (l := []) (fun z hz => by cases hz) h1
      refine ⟨h3, fun o' b' hm hw' => ?_⟩
      rcases List.mem_cons.1 hm with e | hm
      · cases e; exact fun e => by have := h4 e; cases this
      · exact h2 o' b' hm hw'

theorem killP_plain {H0 : Heap} : ∀ {l : List (PObj × Nat)} {H : Heap}, (killP H0 l H).next = H.next ∧ (killP H0 l H).wmin = H.wmin ∧ (killP H0 l H).hide = H.hide
  | [], H => ⟨rfl, rfl, rfl⟩
  | (o, b) :: r, H => by
    obtain ⟨h1, h2, h3⟩ := killP_plain (l := r) (H := cond o.wr (H.only (rootAt H0 b) []) H)
    cases hw : o.wr <;> rw [hw] at h1 h2 h3 <;> simp only [killP, hw] <;> exact ⟨h1, h2, h3⟩

def putP : List (Nat × AObj) → Heap → Heap
  | [], H => H
  | (b, o) :: r, H => putP r (H.put b o o)

theorem putP_look : ∀ {l : List (Nat × AObj)} {H : Heap} {x : Nat} {y : AObj}, look (putP l H) x = some y → (x, y) ∈ l ∨ look H x = some y
  | [], H, x, y, h => .inr h
  | (b, o) :: r, H, x, y, h => by
    rcases putP_look (l := r) h with h1 | h1
    · exact .inl (List.mem_cons_of_mem _ h1)
    · by_cases hx : x = b
      · subst hx
        have h2 := (look_some h1).2.1
        have h3 : (H.tab.set x o).get x = some y := h2
        rw [HT.get_set, if_pos rfl] at h3
        cases h3
        exact .inl List.mem_cons_self
      · exact .inr (look_put_other hx h1).1

theorem putP_plain : ∀ {l : List (Nat × AObj)} {H : Heap}, (putP l H).next = H.next ∧ (putP l H).wmin = H.wmin ∧ (putP l H).hide = H.hide
  | [], H => ⟨rfl, rfl, rfl⟩
  | (b, o) :: r, H => putP_plain (l := r) (H := H.put b o o)

def pushes : List AObj → Heap → Heap
  | [], H => H
  | o :: r, H => pushes r (H.push o)

theorem pushes_look : ∀ {l : List AObj} {H : Heap}, (∀ p ∈ H.hide, p.2 ≤ H.next) → ∀ {b : Nat} {o : AObj}, look (pushes l H) b = some o → look H b = some o ∨ ∃ j, l[j]? = some o ∧ b = H.next + j
  | [], H, _, b, o, h => .inl h
  | x :: r, H, hh, b, o, h => by
    rcases pushes_look (l := r) (H := H.push x) (fun p hp => Nat.le_succ_of_le (hh p hp)) h with h1 | ⟨j, h1, h2⟩
    · rw [look_push hh] at h1
      by_cases e : b = H.next
      · rw [if_pos e] at h1
        cases h1
        exact .inr ⟨0, rfl, e⟩
      · rw [if_neg e] at h1; exact .inl h1
    · refine .inr ⟨j + 1, by simpa using h1, ?_⟩
      rw [h2]
      simp only [Heap.push]
      omega

theorem pushes_plain : ∀ {l : List AObj} {H : Heap}, (pushes l H).next = H.next + l.length ∧ (pushes l H).wmin = H.wmin ∧ (pushes l H).hide = H.hide
  | [], H => ⟨rfl, rfl, rfl⟩
  | o :: r, H => by
    obtain ⟨h1, h2, h3⟩ := pushes_plain (l := r) (H := H.push o)
    refine ⟨?_, h2, h3⟩
    simp only [pushes, h1, List.length_cons]
    simp only [Heap.push]
    omega

theorem canH_get {nt : Nat} : ∀ {l : List PObj} {H : Heap}, (∀ p ∈ H.hide, p.2 ≤ H.next) → ∀ {i : Nat} {p : PObj}, l[i]? = some p → look (canH nt H l) (H.next + i) = some (p.can nt (H.next + i))
  | [], H, _, i, p, h => by simp at h
  | x :: r, H, hh, i, p, h => by
    have hh' : ∀ q ∈ (H.push (x.can nt H.next)).hide, q.2 ≤ (H.push (x.can nt H.next)).next := fun q hq => Nat.le_succ_of_le (hh q hq)
    cases i with
    | zero =>
      simp only [List.getElem?_cons_zero, Option.some.injEq] at h
      subst h
      have stay : ∀ {r : List PObj} {G : Heap} {b : Nat} {o : AObj}, (∀ q ∈ G.hide, q.2 ≤ G.next) → b < G.next → look G b = some o → look (canH nt G r) b = some o := by
        intro r
        induction r with
        | nil => intro G b o _ _ h; exact h
        | cons y r ih =>
          intro G b o hg hb h
          refine ih (fun q hq => Nat.le_succ_of_le (hg q hq)) (Nat.lt_succ_of_lt hb) ?_
          rw [look_push hg, if_neg (by omega)]; exact h
      show look (canH nt (H.push (x.can nt H.next)) r) H.next = _
      exact stay hh' (Nat.lt_succ_self _) (by rw [look_push hh, if_pos rfl]; rfl)
    | succ i =>
      have := canH_get (nt := nt) (l := r) (H := H.push (x.can nt H.next)) hh' (i := i) (p := p) (by simpa using h)
      have e : (H.push (x.can nt H.next)).next + i = H.next + (i + 1) := by simp only [Heap.push]; omega
      rw [e] at this
      exact this

/-- What a piece of code did, told by the names of patterns. -/
structure PEff (N nb base : Nat) (ρc ρf : Rho) (objs objs' : List PObj) (w w' : World) : Prop where
  below : Below base w w'
  chg : ∀ q, q < w.heap.size → (∀ (i : Nat) o, objs[i]? = some o → o.wr = true → ρc.blk (N + i) ≠ q) → w'.heap[q]? = w.heap[q]?
  new : ∀ (j : Nat) o', objs'[j]? = some o' → w.heap.size ≤ ρf.blk (N + j) ∨ (∃ (i : Nat) (o : PObj), objs[i]? = some o ∧ o.wr = true ∧ ρf.blk (N + j) = ρc.blk (N + i)) ∨
    (o'.wr = false ∧ (ρf.blk (N + j) < base ∨ ∃ (i : Nat) (o : PObj), objs[i]? = some o ∧ o.wr = false ∧ ρf.blk (N + j) = ρc.blk (N + i)))
  box : ∀ i, i < nb → ρf.blk (N + i) = ρc.blk (N + i) ∧ ρf.off (N + i) = ρc.off (N + i) ∧ ρf.tot (N + i) = ρc.tot (N + i) ∧ ρf.esz (N + i) = ρc.esz (N + i) ∧ ρf.rig (N + i) = ρc.rig (N + i) ∧ ρf.hval (N + i) = ρc.hval (N + i)

/-- What comes out: values, objects (first the boxes that there were), what their leaves are. -/
structure POut where
  vals : List Value
  objs : List PObj
  exprs : List Value

def plugOs (N : Nat) (μ : List Nat) (θ : List Value) : List PObj → List Nat → Option (List AObj)
  | [], _ => some []
  | o :: r, b :: s => match plugO N μ θ b o, plugOs N μ θ r s with
    | some a, some l => some (a :: l)
    | _, _ => none
  | _ :: _, [] => none

theorem plugOs_get {N : Nat} {μ : List Nat} {θ : List Value} : ∀ {os : List PObj} {rs : List Nat} {l : List AObj}, plugOs N μ θ os rs = some l → l.length = os.length ∧ ∀ (i : Nat) a, l[i]? = some a → ∃ o r, os[i]? = some o ∧ rs[i]? = some r ∧ plugO N μ θ r o = some a
  | [], _, l, h => by simp only [plugOs, Option.some.injEq] at h; subst h; exact ⟨rfl, fun i a h => by simp at h⟩
  | o :: r, b :: s, l, h => by
    simp only [plugOs] at h
    split at h
    · rename_i a q h1 h2
      cases h
      obtain ⟨e1, e2⟩ := plugOs_get h2
      refine ⟨by simp [e1], fun i a' ha => ?_⟩
      cases i with
      | zero => simp only [List.getElem?_cons_zero, Option.some.injEq] at ha; subst ha; exact ⟨o, b, rfl, rfl, h1⟩
      | succ i => simpa using e2 i a' (by simpa using ha)
    · cases h
  | _ :: _, [], _, h => by cases h

def outNs (nb m k : Nat) (ns : List Nat) : List Nat := ns.take nb ++ (List.range (m - nb)).map fun j => k + j
/-- The roots that they get: the boxes' own; others their names. -/
def outRs (nb m : Nat) (H : Heap) (ns : List Nat) : List Nat := (ns.take nb).map (rootAt H) ++ (List.range (m - nb)).map fun j => H.next + j

def putOut (N nb : Nat) (objs : List PObj) (ns : List Nat) (H : Heap) (out : POut) (θ : List Value) : Option (List Value × Heap) :=
  let μ := outNs nb out.objs.length H.next ns
  match plugL (plugV N μ θ 40) out.vals, plugOs N μ θ out.objs (outRs nb out.objs.length H ns) with
  | some vs, some os => cond (Nat.ble nb out.objs.length && Nat.ble nb ns.length && ((objs.take nb).all PObj.wr) && ((out.objs.take nb).all PObj.wr)) (some (vs, pushes (os.drop nb) (putP ((ns.take nb).zip (os.take nb)) (killP H (objs.zip ns) H)))) none
  | _, _ => none


theorem getElem?_take' {α : Type} {l : List α} {n i : Nat} {a : α} (h : (l.take n)[i]? = some a) : i < n ∧ l[i]? = some a := by
  rw [List.getElem?_take] at h
  split at h
  · rename_i hi; exact ⟨hi, h⟩
  · cases h

theorem outNs_get {nb m k i b : Nat} {ns : List Nat} (hnb : nb ≤ ns.length) (h : (outNs nb m k ns)[i]? = some b) : (i < nb ∧ ns[i]? = some b) ∨ (nb ≤ i ∧ i < m ∧ b = k + (i - nb)) := by
  unfold outNs at h
  have hl : (ns.take nb).length = nb := by simp; omega
  rw [List.getElem?_append] at h
  split at h
  · exact .inl (getElem?_take' h)
  · rename_i hi
    rw [hl] at hi h
    rw [List.getElem?_map] at h
    cases hr : (List.range (m - nb))[i - nb]? with
    | none => rw [hr] at h; cases h
    | some j =>
      rw [hr] at h
      have h1 := (List.getElem?_eq_some_iff.1 hr)
      obtain ⟨h2, h3⟩ := h1
      simp only [List.length_range] at h2
      simp only [List.getElem_range] at h3
      simp only [Option.map_some, Option.some.injEq] at h
      exact .inr ⟨by omega, by omega, by omega⟩

def extR (ρ ρf : Rho) (N nb k m : Nat) : Rho where
  dom b := ρ.dom b ∨ (k ≤ b ∧ b < k + m)
  blk b := if k ≤ b ∧ b < k + m then ρf.blk (N + (nb + (b - k))) else ρ.blk b
  off b := if k ≤ b ∧ b < k + m then ρf.off (N + (nb + (b - k))) else ρ.off b
  tot b := if k ≤ b ∧ b < k + m then ρf.tot (N + (nb + (b - k))) else ρ.tot b
  esz b := if k ≤ b ∧ b < k + m then ρf.esz (N + (nb + (b - k))) else ρ.esz b
  rig b := if k ≤ b ∧ b < k + m then ρf.rig (N + (nb + (b - k))) else ρ.rig b
  hval b := if k ≤ b ∧ b < k + m then ρf.hval (N + (nb + (b - k))) else ρ.hval b
  env := ρ.env

/-- What comes out, in the memory in which the pattern was found. -/
theorem putOut_ok {S : Knw} {N nb nl nt base lim : Nat} {FN : Fns} {F' : List (Value × Bool)} {V V' : Nat → Value} {gv : List Gv} {pats acts : List Value} {objs : List PObj} {ns : List Nat} {θ0 θ ls lf : List Value} {H : Heap} {ρ ρf : Rho} {w w' : World} {out : POut}
    (f : Found N nl pats objs acts H ns θ0) (hr : Rel S base ρ H w) (hfr : Free H lim ρ) {vs : List Value} {H' : Heap} (h : putOut N nb objs ns H out θ = some (vs, H')) (hlim : H'.next ≤ lim)
    (hf : Rel ⟨N, F', FN, [], rows0⟩ base ρf (canH nt (heapOf N gv) out.objs) w') (he : ρf.env = envL FN V' nt lf) (hgv : ∀ x ∈ gv, x.1 < N) (heff : PEff N nb base (canR ρ w N objs.length ns (envL FN V nt ls)) ρf objs out.objs w w')
    (hlen : θ.length = lf.length) (hl : ∀ (l : Nat) e u, θ[l]? = some e → lf[l]? = some u → VR ρ e u) {cs : List Value} (hv : VRs ρf out.vals cs) : ∃ ρ2, Post S base ρ H H' w w' ρ2 ∧ VRs ρ2 vs cs := by
  unfold putOut at h
  simp only at h
  split at h
  · rename_i vs0 os h1 h2
    replace h := cond_some' h
    obtain ⟨hc, h⟩ := h
    cases h
    simp only [Bool.and_eq_true, List.all_eq_true] at hc
    obtain ⟨⟨⟨hnb, hnb2⟩, hbw⟩, hbw2⟩ := hc
    have hnb := Nat.le_of_ble_eq_true hnb
    have hnb2 := Nat.le_of_ble_eq_true hnb2
    obtain ⟨⟨x1, y1, x, y, m1, m2, m3, m4, m5⟩, hroot, _, _⟩ := f
    obtain ⟨len, mo⟩ := matOs_ok m2
    obtain ⟨olen, og⟩ := plugOs_get h2
    obtain ⟨kp1, kp2, kp3⟩ := killP_plain (H0 := H) (l := objs.zip ns) (H := H)
    obtain ⟨pp1, pp2, pp3⟩ := putP_plain (l := (ns.take nb).zip (os.take nb)) (H := killP H (objs.zip ns) H)
    obtain ⟨q1, q2, q3⟩ := pushes_plain (l := os.drop nb) (H := putP ((ns.take nb).zip (os.take nb)) (killP H (objs.zip ns) H))
    rw [pp1, kp1] at q1
    rw [pp2, kp2] at q2
    rw [pp3, kp3] at q3
    rw [q1] at hlim
    have hdl : (os.drop nb).length = out.objs.length - nb := by simp [olen]
    rw [hdl] at hlim q1
    obtain ⟨m, hm⟩ : ∃ m, m = out.objs.length - nb := ⟨_, rfl⟩
    rw [← hm] at hlim q1
    -- the names of objects that were there
    have hwr : ∀ {i : Nat} {p : PObj} {c : Nat}, objs[i]? = some p → ns[i]? = some c → ∃ ob, look H c = some ob ∧ (p.wr = true → ob.wr = true ∧ H.wmin ≤ c ∧ rootOf ob = some (rootAt H c)) ∧ ob.isRow = !p.wr := fun {i p c} g1 g2 => by
      obtain ⟨c', _, _, g3, g4, _⟩ := mo i p g1
      rw [g2] at g3
      cases g3
      obtain ⟨ob, k1, k2, k3⟩ := matO_look g4
      refine ⟨ob, k1, fun hw => ?_, k3⟩
      obtain ⟨k4, k5, k6⟩ := k2 hw
      obtain ⟨r, hr⟩ := Option.isSome_iff_exists.1 k6
      exact ⟨k4, k5, by simp only [rootAt, k1, hr, Option.getD_some]⟩
    have hcb : ∀ {i c : Nat}, ns[i]? = some c → (canR ρ w N objs.length ns (envL FN V nt ls)).blk (N + i) = ρ.blk c := fun h => (canR_at h).1
    have nsget : ∀ {i : Nat} {p : PObj}, objs[i]? = some p → ∃ c, ns[i]? = some c := fun {i p} h => by
      obtain ⟨c, _, _, g, _⟩ := mo i p h; exact ⟨c, g⟩
    have boxo : ∀ {i : Nat}, i < nb → ∃ p c, objs[i]? = some p ∧ ns[i]? = some c ∧ p.wr = true := fun {i} hi => by
      have hi' : i < objs.length := by omega
      have hi2 : i < ns.length := by omega
      refine ⟨objs[i], ns[i], List.getElem?_eq_getElem hi', List.getElem?_eq_getElem hi2, hbw _ ?_⟩
      exact List.mem_of_getElem? (i := i) (by rw [List.getElem?_take, if_pos hi]; exact List.getElem?_eq_getElem hi')
    -- new names
    obtain ⟨ρ2, hρ2⟩ : ∃ ρ2, ρ2 = extR ρ ρf N nb H.next m := ⟨_, rfl⟩
    have nold : ∀ {b}, ρ.dom b → ¬ (H.next ≤ b ∧ b < H.next + m) := fun {b} hd hb => hfr b hb.1 (by omega) hd
    have e : Ext ρ ρ2 := by rw [hρ2]; exact ⟨fun _ h => .inl h, fun b hb => if_neg (nold hb), fun b hb => if_neg (nold hb), fun b hb => if_neg (nold hb), fun b hb => if_neg (nold hb), fun b hb => if_neg (nold hb), rfl, fun b hb => if_neg (nold hb)⟩
    have hdom2 : ∀ b, ρ2.dom b ↔ (ρ.dom b ∨ (H.next ≤ b ∧ b < H.next + m)) := fun b => by rw [hρ2]; exact Iff.rfl
    have newat : ∀ {j : Nat}, j < m → ρ2.blk (H.next + j) = ρf.blk (N + (nb + j)) ∧ ρ2.off (H.next + j) = ρf.off (N + (nb + j)) ∧ ρ2.tot (H.next + j) = ρf.tot (N + (nb + j)) ∧ ρ2.esz (H.next + j) = ρf.esz (N + (nb + j)) ∧ ρ2.rig (H.next + j) = ρf.rig (N + (nb + j)) ∧ ρ2.hval (H.next + j) = ρf.hval (N + (nb + j)) := fun {j} hj => by
      have hc : H.next ≤ H.next + j ∧ H.next + j < H.next + m := by omega
      have hj' : H.next + j - H.next = j := by omega
      rw [hρ2]
      refine ⟨?_, ?_, ?_, ?_, ?_, ?_⟩ <;> simp only [extR, if_pos hc, hj']
    have hname : ∀ (i : Nat) b, (outNs nb out.objs.length H.next ns)[i]? = some b → NameP ρf ρ2 N i b := fun i b hb hd => by
      rcases outNs_get hnb2 hb with ⟨h3, h4⟩ | ⟨h3, h4, rfl⟩
      · obtain ⟨p, c, g1, g2, g3⟩ := boxo h3
        rw [h4] at g2
        cases g2
        obtain ⟨ob, k1, _, _⟩ := hwr g1 h4
        have hdb := hr.dom _ _ k1
        obtain ⟨a1, a2, a3, a4, a5, a6⟩ := heff.box i h3
        obtain ⟨c1, c2, c3, c4, c5, c6⟩ := canR_at (ρ := ρ) (w := w) (N := N) (k := objs.length) (E := envL FN V nt ls) h4
        exact ⟨e.dom b hdb, by rw [e.blk b hdb, a1, c1], by rw [e.off b hdb, a2, c2], by rw [e.tot b hdb, a3, c3], by rw [e.esz b hdb, a4, c4], by rw [e.rig b hdb, a5, c5], by rw [e.hval b hdb, a6, c6]⟩
      · obtain ⟨a1, a2, a3, a4, a5, a6⟩ := newat (j := i - nb) (by omega)
        have hi : nb + (i - nb) = i := by omega
        rw [hi] at a1 a2 a3 a4 a5 a6
        exact ⟨(hdom2 _).2 (.inr (by omega)), a1, a2, a3, a4, a5, a6⟩
    have hl2 : ∀ (l : Nat) e' u, θ[l]? = some e' → lf[l]? = some u → VR ρ2 e' u := fun l e' u h3 h4 => (hl l e' u h3 h4).mono e
    obtain ⟨hp1, hp2, hp3⟩ := heapOf_plain N gv
    obtain ⟨hq1, hq2⟩ := heapOf_lt N hgv
    have hcan : ∀ {i : Nat} {p : PObj}, out.objs[i]? = some p → look (canH nt (heapOf N gv) out.objs) (N + i) = some (p.can nt (N + i)) := fun {i p} h => by
      have := canH_get (nt := nt) hq1 h
      rw [hp1] at this
      exact this
    -- who is there to be seen
    have hsee : ∀ {b o}, look (pushes (os.drop nb) (putP ((ns.take nb).zip (os.take nb)) (killP H (objs.zip ns) H))) b = some o →
        (∃ j p r, j < m ∧ b = H.next + j ∧ out.objs[nb + j]? = some p ∧ plugO N (outNs nb out.objs.length H.next ns) θ r p = some o ∧ (outNs nb out.objs.length H.next ns)[nb + j]? = some b) ∨
        (∃ i p r, i < nb ∧ ns[i]? = some b ∧ out.objs[i]? = some p ∧ plugO N (outNs nb out.objs.length H.next ns) θ r p = some o ∧ (outNs nb out.objs.length H.next ns)[i]? = some b) ∨
        (look H b = some o ∧ ∀ (i : Nat) p c, objs[i]? = some p → ns[i]? = some c → p.wr = true → rootOf o ≠ some (rootAt H c)) := fun {b o} hb => by
      have hh : ∀ p ∈ (putP ((ns.take nb).zip (os.take nb)) (killP H (objs.zip ns) H)).hide, p.2 ≤ (putP ((ns.take nb).zip (os.take nb)) (killP H (objs.zip ns) H)).next := by
        rw [pp3, kp3, pp1, kp1]; exact hr.hide
      rcases pushes_look hh hb with h3 | ⟨j, h3, h4⟩
      · rcases putP_look h3 with h4 | h4
        · obtain ⟨i, hi⟩ := List.getElem?_of_mem h4
          rw [List.getElem?_zip_eq_some] at hi
          obtain ⟨i1, i2⟩ := hi
          obtain ⟨i3, i4⟩ := getElem?_take' i1
          obtain ⟨_, i5⟩ := getElem?_take' i2
          obtain ⟨p, r, j1, j2, j3⟩ := og i o i5
          refine .inr (.inl ⟨i, p, r, i3, i4, j1, j3, ?_⟩)
          unfold outNs
          rw [List.getElem?_append_left (by rw [List.length_take]; omega)]
          exact i1
        · obtain ⟨h5, h6⟩ := killP_look h4
          refine .inr (.inr ⟨h5, fun i p c g1 g2 g3 => h6 p c ?_ g3⟩)
          exact List.mem_of_getElem? (i := i) (by rw [List.getElem?_zip_eq_some]; exact ⟨g1, g2⟩)
      · rw [pp1, kp1] at h4
        rw [List.getElem?_drop] at h3
        obtain ⟨p, r, j1, j2, j3⟩ := og _ o h3
        have hj : j < m := by have := (List.getElem?_eq_some_iff.1 j1).1; omega
        refine .inl ⟨j, p, r, hj, h4, j1, j3, ?_⟩
        unfold outNs
        have hl3 : (ns.take nb).length = nb := by simp; omega
        rw [List.getElem?_append_right (by omega), hl3, List.getElem?_map, show nb + j - nb = j by omega, List.getElem?_range (by omega), h4]
        rfl
    -- an old one that is left lies in no block that may have been written into
    have hapart : ∀ {b o}, look H b = some o → (∀ (i : Nat) p c, objs[i]? = some p → ns[i]? = some c → p.wr = true → rootOf o ≠ some (rootAt H c)) → ∀ (i : Nat) p c, objs[i]? = some p → ns[i]? = some c → p.wr = true → ρ.blk b ≠ ρ.blk c := fun {b o} hb hno i p c g1 g2 g3 he => by
      obtain ⟨ob, k1, k2, _⟩ := hwr g1 g2
      obtain ⟨k4, _, k6⟩ := k2 g3
      by_cases hbc : b = c
      · subst hbc
        rw [hb] at k1
        cases k1
        exact hno i p b g1 g2 g3 k6
      · obtain ⟨r, r1, r2⟩ := (sameRoot_eq _ _).1 (hr.sep c b ob o k1 hb (fun e => hbc e.symm) k4 he.symm)
        rw [k6] at r1
        cases r1
        exact hno i p c g1 g2 g3 r2
    have hblkold : ∀ {b o}, look H b = some o → (∀ (i : Nat) p c, objs[i]? = some p → ns[i]? = some c → p.wr = true → rootOf o ≠ some (rootAt H c)) → w'.heap[ρ.blk b]? = w.heap[ρ.blk b]? := fun {b o} hb hno =>
      heff.chg _ (hr.obj b o hb).lt fun i p g1 g2 => by
        obtain ⟨c, hc⟩ := nsget g1
        rw [hcb hc]
        exact (hapart hb hno i p c g1 hc g2).symm
    -- where one that came out lies
    have hwhere : ∀ {b o i p}, out.objs[i]? = some p → ρ2.blk b = ρf.blk (N + i) → (o : AObj) = o → ∀ {x ox}, look H x = some ox → (∀ (i : Nat) p c, objs[i]? = some p → ns[i]? = some c → p.wr = true → rootOf ox ≠ some (rootAt H c)) → (p.wr = true ∨ ox.wr = true) → ρ2.blk b ≠ ρ.blk x := fun {b o i p} g1 g2 _ {x ox} hx hno hw he => by
      rw [g2] at he
      rcases heff.new i p g1 with k1 | ⟨i', p', k1, k2, k3⟩ | ⟨k0, k1 | ⟨i', p', k1, k2, k3⟩⟩
      · have := (hr.obj x ox hx).lt; omega
      · obtain ⟨c, hc⟩ := nsget k1
        rw [k3, hcb hc] at he
        exact hapart hx hno i' p' c k1 hc k2 he.symm
      · rcases hw with hw | hw
        · rw [k0] at hw; cases hw
        · have := hr.own x ox hx hw; omega
      · rcases hw with hw | hw
        · rw [k0] at hw; cases hw
        · obtain ⟨c, hc⟩ := nsget k1
          obtain ⟨ob, j1, _, j3⟩ := hwr k1 hc
          rw [k3, hcb hc] at he
          exact hr.rsep x c ox ob hx j1 hw (by rw [j3, k2]; rfl) he.symm
    have hblkO : ∀ {b i p r o}, out.objs[i]? = some p → plugO N (outNs nb out.objs.length H.next ns) θ r p = some o → (outNs nb out.objs.length H.next ns)[i]? = some b → ρ2.dom b ∧ ρ2.blk b = ρf.blk (N + i) ∧ ObjRel ρ2 w' b o := fun {b i p r o} g1 g2 g3 => by
      have hl3 := hcan g1
      have hd := hf.dom _ _ hl3
      obtain ⟨a1, a2, _⟩ := hname i b g3 hd
      exact ⟨a1, a2, plugO_ok he hlen hl2 hname hd g3 g2 (hf.obj _ _ hl3)⟩
    have hownO : ∀ {b i p r o}, out.objs[i]? = some p → plugO N (outNs nb out.objs.length H.next ns) θ r p = some o → (outNs nb out.objs.length H.next ns)[i]? = some b → o.wr = true → base ≤ ρ2.blk b := fun {b i p r o} g1 g2 g3 hw => by
      rw [(hblkO g1 g2 g3).2.1]
      exact hf.own _ _ (hcan g1) (by rw [PObj.can_wr, ← (plugO_kind g2).1]; exact hw)
    have hsepO : ∀ {b b' i i' p p' r r' o o'}, out.objs[i]? = some p → plugO N (outNs nb out.objs.length H.next ns) θ r p = some o → (outNs nb out.objs.length H.next ns)[i]? = some b → out.objs[i']? = some p' → plugO N (outNs nb out.objs.length H.next ns) θ r' p' = some o' →
        (outNs nb out.objs.length H.next ns)[i']? = some b' → b ≠ b' → o.wr = true → ρ2.blk b ≠ ρ2.blk b' := fun {b b' i i' p p' r r' o o'} g1 g2 g3 k1 k2 k3 hne hw he => by
      rw [(hblkO g1 g2 g3).2.1, (hblkO k1 k2 k3).2.1] at he
      have hii : i ≠ i' := fun hi => by
        subst hi
        rw [g3] at k3
        exact hne (Option.some.inj k3)
      have hpw : p.wr = true := by rw [← (plugO_kind g2).1]; exact hw
      obtain ⟨q, q1, q2⟩ := (sameRoot_eq _ _).1 (hf.sep _ _ _ _ (hcan g1) (hcan k1) (by omega) (by rw [PObj.can_wr]; exact hpw) he)
      rw [PObj.can_root hpw] at q1
      have := PObj.can_root0 q2
      cases q1
      omega
    refine ⟨ρ2, ⟨e, ⟨hr.glob.mono e, ?_, ?_, ?_, ?_, ?_, ?_, Nat.le_trans hr.hb heff.below.size, hr.pos⟩, ?_, by rw [q1]; omega, q2, heff.below, fun q hq hno => heff.chg q hq fun i p g1 g2 => ?_, ?_, ?_⟩, ?_⟩
    · intro p hp
      rw [q3] at hp
      rw [q1]
      exact Nat.le_trans (hr.hide p hp) (by omega)
    · intro b o hb
      rw [q1]
      rcases hsee hb with ⟨j, p, r, h3, h4, _⟩ | ⟨i, p, r, h3, h4, _⟩ | ⟨h3, _⟩
      · omega
      · obtain ⟨p', c, g1, g2, g3⟩ := boxo h3
        rw [h4] at g2
        cases g2
        obtain ⟨ob, k1, _⟩ := hwr g1 h4
        have := hr.lt _ _ k1
        omega
      · have := hr.lt _ _ h3
        omega
    · intro b o hb
      rcases hsee hb with ⟨j, p, r, h3, h4, h5, h6, h7⟩ | ⟨i, p, r, h3, h4, h5, h6, h7⟩ | ⟨h3, _⟩
      · exact (hblkO h5 h6 h7).1
      · exact (hblkO h5 h6 h7).1
      · exact e.dom _ (hr.dom _ _ h3)
    · intro b o hb
      rcases hsee hb with ⟨j, p, r, h3, h4, h5, h6, h7⟩ | ⟨i, p, r, h3, h4, h5, h6, h7⟩ | ⟨h3, h4⟩
      · exact (hblkO h5 h6 h7).2.2
      · exact (hblkO h5 h6 h7).2.2
      · exact ((hr.obj b o h3).congr (hblkold h3 h4)).mono (hr.dom _ _ h3) e
    · intro b o hb hw
      rcases hsee hb with ⟨j, p, r, h3, h4, h5, h6, h7⟩ | ⟨i, p, r, h3, h4, h5, h6, h7⟩ | ⟨h3, h4⟩
      · exact hownO h5 h6 h7 hw
      · exact hownO h5 h6 h7 hw
      · rw [e.blk b (hr.dom _ _ h3)]; exact hr.own b o h3 hw
    · intro b b' o o' hb hb' hne hw heq
      have out1 : ∀ {b o}, look (pushes (os.drop nb) (putP ((ns.take nb).zip (os.take nb)) (killP H (objs.zip ns) H))) b = some o → (∃ i p r, out.objs[i]? = some p ∧ plugO N (outNs nb out.objs.length H.next ns) θ r p = some o ∧ (outNs nb out.objs.length H.next ns)[i]? = some b) ∨
          (look H b = some o ∧ ∀ (i : Nat) p c, objs[i]? = some p → ns[i]? = some c → p.wr = true → rootOf o ≠ some (rootAt H c)) := fun {b o} hb => by
        rcases hsee hb with ⟨j, p, r, h3, h4, h5, h6, h7⟩ | ⟨i, p, r, h3, h4, h5, h6, h7⟩ | h3
        · exact .inl ⟨_, p, r, h5, h6, h7⟩
        · exact .inl ⟨_, p, r, h5, h6, h7⟩
        · exact .inr h3
      rcases out1 hb with ⟨i, p, r, g1, g2, g3⟩ | ⟨g1, g2⟩
      · rcases out1 hb' with ⟨i', p', r', k1, k2, k3⟩ | ⟨k1, k2⟩
        · exact absurd heq (hsepO g1 g2 g3 k1 k2 k3 hne hw)
        · rw [e.blk b' (hr.dom _ _ k1)] at heq
          exact absurd heq (hwhere g1 (hblkO g1 g2 g3).2.1 (o := o) rfl k1 k2 (.inl (by rw [← (plugO_kind g2).1]; exact hw)))
      · rw [e.blk b (hr.dom _ _ g1)] at heq
        rcases out1 hb' with ⟨i', p', r', k1, k2, k3⟩ | ⟨k1, k2⟩
        · exact absurd heq.symm (hwhere k1 (hblkO k1 k2 k3).2.1 (o := o') rfl g1 g2 (.inr hw))
        · rw [e.blk b' (hr.dom _ _ k1)] at heq
          exact hr.sep b b' o o' g1 k1 hne hw heq
    · intro b hb
      rcases (hdom2 b).1 hb with hb | hb
      · exact .inl hb
      · exact .inr ⟨hb.1, by rw [q1]; exact hb.2⟩
    · obtain ⟨c, hc⟩ := nsget g1
      obtain ⟨ob, k1, k2, _⟩ := hwr g1 hc
      obtain ⟨k4, k5, _⟩ := k2 g2
      rw [hcb hc]
      exact hno c ob k1 k4 k5
    · intro b o hb hd
      rcases hsee hb with ⟨j, p, r, h3, h4, h5, h6, h7⟩ | ⟨i, p, r, h3, h4, h5, h6, h7⟩ | ⟨h3, h4⟩
      · rw [(hblkO h5 h6 h7).2.1]
        rcases heff.new _ p h5 with k1 | ⟨i', p', k1, k2, k3⟩ | ⟨k0, k1 | ⟨i', p', k1, k2, k3⟩⟩
        · exact .inl k1
        · obtain ⟨c, hc⟩ := nsget k1
          obtain ⟨ob, j1, j2, _⟩ := hwr k1 hc
          obtain ⟨j4, j5, _⟩ := j2 k2
          exact .inr (.inl ⟨c, ob, j1, j4, j5, by rw [k3, hcb hc]⟩)
        · exact .inr (.inr ⟨by rw [(plugO_kind h6).2.1, k0]; rfl, .inl k1⟩)
        · obtain ⟨c, hc⟩ := nsget k1
          obtain ⟨ob, j1, _, j3⟩ := hwr k1 hc
          exact .inr (.inr ⟨by rw [(plugO_kind h6).2.1, k0]; rfl, .inr ⟨c, ob, j1, by rw [j3, k2]; rfl, by rw [k3, hcb hc]⟩⟩)
      · obtain ⟨p', c, g1, g2, g3⟩ := boxo h3
        rw [h4] at g2
        cases g2
        obtain ⟨ob, k1, _⟩ := hwr g1 h4
        exact absurd (hr.dom _ _ k1) hd
      · exact absurd (hr.dom _ _ h3) hd
    · intro b o hb hd
      rcases hsee hb with ⟨j, p, r, h3, h4, h5, h6, h7⟩ | ⟨i, p, r, h3, h4, h5, h6, h7⟩ | ⟨h3, h4⟩
      · exact absurd hd (hfr b (by omega) (by omega))
      · obtain ⟨p', c, g1, g2, g3⟩ := boxo h3
        rw [h4] at g2
        cases g2
        obtain ⟨ob, k1, k2, k3⟩ := hwr g1 h4
        refine ⟨ob, k1, fun _ => (k2 g3).1, ?_⟩
        have hpw : p.wr = true := hbw2 p (List.mem_of_getElem? (i := i) (by rw [List.getElem?_take, if_pos h3]; exact h5))
        rw [(plugO_kind h6).2.1, k3, hpw, g3]
      · exact ⟨o, h3, id, rfl⟩
    · obtain ⟨e1, e2⟩ := plugL_get h1
      refine ⟨e1.symm.trans hv.1, fun i x y hx hy => ?_⟩
      have hi : i < out.vals.length := by rw [e1]; exact (List.getElem?_eq_some_iff.1 hx).1
      obtain ⟨a, ha, hfa⟩ := e2 i _ (List.getElem?_eq_getElem hi)
      rw [hx] at ha
      cases ha
      exact plugV_ok he hlen hl2 hname hfa (hv.2 i _ y (List.getElem?_eq_getElem hi) hy)
  · cases h

end Go.Sy
