/- The evaluator's copy, maps. -/
import Derived.Test.YthcfhmdoelpbdaaGreatDoorEvU
namespace Go.Ev
set_option linter.unusedVariables false
set_option linter.unusedSimpArgs false
open Go

/-! ### copy, cap -/

def acopy (P : Program) (H : Heap) (ts : List TypeId) (vs : List Value) : Option (Value × Heap) :=
  match ts, vs with
  | dt :: _, [d, x] => match P.underlying dt with
    | some (.slice e) => match cellsN P e with
      | some size => match srcCells H size x with
        | some (m, l) => match d with
          | .slice none dn _ => cond (Nat.beq dn 0) (some (.int .i64 0, H)) none
          | .slice (some ⟨b, o, none⟩) dn _ => cond (Nat.beq (Nat.min m dn) 0) (some (.int .i64 0, H))
            (match aput H b o (l.take (Nat.min m dn * size)) with
             | some H' => some (.int .i64 (Nat.min m dn), H')
             | none => none)
          | _ => none
        | none => none
      | none => none
    | _ => none
  | _, _ => none

theorem acopy_ok {P : Program} {NG base : Nat} {ρ : Rho} {H H' : Heap} {w : World} {ts : Array TypeId} {ty : TypeId} {vs : List Value} {args : Array Value} {v : Value} (hr : Rel NG base ρ H w)
    (h : acopy P H ts.toList vs = some (v, H')) (hv : VRs ρ vs args.toList) : ∃ v' w', (Builtin.copy_ ts ty args).run P w = .ok v' w' ∧ VR ρ v v' ∧ Post NG base ρ H H' w w' ρ := by
  unfold acopy at h
  split at h
  · rename_i dt rest d x hts
    have ht0 : ts[0]? = some dt := by
      have : ts.toList[0]? = some dt := by rw [hts]; rfl
      simpa using this
    obtain ⟨d', r1, e1, hd, hr1⟩ := hv.cons_inv
    obtain ⟨x', r2, rfl, hx, hr2⟩ := hr1.cons_inv
    have := hr2.nil_inv
    subst this
    have ea : args = #[d', x'] := by apply Array.ext'; simpa using e1
    subst ea
    split at h
    · rename_i e hu
      split at h
      · rename_i size hs
        split at h
        · rename_i m l hsrc
          obtain ⟨hlen, hfirst, hnl⟩ := srcCells_ok (P := P) hr hsrc hx
          have none_ : ∀ (base : Option Addr) (dn c : Nat), Nat.min m dn = 0 → (Builtin.copy_ ts ty #[.slice base dn c, x']).run P w = .ok (.int .i64 0) w := by
            intro base dn c h0
            obtain ⟨arr, ha, hva⟩ := hfirst 0 (Nat.zero_le _)
            have hal : arr = #[] := by
              have := hva.1
              simp at this
              exact Array.eq_empty_of_size_eq_zero this.symm
            subst hal
            unfold Builtin.copy_
            simp only [ht0, List.getElem?_toArray, List.getElem?_cons_zero, List.getElem?_cons_succ, Sem.run_bind, run_underlying hu, Result.andThen_ok, hlen, h0, run_cellsN hs, ha, Sem.run_pure, goInt]
            cases base <;> rfl
          split at h
          · rename_i dn c
            cases hdn : Nat.beq dn 0 with
            | false => rw [hdn] at h; cases h
            | true =>
              simp only [hdn, cond_true, Option.some.injEq, Prod.mk.injEq] at h
              obtain ⟨rfl, rfl⟩ := h
              have e0 := Nat.eq_of_beq_eq_true hdn
              subst e0
              cases hd
              exact ⟨.int .i64 0, w, none_ _ _ _ (Nat.min_zero m), .int _ _, Post.refl hr⟩
          · rename_i b o dn c
            cases hdn : Nat.beq (Nat.min m dn) 0 with
            | true =>
              simp only [hdn, cond_true, Option.some.injEq, Prod.mk.injEq] at h
              obtain ⟨rfl, rfl⟩ := h
              have e0 := Nat.eq_of_beq_eq_true hdn
              refine ⟨.int .i64 0, w, ?_, .int _ _, Post.refl hr⟩
              cases hd <;> exact none_ _ _ _ e0
            | false =>
              simp only [hdn, cond_false] at h
              have e0 := Nat.ne_of_beq_eq_false hdn
              split at h
              · rename_i H2 hput
                simp only [Option.some.injEq, Prod.mk.injEq] at h
                obtain ⟨rfl, rfl⟩ := h
                cases hd with
                | slice _ _ _ _ c' hdom =>
                  obtain ⟨arr, ha, hva⟩ := hfirst (Nat.min m dn) (Nat.min_le_left m dn)
                  obtain ⟨q1, q2⟩ := aput_ok (P := P) hr hput hva
                  refine ⟨_, _, ?_, .int _ _, q2⟩
                  unfold Builtin.copy_
                  simp only [ht0, List.getElem?_toArray, List.getElem?_cons_zero, List.getElem?_cons_succ, Sem.run_bind, run_underlying hu, Result.andThen_ok, hlen, run_cellsN hs, ha, Sem.run_pure, goInt, q1]
                | sliceE => exact absurd (Nat.min_zero m) e0
              · cases h
          · cases h
        · cases h
      · cases h
    · cases h
  · cases h

/-! ### Maps -/

def EntsR (ρ : Rho) (es es' : List MapEntry) : Prop := es'.length = es.length ∧ ∀ (i : Nat) e e', es[i]? = some e → es'[i]? = some e' → EntR ρ e e'

theorem EntsR.nil (ρ : Rho) : EntsR ρ [] [] := ⟨rfl, by simp⟩
theorem EntsR.cons_inv {ρ : Rho} {e : MapEntry} {l l' : List MapEntry} (h : EntsR ρ (e :: l) l') : ∃ e' r, l' = e' :: r ∧ EntR ρ e e' ∧ EntsR ρ l r := by
  cases l' with
  | nil => exact absurd h.1 (by simp)
  | cons y r => exact ⟨y, r, rfl, h.2 0 e y rfl rfl, by simpa using h.1, fun i a b ha hb => h.2 (i + 1) a b (by simpa using ha) (by simpa using hb)⟩
theorem EntsR.cons {ρ : Rho} {e e' : MapEntry} {l l' : List MapEntry} (h : EntR ρ e e') (t : EntsR ρ l l') : EntsR ρ (e :: l) (e' :: l') :=
  ⟨by simp [t.1], fun i a b ha hb => by cases i with
    | zero => simp at ha hb; subst ha; subst hb; exact h
    | succ i => exact t.2 i a b (by simpa using ha) (by simpa using hb)⟩
theorem EntsR.snoc {ρ : Rho} {e e' : MapEntry} {l l' : List MapEntry} (t : EntsR ρ l l') (h : EntR ρ e e') : EntsR ρ (l ++ [e]) (l' ++ [e']) := by
  induction l generalizing l' with
  | nil => have : l' = [] := List.length_eq_zero_iff.1 t.1; subst this; exact EntsR.cons h (EntsR.nil ρ)
  | cons x r ih => obtain ⟨y, s, rfl, h1, h2⟩ := t.cons_inv; exact EntsR.cons h1 (ih h2)
theorem EntsR.get {ρ : Rho} {l l' : List MapEntry} (h : EntsR ρ l l') {i : Nat} {e : MapEntry} (he : l[i]? = some e) : ∃ e', l'[i]? = some e' ∧ EntR ρ e e' := by
  have hi : i < l.length := (List.getElem?_eq_some_iff.1 he).1
  have hi' : i < l'.length := by rw [h.1]; exact hi
  exact ⟨l'[i], List.getElem?_eq_getElem hi', h.2 i e _ he (List.getElem?_eq_getElem hi')⟩
theorem EntsR.modify {ρ : Rho} {f f' : MapEntry → MapEntry} (hf : ∀ e e', EntR ρ e e' → EntR ρ (f e) (f' e')) : ∀ {l l' : List MapEntry} (i : Nat), EntsR ρ l l' → EntsR ρ (l.modify i f) (l'.modify i f') := by
  intro l
  induction l with
  | nil => intro l' i h; have : l' = [] := List.length_eq_zero_iff.1 h.1; subst this; simpa using EntsR.nil ρ
  | cons x r ih =>
    intro l' i h
    obtain ⟨y, s, rfl, h1, h2⟩ := h.cons_inv
    cases i with
    | zero => simpa using EntsR.cons (hf _ _ h1) h2
    | succ i => simpa using EntsR.cons h1 (ih i h2)

def keyEq (P : Program) (kt : TypeId) (k k2 : Value) : Option Bool :=
  match P.underlying kt with
  | some (.int _) => match k, k2 with
    | .int a m, .int b n => cond (decide (a = b)) (some (m == n)) none
    | _, _ => none
  | some .string => match k, k2 with
    | .string s, .string u => some (bytesEq s.data.toList u.data.toList)
    | _, _ => none
  | some .bool => match k, k2 with
    | .bool a, .bool b => some (a == b)
    | _, _ => none
  | some _ => cond (flat 40 k && flat 40 k2) (pureS P (Op.equal kt k k2)) none
  | none => none

def aidx (P : Program) (kt : TypeId) (k : Value) : List MapEntry → Nat → Option (Option Nat)
  | [], _ => some none
  | e :: r, i => match keyEq P kt k e.key with
    | some true => some (some i)
    | some false => aidx P kt k r (i + 1)
    | none => none

theorem bytesEq_beq (a b : ByteArray) : bytesEq a.data.toList b.data.toList = (a == b) := by
  rw [bytesEq_eq]
  have h : (a == b) = (a.data == b.data) := by cases a; cases b; rfl
  rw [h, Bool.eq_iff_iff]
  simp

def isNow : TypeDesc → Bool
  | .int _ | .string | .bool => true
  | _ => false

theorem keyEq_now {P : Program} {ρ : Rho} {kt : TypeId} {k k' k2 k2' : Value} {r : Bool} {d : TypeDesc} (h : keyEq P kt k k2 = some r) (hk : VR ρ k k') (hk2 : VR ρ k2 k2') (hd : P.underlying kt = some d)
    (hn : isNow d = true) : Instr.sameNow d k' k2' = some r := by
  unfold keyEq at h
  rw [hd] at h
  cases d <;> simp only [isNow, Bool.false_eq_true] at hn
  case int =>
    simp only at h
    split at h
    · rename_i a m b n
      cases hk; cases hk2
      by_cases hab : a = b
      · subst hab
        simp only [decide_true, cond_true, Option.some.injEq] at h
        subst h
        simp [Instr.sameNow]
      · simp [hab] at h
    · cases h
  case string =>
    simp only at h
    split at h
    · rename_i s u
      cases hk; cases hk2
      simp only [Option.some.injEq] at h
      subst h
      simp only [Instr.sameNow, bytesEq_beq]
    · cases h
  case bool =>
    simp only at h
    split at h
    · cases hk; cases hk2
      simp only [Option.some.injEq] at h
      subst h
      simp [Instr.sameNow]
    · cases h

theorem keyEq_ask {P : Program} {ρ : Rho} {kt : TypeId} {k k' k2 k2' : Value} {r : Bool} {d : TypeDesc} (h : keyEq P kt k k2 = some r) (hk : VR ρ k k') (hk2 : VR ρ k2 k2') (hd : P.underlying kt = some d)
    (hn : isNow d = false) : ∀ w, (Op.equal kt k' k2').run P w = .ok r w := by
  unfold keyEq at h
  rw [hd] at h
  have key : (cond (flat 40 k && flat 40 k2) (pureS P (Op.equal kt k k2)) none) = some r := by
    cases d <;> first | exact h | (simp [isNow] at hn)
  cases hc : (flat 40 k && flat 40 k2) with
  | false => rw [hc] at key; cases key
  | true =>
    rw [hc] at key
    simp only [Bool.and_eq_true] at hc
    rw [flat_eq hk 40 hc.1, flat_eq hk2 40 hc.2]
    exact pureS_run key

def found (es' : List MapEntry) (i : Nat) : Option Nat → Option (Nat × Value)
  | none => none
  | some j => match es'[j - i]? with
    | some e => some (j, e.val)
    | none => none

theorem aidx_ge {P : Program} {kt : TypeId} {k : Value} : ∀ {es : List MapEntry} {i j : Nat}, aidx P kt k es i = some (some j) → i ≤ j ∧ j - i < es.length := by
  intro es
  induction es with
  | nil => intro i j h; simp [aidx] at h
  | cons e r ih =>
    intro i j h
    simp only [aidx] at h
    split at h
    · simp only [Option.some.injEq] at h; subst h; simp
    · have := ih h; simp; omega
    · cases h

theorem findKey_ok {P : Program} {ρ : Rho} {kt : TypeId} {k k' : Value} {es es' : List MapEntry} {r : Option Nat} {d : TypeDesc} (hd : P.underlying kt = some d) (h : aidx P kt k es 0 = some r) (hk : VR ρ k k') (he : EntsR ρ es es') :
    ∀ w, (Instr.findKey kt k' es').run P w = .ok (found es' 0 r) w := by
  intro w
  unfold Instr.findKey
  simp only [Sem.run_bind, run_underlying hd, Result.andThen_ok]
  cases hn : isNow d with
  | true =>
    have key : ∀ (es es' : List MapEntry) (i : Nat) (r : Option Nat), aidx P kt k es i = some r → EntsR ρ es es' → Instr.findNow d k' es' i = some (found es' i r) := by
      intro es
      induction es with
      | nil =>
        intro es' i r h he
        have : es' = [] := List.length_eq_zero_iff.1 he.1
        subst this
        simp only [aidx, Option.some.injEq] at h
        subst h
        rfl
      | cons e t ih =>
        intro es' i r h he
        obtain ⟨e', t', rfl, h1, h2⟩ := he.cons_inv
        simp only [aidx] at h
        split at h
        · rename_i hq
          simp only [Option.some.injEq] at h
          subst h
          simp only [Instr.findNow, keyEq_now hq hk h1.1 hd hn, found, Nat.sub_self, List.getElem?_cons_zero]
        · rename_i hq
          simp only [Instr.findNow, keyEq_now hq hk h1.1 hd hn, ih t' (i + 1) r h h2]
          congr 1
          cases r with
          | none => rfl
          | some j =>
            have := aidx_ge h
            simp only [found]
            rw [show j - i = (j - (i + 1)) + 1 by omega, List.getElem?_cons_succ]
        · cases h
    rw [key es es' 0 r h he]
    rfl
  | false =>
    have key : ∀ (es es' : List MapEntry) (i : Nat) (r : Option Nat), aidx P kt k es i = some r → EntsR ρ es es' → (Instr.findAsking kt k' es' i).run P w = .ok (found es' i r) w := by
      intro es
      induction es with
      | nil =>
        intro es' i r h he
        have : es' = [] := List.length_eq_zero_iff.1 he.1
        subst this
        simp only [aidx, Option.some.injEq] at h
        subst h
        rfl
      | cons e t ih =>
        intro es' i r h he
        obtain ⟨e', t', rfl, h1, h2⟩ := he.cons_inv
        simp only [aidx] at h
        split at h
        · rename_i hq
          simp only [Option.some.injEq] at h
          subst h
          simp only [Instr.findAsking, Sem.run_bind, keyEq_ask hq hk h1.1 hd hn, Result.andThen_ok, if_true, Sem.run_pure, found, Nat.sub_self, List.getElem?_cons_zero]
        · rename_i hq
          simp only [Instr.findAsking, Sem.run_bind, keyEq_ask hq hk h1.1 hd hn, Result.andThen_ok, Bool.false_eq_true, if_false, ih t' (i + 1) r h h2]
          congr 1
          cases r with
          | none => rfl
          | some j =>
            have := aidx_ge h
            simp only [found]
            rw [show j - i = (j - (i + 1)) + 1 by omega, List.getElem?_cons_succ]
        · cases h
    cases es' with
    | nil =>
      have : es = [] := List.length_eq_zero_iff.1 he.1.symm
      subst this
      simp only [aidx, Option.some.injEq] at h
      subst h
      rfl
    | cons e' t' =>
      have hnow : Instr.findNow d k' (e' :: t') 0 = none := by
        have : Instr.sameNow d k' e'.key = none := by
          cases d <;> first | (simp [isNow] at hn; done) | (cases k' <;> rfl)
        simp only [Instr.findNow, this]
      rw [hnow]
      exact key es _ 0 r h he

end Go.Ev
