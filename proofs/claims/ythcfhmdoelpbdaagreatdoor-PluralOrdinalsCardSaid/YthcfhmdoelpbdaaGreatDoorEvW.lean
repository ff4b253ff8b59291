/- The evaluator's maps: made, looked up, written. -/
import Derived.Test.YthcfhmdoelpbdaaGreatDoorEvV
namespace Go.Ev
set_option linter.unusedVariables false
set_option linter.unusedSimpArgs false
open Go

def amakeMap (P : Program) (H : Heap) (t : TypeId) (r : Option Value) : Option (Value × Heap) :=
  match r with
  | none => some (.map (some H.next), H.push (.map [] 0 true))
  | some (.int _ _) => match P.underlying t with
    | some (.map _ _) => some (.map (some H.next), H.push (.map [] 0 true))
    | _ => none
  | _ => none

theorem amakeMap_ok {P : Program} {NG base : Nat} {ρ : Rho} {H H' : Heap} {w : World} {t : TypeId} {r r' : Option Value} {v : Value} (hr : Rel NG base ρ H w) (hf : ¬ ρ.dom H.next)
    (h : amakeMap P H t r = some (v, H')) (hv : OptR ρ r r') : ∃ v' w' ρ', (Instr.makeMap t r').run P w = .ok v' w' ∧ VR ρ' v v' ∧ Post NG base ρ H H' w w' ρ' := by
  have hpost : ∃ ρ', VR ρ' (.map (some H.next)) (.map (some w.heap.size)) ∧ Post NG base ρ H (H.push (.map [] 0 true)) w (w.alloc (.map #[] 0)) ρ' := by
    refine ⟨ρ.new H.next w.heap.size 0 0 0 true, ?_, Post.alloc hr hf 0 0 0 true ⟨#[], ?_, rfl, by simp⟩⟩
    · have := VR.map (ρ := ρ.new H.next w.heap.size 0 0 0 true) H.next (.inl rfl)
      rw [show (ρ.new H.next w.heap.size 0 0 0 true).blk H.next = w.heap.size from if_pos rfl] at this
      exact this
    · rw [show (ρ.new H.next w.heap.size 0 0 0 true).blk H.next = w.heap.size from if_pos rfl]
      exact heap_alloc_new w _
  obtain ⟨ρ', p1, p2⟩ := hpost
  unfold amakeMap at h
  split at h
  · cases r' with
    | none =>
      simp only [Option.some.injEq, Prod.mk.injEq] at h
      obtain ⟨rfl, rfl⟩ := h
      exact ⟨_, _, ρ', rfl, p1, p2⟩
    | some => exact hv.elim
  · rename_i k n
    cases r' with
    | none => exact hv.elim
    | some x =>
      have hx : VR ρ (.int k n) x := hv
      cases hx
      split at h
      · rename_i a b hu
        simp only [Option.some.injEq, Prod.mk.injEq] at h
        obtain ⟨rfl, rfl⟩ := h
        refine ⟨_, _, ρ', ?_, p1, p2⟩
        simp only [Instr.makeMap, Sem.run_bind, run_underlying hu, Result.andThen_ok, asInt, asIntOf, Sem.run_pure, newObj, Sem.run]
        rfl
      · cases h
  · cases h

/-- May a value be a key? -/
def akeyOk (P : Program) (empty : Bool) (kt : TypeId) (k : Value) : Bool :=
  flat 40 k && (match pureS P (Instr.checkKey empty 10000 kt k) with
    | some () => true
    | none => false)

theorem akeyOk_ok {P : Program} {ρ : Rho} {empty : Bool} {kt : TypeId} {k k' : Value} (h : akeyOk P empty kt k = true) (hk : VR ρ k k') : k' = k ∧ ∀ w, (Instr.checkKey empty 10000 kt k').run P w = .ok () w := by
  unfold akeyOk at h
  simp only [Bool.and_eq_true] at h
  have := flat_eq hk 40 h.1
  subst this
  refine ⟨rfl, fun w => ?_⟩
  have h2 := h.2
  split at h2
  · rename_i hp; exact pureS_run hp w
  · cases h2

def ents (H : Heap) (x : Value) : Option (List MapEntry) :=
  match x with
  | .map none => some []
  | .map (some r) => match look H r with
    | some (.map es _ _) => some es
    | _ => none
  | _ => none

def alookup (P : Program) (H : Heap) (t : TypeId) (x k : Value) (ok : Bool) : Option Value :=
  match P.underlying t with
  | some (.map kt et) => match ents H x with
    | some es => cond (akeyOk P es.isEmpty kt k)
      (match aidx P kt k es 0 with
       | some (some i) => match es[i]? with
         | some e => some (cond ok (.tuple #[e.val, .bool true]) e.val)
         | none => none
       | some none => match zeroOf P et with
         | some z => some (cond ok (.tuple #[z, .bool false]) z)
         | none => none
       | none => none) none
    | none => none
  | _ => none

theorem ents_ok {NG base : Nat} {ρ : Rho} {H : Heap} {w : World} {x x' : Value} {es : List MapEntry} (hr : Rel NG base ρ H w) (h : ents H x = some es) (hx : VR ρ x x') :
    ∃ es' : Array MapEntry, EntsR ρ es es'.toList ∧ ((x' = .map none ∧ es' = #[]) ∨ ∃ r clock, x' = .map (some r) ∧ w.heap[r]? = some (.map es' clock)) := by
  unfold ents at h
  split at h
  · cases hx
    simp only [Option.some.injEq] at h
    subst h
    exact ⟨#[], EntsR.nil ρ, .inl ⟨rfl, rfl⟩⟩
  · split at h
    · rename_i es0 clock wr hl
      simp only [Option.some.injEq] at h
      subst h
      cases hx
      obtain ⟨es', h0, h1, h2⟩ := hr.obj _ _ hl
      exact ⟨es', ⟨by simpa using h1, fun i e e' he he' => h2 i e e' he (by simpa using he')⟩, .inr ⟨_, _, rfl, h0⟩⟩
    · cases h
  · cases h

theorem run_getMap {P : Program} {w : World} {r : Nat} {es : Array MapEntry} {clock : Nat} (h : w.heap[r]? = some (.map es clock)) : (getObj r).run P w = .ok (.map es clock) w := by
  simp [getObj, Sem.run, h]

theorem checkKey_type {P : Program} {empty : Bool} {n : Nat} {kt : TypeId} {k : Value} (h : pureS P (Instr.checkKey empty (n + 1) kt k) = some ()) : ∃ d, P.underlying kt = some d := by
  cases hd : P.underlying kt with
  | some d => exact ⟨d, rfl⟩
  | none =>
    have h1 := pureS_run h default
    have h2 : (underlying kt).run P default = .halt (.stuck "no such type") default := by
      simp only [underlying, program, Sem.run_bind, Sem.run, Result.andThen_ok, hd, stuck]
    simp only [Instr.checkKey, Sem.run_bind, h2] at h1
    cases h1

theorem akeyOk_type {P : Program} {empty : Bool} {kt : TypeId} {k : Value} (h : akeyOk P empty kt k = true) : ∃ d, P.underlying kt = some d := by
  unfold akeyOk at h
  simp only [Bool.and_eq_true] at h
  have h2 := h.2
  split at h2
  · rename_i hp; exact checkKey_type (n := 9999) hp
  · cases h2

theorem EntsR.isEmpty {ρ : Rho} {es : List MapEntry} {es' : Array MapEntry} (h : EntsR ρ es es'.toList) : es'.isEmpty = es.isEmpty := by
  have := h.1
  cases es with
  | nil => simp at this; simp [this]
  | cons x r => simp at this; simp [Array.isEmpty, this]

theorem pair_vr {ρ : Rho} {v v' : Value} (h : VR ρ v v') (b ok : Bool) : VR ρ (cond ok (.tuple #[v, .bool b]) v) (if ok then .tuple #[v', .bool b] else v') := by
  cases ok with
  | true => exact VR.tuple' (VRs.cons h (VRs.cons (.bool _) (VRs.nil ρ)))
  | false => exact h

theorem alookup_ok {P : Program} {NG base : Nat} {ρ : Rho} {H : Heap} {w : World} {t : TypeId} {x x' k k' v : Value} {ok : Bool} (hr : Rel NG base ρ H w) (h : alookup P H t x k ok = some v) (hx : VR ρ x x') (hk : VR ρ k k') :
    ∃ v', VR ρ v v' ∧ (Instr.lookup t x' k' ok).run P w = .ok v' w := by
  unfold alookup at h
  split at h
  · rename_i kt et hu
    split at h
    · rename_i es hes
      cases hko : akeyOk P es.isEmpty kt k with
      | false => rw [hko] at h; cases h
      | true =>
        simp only [hko, cond_true] at h
        obtain ⟨rfl, hck⟩ := akeyOk_ok hko hk
        obtain ⟨es', he, hrun⟩ := ents_ok hr hes hx
        obtain ⟨d, hd⟩ := akeyOk_type hko
        have hrun2 : ∀ v, (Instr.findKey kt k' es'.toList).run P w = .ok v w → (Instr.lookup t x' k' ok).run P w = ((match v with
              | some (_, v) => pure (v, true)
              | none => do pure (← zeroValue et, false) : Sem (Value × Bool)).run P w).andThen fun p w => .ok (if ok then .tuple #[p.1, .bool p.2] else p.1) w := by
          intro v hv
          unfold Instr.lookup
          rw [← he.isEmpty] at hck
          rcases hrun with ⟨rfl, rfl⟩ | ⟨r, clock, rfl, h0⟩
          · simp only [Sem.run_bind, run_underlying hu, Result.andThen_ok, Sem.run_pure, hck, hv]
            cases v <;> simp <;> (cases (zeroValue et).run P w <;> rfl)
          · simp only [Sem.run_bind, run_underlying hu, Result.andThen_ok, run_getMap h0, Sem.run_pure, hck, hv]
            cases v <;> simp <;> (cases (zeroValue et).run P w <;> rfl)
        split at h
        · rename_i i hi
          split at h
          · rename_i e hee
            simp only [Option.some.injEq] at h
            subst h
            obtain ⟨e', he1, he2⟩ := he.get hee
            have hfk := findKey_ok hd hi hk he w
            have hfd : found es'.toList 0 (some i) = some (i, e'.val) := by simp only [found, Nat.sub_zero, he1]
            rw [hfd] at hfk
            refine ⟨_, pair_vr he2.2.1 true ok, ?_⟩
            rw [hrun2 _ hfk]
            rfl
          · cases h
        · rename_i hi
          split at h
          · rename_i z hz
            simp only [Option.some.injEq] at h
            subst h
            have hfk := findKey_ok hd hi hk he w
            refine ⟨_, pair_vr (flat_refl ρ 40 z (zeroOf_spec hz).2) false ok, ?_⟩
            rw [hrun2 _ hfk]
            simp only [found, Sem.run_bind, run_zeroOf hz, Result.andThen_ok, Sem.run_pure]
          · cases h
        · cases h
    · cases h
  · cases h

/-! ### Writing a map -/

theorem run_setMap {P : Program} {w : World} {r : Nat} {es : Array MapEntry} {clock : Nat} {o : Obj} (h : w.heap[r]? = some (.map es clock)) :
    (setObj r o).run P w = .ok () { w with heap := w.heap.setIfInBounds r o } := by
  simp [setObj, Sem.run, h]

def putMap (H : Heap) (r : Nat) (es : List MapEntry) (clock : Nat) (es2 : List MapEntry) (clock2 : Nat) : Heap :=
  H.put r (.map es clock true) (.map es2 clock2 true)

theorem Post.putMap {NG base : Nat} {ρ : Rho} {H : Heap} {w : World} {r : Nat} {es es2 : List MapEntry} {clock clock2 : Nat} {es2' : Array MapEntry} (hr : Rel NG base ρ H w) (hl : look H r = some (.map es clock true)) (hm : H.wmin ≤ r)
    (he : EntsR ρ es2 es2'.toList) : Post NG base ρ H (Ev.putMap H r es clock es2 clock2) w { w with heap := w.heap.setIfInBounds (ρ.blk r) (.map es2' clock2) } ρ := by
  have hlt := (hr.obj r _ hl).lt
  refine Post.write hr hl rfl hm (fun k hk => ?_) (by simp) rfl rfl rfl ⟨es2', ?_, by simpa using he.1, fun i e e' h1 h2 => he.2 i e e' h1 (by simpa using h2)⟩ rfl
  · simp [Array.getElem?_setIfInBounds_ne (fun h => hk h.symm)]
  · simp [hlt]

/-- The entry behind a key gets a value; the key stays as it is written. -/
def amapUpdate (P : Program) (H : Heap) (t : TypeId) (m k v : Value) : Option Heap :=
  match P.underlying t, m with
  | some (.map kt _), .map (some r) => match look H r, P.underlying kt with
    | some (.map es clock true), some _ => cond (Nat.ble H.wmin r && akeyOk P false kt k)
      (match aidx P kt k es 0 with
       | some (some i) => match es[i]? with
         | some e => cond (flat 40 e.key && Instr.sameBits 10000 e.key k) (some (putMap H r es clock (es.modify i fun e => { e with key := k, val := v }) clock)) none
         | none => none
       | some none => some (putMap H r es clock (es ++ [{ key := k, val := v, born := clock }]) (clock + 1))
       | none => none) none
    | _, _ => none
  | _, _ => none

theorem modify_toList (a : Array MapEntry) (i : Nat) (f : MapEntry → MapEntry) : (a.modify i f).toList = a.toList.modify i f := by
  apply List.ext_getElem?
  intro j
  simp [Array.getElem?_modify, List.getElem?_modify]

theorem amapUpdate_ok {P : Program} {NG base : Nat} {ρ : Rho} {H H' : Heap} {w : World} {t : TypeId} {m m' k k' v v' : Value} (hr : Rel NG base ρ H w) (h : amapUpdate P H t m k v = some H') (hm : VR ρ m m') (hk : VR ρ k k') (hv : VR ρ v v') :
    ∃ w', (Instr.mapUpdate t m' k' v').run P w = .ok () w' ∧ Post NG base ρ H H' w w' ρ := by
  unfold amapUpdate at h
  split at h
  · rename_i kt et r hu
    cases hm
    split at h
    · rename_i es clock d hl hd
      cases hc : (Nat.ble H.wmin r && akeyOk P false kt k) with
      | false => rw [hc] at h; cases h
      | true =>
        simp only [hc, cond_true] at h
        simp only [Bool.and_eq_true] at hc
        have hmin := Nat.le_of_ble_eq_true hc.1
        obtain ⟨rfl, hck⟩ := akeyOk_ok hc.2 hk
        obtain ⟨es', h0, h1, h2⟩ := hr.obj r _ hl
        have he : EntsR ρ es es'.toList := ⟨by simpa using h1, fun i e e' a b => h2 i e e' a (by simpa using b)⟩
        split at h
        · rename_i i hi
          split at h
          · rename_i e hee
            cases hsb : (flat 40 e.key && Instr.sameBits 10000 e.key k') with
            | false => rw [hsb] at h; cases h
            | true =>
              simp only [hsb, cond_true, Option.some.injEq] at h
              subst h
              simp only [Bool.and_eq_true] at hsb
              obtain ⟨e', he1, he2⟩ := he.get hee
              have hfk := findKey_ok hd hi hk he w
              have hfd : found es'.toList 0 (some i) = some (i, e'.val) := by simp only [found, Nat.sub_zero, he1]
              rw [hfd] at hfk
              have hkey : e'.key = e.key := flat_eq he2.1 40 hsb.1
              have he3 : es'[i]? = some e' := by simpa using he1
              refine ⟨_, ?_, Post.putMap (es2' := es'.modify i fun e => { e with key := k', val := v' }) hr hl hmin ?_⟩
              · simp only [Instr.mapUpdate, Sem.run_bind, run_underlying hu, Result.andThen_ok, run_getMap h0, hck, hfk, he3, Option.map_some, Option.getD_some, Instr.keyThatStays, hkey, hsb.2, if_true, Sem.run_pure, run_setMap h0]
              · rw [modify_toList]
                exact EntsR.modify (f := fun e => { e with key := k', val := v }) (f' := fun e => { e with key := k', val := v' }) (fun a b hab => ⟨hk, hv, hab.2.2⟩) i he
          · cases h
        · rename_i hi
          simp only [Option.some.injEq] at h
          subst h
          have hfk := findKey_ok hd hi hk he w
          refine ⟨_, ?_, Post.putMap (es2' := es'.push { key := k', val := v', born := clock }) hr hl hmin ?_⟩
          · simp only [Instr.mapUpdate, Sem.run_bind, run_underlying hu, Result.andThen_ok, run_getMap h0, hck, hfk, found, run_setMap h0]
          · rw [Array.toList_push]
            exact he.snoc ⟨hk, hv, rfl⟩
        · cases h
    · cases h
  · cases h

def amapEntry (P : Program) (H : Heap) (t : TypeId) (m k : Value) : Option (Value × Heap) :=
  match P.underlying t, m with
  | some (.map kt et), .map (some r) => match look H r, P.underlying kt with
    | some (.map es clock true), some _ => cond (Nat.ble H.wmin r && akeyOk P false kt k)
      (match aidx P kt k es 0 with
       | some (some i) => match es[i]? with
         | some e => cond (flat 40 e.key && Instr.sameBits 10000 e.key k) (some (.tuple #[e.val, .int .i64 e.born], putMap H r es clock (es.modify i fun e => { e with key := k }) clock)) none
         | none => none
       | some none => match zeroOf P et with
         | some z => some (.tuple #[z, .int .i64 clock], putMap H r es clock (es ++ [{ key := k, val := z, born := clock }]) (clock + 1))
         | none => none
       | none => none) none
    | _, _ => none
  | _, _ => none

theorem amapEntry_ok {P : Program} {NG base : Nat} {ρ : Rho} {H H' : Heap} {w : World} {t : TypeId} {m m' k k' v : Value} (hr : Rel NG base ρ H w) (h : amapEntry P H t m k = some (v, H')) (hm : VR ρ m m') (hk : VR ρ k k') :
    ∃ v' w', (Instr.mapEntry t m' k').run P w = .ok v' w' ∧ VR ρ v v' ∧ Post NG base ρ H H' w w' ρ := by
  unfold amapEntry at h
  split at h
  · rename_i kt et r hu
    cases hm
    split at h
    · rename_i es clock d hl hd
      cases hc : (Nat.ble H.wmin r && akeyOk P false kt k) with
      | false => rw [hc] at h; cases h
      | true =>
        simp only [hc, cond_true] at h
        simp only [Bool.and_eq_true] at hc
        have hmin := Nat.le_of_ble_eq_true hc.1
        obtain ⟨rfl, hck⟩ := akeyOk_ok hc.2 hk
        obtain ⟨es', h0, h1, h2⟩ := hr.obj r _ hl
        have he : EntsR ρ es es'.toList := ⟨by simpa using h1, fun i e e' a b => h2 i e e' a (by simpa using b)⟩
        split at h
        · rename_i i hi
          split at h
          · rename_i e hee
            cases hsb : (flat 40 e.key && Instr.sameBits 10000 e.key k') with
            | false => rw [hsb] at h; cases h
            | true =>
              simp only [hsb, cond_true, Option.some.injEq, Prod.mk.injEq] at h
              obtain ⟨rfl, rfl⟩ := h
              simp only [Bool.and_eq_true] at hsb
              obtain ⟨e', he1, he2⟩ := he.get hee
              have hfk := findKey_ok hd hi hk he w
              have hfd : found es'.toList 0 (some i) = some (i, e'.val) := by simp only [found, Nat.sub_zero, he1]
              rw [hfd] at hfk
              have hkey : e'.key = e.key := flat_eq he2.1 40 hsb.1
              have he3 : es'[i]? = some e' := by simpa using he1
              refine ⟨.tuple #[e'.val, .int .i64 e'.born], _, ?_, ?_, Post.putMap (es2' := es'.modify i fun e => { e with key := k' }) hr hl hmin ?_⟩
              · simp only [Instr.mapEntry, Sem.run_bind, run_underlying hu, Result.andThen_ok, run_getMap h0, hck, hfk, he3, Option.map_some, Option.getD_some, Instr.keyThatStays, hkey, hsb.2, if_true, Sem.run_pure, run_setMap h0, goInt]
              · rw [he2.2.2]
                exact VR.tuple' (VRs.cons he2.2.1 (VRs.cons (.int _ _) (VRs.nil ρ)))
              · rw [modify_toList]
                exact EntsR.modify (f := fun e => { e with key := k' }) (f' := fun e => { e with key := k' }) (fun a b hab => ⟨hk, hab.2.1, hab.2.2⟩) i he
          · cases h
        · rename_i hi
          split at h
          · rename_i z hz
            simp only [Option.some.injEq, Prod.mk.injEq] at h
            obtain ⟨rfl, rfl⟩ := h
            have hfk := findKey_ok hd hi hk he w
            have hzv := flat_refl ρ 40 z (zeroOf_spec hz).2
            refine ⟨_, _, ?_, VR.tuple' (b := #[z, .int .i64 clock]) (VRs.cons hzv (VRs.cons (.int _ _) (VRs.nil ρ))), Post.putMap (es2' := es'.push { key := k', val := z, born := clock }) hr hl hmin ?_⟩
            · simp only [Instr.mapEntry, Sem.run_bind, run_underlying hu, Result.andThen_ok, run_getMap h0, hck, hfk, found, run_zeroOf hz, run_setMap h0, Sem.run_pure, goInt]
            · rw [Array.toList_push]
              exact he.snoc ⟨hk, hzv, rfl⟩
          · cases h
        · cases h
    · cases h
  · cases h

def bornIdx (b : Int) : List MapEntry → Nat → Option Nat
  | [], _ => none
  | e :: r, i => cond ((e.born : Int) == b) (some i) (bornIdx b r (i + 1))

def aentryStore (H : Heap) (m s v : Value) : Option Heap :=
  match m, s with
  | .map (some r), .int _ b => match look H r with
    | some (.map es clock true) => cond (Nat.ble H.wmin r)
      (match bornIdx b es 0 with
       | some i => some (putMap H r es clock (es.modify i fun e => { e with val := v }) clock)
       | none => none) none
    | _ => none
  | _, _ => none

theorem bornIdx_ok {ρ : Rho} {b : Int} : ∀ {es es' : List MapEntry} (i : Nat) {j : Nat}, bornIdx b es i = some j → EntsR ρ es es' → i ≤ j ∧ es'.findIdx? (fun e => (e.born : Int) == b) = some (j - i) := by
  intro es
  induction es with
  | nil => intro es' i j h; simp [bornIdx] at h
  | cons e r ih =>
    intro es' i j h he
    obtain ⟨e', r', rfl, h1, h2⟩ := he.cons_inv
    simp only [bornIdx] at h
    rw [List.findIdx?_cons, h1.2.2]
    cases hb : ((e.born : Int) == b) with
    | true =>
      rw [hb] at h
      simp only [cond_true, Option.some.injEq] at h
      subst h
      simp
    | false =>
      rw [hb] at h
      obtain ⟨q1, q2⟩ := ih (i + 1) h h2
      rw [q2]
      refine ⟨by omega, ?_⟩
      simp
      omega

theorem aentryStore_ok {P : Program} {NG base : Nat} {ρ : Rho} {H H' : Heap} {w : World} {t : TypeId} {m m' s s' v v' : Value} (hr : Rel NG base ρ H w) (h : aentryStore H m s v = some H') (hm : VR ρ m m') (hs : VR ρ s s') (hv : VR ρ v v') :
    ∃ w', (Instr.entryStore t m' s' v').run P w = .ok () w' ∧ Post NG base ρ H H' w w' ρ := by
  unfold aentryStore at h
  split at h
  · rename_i r k b
    cases hm; cases hs
    split at h
    · rename_i es clock hl
      cases hc : Nat.ble H.wmin r with
      | false => rw [hc] at h; cases h
      | true =>
        simp only [hc, cond_true] at h
        have hmin := Nat.le_of_ble_eq_true hc
        split at h
        · rename_i i hi
          simp only [Option.some.injEq] at h
          subst h
          obtain ⟨es', h0, h1, h2⟩ := hr.obj r _ hl
          have he : EntsR ρ es es'.toList := ⟨by simpa using h1, fun i e e' a b => h2 i e e' a (by simpa using b)⟩
          obtain ⟨_, hfi⟩ := bornIdx_ok 0 hi he
          have hfi' : es'.findIdx? (fun e => (e.born : Int) == b) = some i := by
            have e9 : es' = es'.toList.toArray := by simp
            rw [e9, List.findIdx?_toArray]; simpa using hfi
          refine ⟨_, ?_, Post.putMap (es2' := es'.modify i fun e => { e with val := v' }) hr hl hmin ?_⟩
          · simp only [Instr.entryStore, Sem.run_bind, run_getMap h0, Result.andThen_ok, asInt, asIntOf, Sem.run_pure, hfi', run_setMap h0]
          · rw [modify_toList]
            exact EntsR.modify (f := fun e => { e with val := v }) (f' := fun e => { e with val := v' }) (fun a b hab => ⟨hab.1, hv, hab.2.2⟩) i he
        · cases h
    · cases h
  · cases h

def adelete (P : Program) (H : Heap) (ts : List TypeId) (vs : List Value) : Option (Value × Heap) :=
  match ts, vs with
  | t :: _, [.map (some r), k] => match P.underlying t with
    | some (.map kt _) => match look H r, P.underlying kt with
      | some (.map es clock true), some _ => cond (Nat.ble H.wmin r && akeyOk P es.isEmpty kt k)
        (match aidx P kt k es 0 with
         | some (some i) => some (.tuple #[], putMap H r es clock (es.eraseIdx i) clock)
         | some none => some (.tuple #[], putMap H r es clock es clock)
         | none => none) none
      | _, _ => none
    | _ => none
  | _, _ => none

theorem EntsR.eraseIdx {ρ : Rho} : ∀ {l l' : List MapEntry} (i : Nat), EntsR ρ l l' → EntsR ρ (l.eraseIdx i) (l'.eraseIdx i) := by
  intro l
  induction l with
  | nil => intro l' i h; have : l' = [] := List.length_eq_zero_iff.1 h.1; subst this; simpa using EntsR.nil ρ
  | cons x r ih =>
    intro l' i h
    obtain ⟨y, s, rfl, h1, h2⟩ := h.cons_inv
    cases i with
    | zero => simpa using h2
    | succ i => simpa using EntsR.cons h1 (ih i h2)

theorem adelete_ok {P : Program} {NG base : Nat} {ρ : Rho} {H H' : Heap} {w : World} {ts : Array TypeId} {ty : TypeId} {vs : List Value} {args : Array Value} {v : Value} (hr : Rel NG base ρ H w)
    (h : adelete P H ts.toList vs = some (v, H')) (hv : VRs ρ vs args.toList) : ∃ v' w', (Builtin.delete_ ts ty args).run P w = .ok v' w' ∧ VR ρ v v' ∧ Post NG base ρ H H' w w' ρ := by
  unfold adelete at h
  split at h
  · rename_i t rest r k hts
    have ht0 : ts[0]? = some t := by
      have : ts.toList[0]? = some t := by rw [hts]; rfl
      simpa using this
    obtain ⟨m', r1, e1, hm, hr1⟩ := hv.cons_inv
    obtain ⟨k', r2, rfl, hk, hr2⟩ := hr1.cons_inv
    have := hr2.nil_inv
    subst this
    have ea : args = #[m', k'] := by apply Array.ext'; simpa using e1
    subst ea
    cases hm
    split at h
    · rename_i kt et hu
      split at h
      · rename_i es clock d hl hd
        cases hc : (Nat.ble H.wmin r && akeyOk P es.isEmpty kt k) with
        | false => rw [hc] at h; cases h
        | true =>
          simp only [hc, cond_true] at h
          simp only [Bool.and_eq_true] at hc
          have hmin := Nat.le_of_ble_eq_true hc.1
          obtain ⟨rfl, hck⟩ := akeyOk_ok hc.2 hk
          obtain ⟨es', h0, h1, h2⟩ := hr.obj r _ hl
          have he : EntsR ρ es es'.toList := ⟨by simpa using h1, fun i e e' a b => h2 i e e' a (by simpa using b)⟩
          rw [← he.isEmpty] at hck
          split at h
          · rename_i i hi
            simp only [Option.some.injEq, Prod.mk.injEq] at h
            obtain ⟨rfl, rfl⟩ := h
            have hlt := (aidx_ge hi).2
            simp only [Nat.sub_zero] at hlt
            obtain ⟨e', he1, he2⟩ := he.get (List.getElem?_eq_getElem hlt)
            have hfk := findKey_ok hd hi hk he w
            have hfd : found es'.toList 0 (some i) = some (i, e'.val) := by simp only [found, Nat.sub_zero, he1]
            rw [hfd] at hfk
            refine ⟨.tuple #[], _, ?_, VR.undef ρ, Post.putMap (es2' := es'.eraseIdxIfInBounds i) hr hl hmin ?_⟩
            · simp only [Builtin.delete_, ht0, List.getElem?_toArray, List.getElem?_cons_zero, List.getElem?_cons_succ, Sem.run_bind, run_underlying hu, Result.andThen_ok, run_getMap h0, hck, hfk, run_setMap h0, Sem.run_pure]
            · have : (es'.eraseIdxIfInBounds i).toList = es'.toList.eraseIdx i := by
                unfold Array.eraseIdxIfInBounds
                split
                · simp
                · rename_i hh
                  rw [List.eraseIdx_of_length_le (by simp; omega)]
              rw [this]
              exact he.eraseIdx i
          · rename_i hi
            simp only [Option.some.injEq, Prod.mk.injEq] at h
            obtain ⟨rfl, rfl⟩ := h
            have hfk := findKey_ok hd hi hk he w
            refine ⟨.tuple #[], _, ?_, VR.undef ρ, Post.putMap (es2' := es') hr hl hmin he⟩
            simp only [Builtin.delete_, ht0, List.getElem?_toArray, List.getElem?_cons_zero, List.getElem?_cons_succ, Sem.run_bind, run_underlying hu, Result.andThen_ok, run_getMap h0, hck, hfk, found, run_setMap h0, Sem.run_pure]
          · cases h
      · cases h
    · cases h
  · cases h

end Go.Ev
