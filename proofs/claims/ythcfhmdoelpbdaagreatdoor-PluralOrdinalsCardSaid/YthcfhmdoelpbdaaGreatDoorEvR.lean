/- The evaluator's operations that look into no memory: structs, places, and all of them together. -/
import Derived.Test.YthcfhmdoelpbdaaGreatDoorEvQ
import Derived.Laws.Tables
namespace Go.Ev
set_option linter.unusedVariables false
set_option linter.unusedSimpArgs false
open Go

/-! ### Structs -/

def PartsR (ρ : Rho) : List (Nat × Value) → List (Nat × Value) → Prop
  | [], [] => True
  | (i, x) :: r, (j, y) :: s => i = j ∧ VR ρ x y ∧ PartsR ρ r s
  | _, _ => False

def afill (place : Nat → Option (Nat × Nat)) (cs : List Value) : List (Nat × Value) → Option (List Value)
  | [] => some cs
  | (i, v) :: rest => match place i with
    | none => none
    | some (off, size) =>
      cond (Nat.beq v.cells.toList.length size) (cond (Nat.ble (off + size) cs.length) (afill place (cs.take off ++ (v.cells.toList ++ cs.drop (off + size))) rest) none) none

theorem fold_set (off : Nat) : ∀ (vs : List Value) (k : Nat) (cells : Array Value), off + k + vs.length ≤ cells.size →
    ((vs.zipIdx k).foldl (fun cs (x : Value × Nat) => cs.setIfInBounds (off + x.2) x.1) cells).toList = cells.toList.take (off + k) ++ (vs ++ cells.toList.drop (off + k + vs.length)) := by
  intro vs
  induction vs with
  | nil => intro k cells _; simp
  | cons v r ih =>
    intro k cells h
    simp only [List.length_cons] at h
    simp only [List.zipIdx_cons, List.foldl_cons]
    rw [ih (k + 1) _ (by simp; omega)]
    have hlt : off + k < cells.toList.length := by simp; omega
    simp only [Array.toList_setIfInBounds, List.length_cons]
    have hs : cells.toList.set (off + k) v = cells.toList.take (off + k) ++ v :: cells.toList.drop (off + k + 1) := by rw [List.set_eq_take_append_cons_drop, if_pos hlt]
    have hl : (cells.toList.take (off + k)).length = off + k := by rw [List.length_take]; omega
    rw [hs, show off + (k + 1) = off + k + 1 by omega]
    have t1 : ((cells.toList.take (off + k)) ++ v :: cells.toList.drop (off + k + 1)).take (off + k + 1) = cells.toList.take (off + k) ++ [v] := by
      rw [List.take_append, hl, List.take_of_length_le (by rw [hl]; omega), show off + k + 1 - (off + k) = 1 by omega]
      rfl
    have t2 : ((cells.toList.take (off + k)) ++ v :: cells.toList.drop (off + k + 1)).drop (off + k + 1 + r.length) = cells.toList.drop (off + k + (r.length + 1)) := by
      rw [List.drop_append, hl, List.drop_of_length_le (by rw [hl]; omega), List.nil_append, show off + k + 1 + r.length - (off + k) = r.length + 1 by omega, List.drop_succ_cons, List.drop_drop]
      congr 1; omega
    rw [t1, t2, List.append_assoc]
    rfl

theorem afill_ok {ρ : Rho} {place : Nat → Option (Nat × Nat)} : ∀ {ps ps' : List (Nat × Value)} {cs r : List Value} {cs' : Array Value}, afill place cs ps = some r → VRs ρ cs cs'.toList → PartsR ρ ps ps' →
    ∃ r', Instr.fill place cs' ps' = some r' ∧ VRs ρ r r'.toList := by
  intro ps
  induction ps with
  | nil =>
    intro ps' cs r cs' h hc hp
    cases ps' with
    | nil => simp only [afill, Option.some.injEq] at h; subst h; exact ⟨cs', rfl, hc⟩
    | cons => exact hp.elim
  | cons x rest ih =>
    obtain ⟨i, v⟩ := x
    intro ps' cs r cs' h hc hp
    cases ps' with
    | nil => exact hp.elim
    | cons y rest' =>
      obtain ⟨j, v'⟩ := y
      obtain ⟨rfl, hv, hr⟩ := hp
      simp only [afill] at h
      cases hpl : place i with
      | none => simp [hpl] at h
      | some os =>
        obtain ⟨off, size⟩ := os
        simp only [hpl] at h
        have hvc := hv.cells
        cases h1 : Nat.beq v.cells.toList.length size with
        | false => simp only [h1, cond_false] at h; cases h
        | true =>
          cases h2 : Nat.ble (off + size) cs.length with
          | false => simp only [h1, h2, cond_true, cond_false] at h; cases h
          | true =>
            simp only [h1, h2, cond_true] at h
            have e1 := Nat.eq_of_beq_eq_true h1
            have e2 := Nat.le_of_ble_eq_true h2
            have hlen : v'.cells.size = size := by have := hvc.1; simp at this; simp at e1; omega
            have hcl : cs'.size = cs.length := by have := hc.1; simp at this; omega
            have hfold : (v'.cells.zipIdx.foldl (fun cs (x : Value × Nat) => cs.setIfInBounds (off + x.2) x.1) cs').toList = cs'.toList.take off ++ (v'.cells.toList ++ cs'.toList.drop (off + size)) := by
              have := fold_set off v'.cells.toList 0 cs' (by simp; omega)
              rw [← Array.foldl_toList]
              simp only [Nat.add_zero] at this
              rw [Array.toList_zipIdx]
              simpa [hlen] using this
            obtain ⟨r', hf, hr'⟩ := ih (cs' := v'.cells.zipIdx.foldl (fun cs (x : Value × Nat) => cs.setIfInBounds (off + x.2) x.1) cs') h
              (by rw [hfold]; exact (hc.take off).append (hvc.append (hc.drop (off + size)))) hr
            refine ⟨r', ?_, hr'⟩
            simp only [Instr.fill, hpl]
            rw [if_neg (by simp; omega)]
            exact hf

def placesOf (P : Program) : List Field → Option (List (Nat × Nat))
  | [] => some []
  | f :: r => match cellsN P f.type, placesOf P r with
    | some n, some l => some ((f.offset, n) :: l)
    | _, _ => none

theorem placesOf_eq (P : Program) : ∀ fs : List Field, placesOf P fs = fs.mapM (fun f => (P.info? f.type).map fun i => (f.offset, i.size))
  | [] => by simp [placesOf]
  | f :: r => by
    simp only [placesOf, placesOf_eq P r, List.mapM_cons, cellsN]
    cases P.info? f.type <;> simp
    cases (r.mapM fun f => (P.info? f.type).map fun i => (f.offset, i.size)) <;> simp

def zeroOf (P : Program) (t : TypeId) : Option Value := match P.info? t with
  | some i => match i.zero with
    | some z => cond (flat 40 z) (some z) none
    | none => none
  | none => none

def abuild (P : Program) (t : TypeId) (ps : List (Nat × Value)) : Option Value :=
  match zeroOf P t with
  | none => none
  | some z => match P.underlying t with
    | some (.struct fs) => match placesOf P fs.toList with
      | some pl => match afill (pl[·]?) z.cells.toList ps with
        | some r => some (.agg r.toArray)
        | none => none
      | none => none
    | some (.array _ e) => match cellsN P e with
      | some s => match afill (fun i => some (i * s, s)) z.cells.toList ps with
        | some r => some (.agg r.toArray)
        | none => none
      | none => none
    | _ => none

theorem zeroOf_spec {P : Program} {t : TypeId} {z : Value} (h : zeroOf P t = some z) : (∃ i, P.info? t = some i ∧ i.zero = some z) ∧ flat 40 z = true := by
  unfold zeroOf at h
  split at h
  · rename_i i hi
    split at h
    · rename_i z' hz
      cases hf : flat 40 z' with
      | false => simp [hf] at h
      | true => simp only [hf, cond_true, Option.some.injEq] at h; subst h; exact ⟨⟨i, hi, hz⟩, hf⟩
    · cases h
  · cases h

theorem zeroOf_cells {P : Program} {ρ : Rho} {t : TypeId} {z : Value} (h : zeroOf P t = some z) : VRs ρ z.cells.toList z.cells.toList :=
  (flat_refl ρ 40 z (zeroOf_spec h).2).cells

theorem run_zeroOf {P : Program} {t : TypeId} {z : Value} (h : zeroOf P t = some z) (w : World) : (zeroValue t).run P w = .ok z w := by
  obtain ⟨⟨i, hi, hz⟩, _⟩ := zeroOf_spec h
  simp [zeroValue, typeInfo, hi, hz]

theorem abuild_ok {P : Program} {ρ : Rho} {t : TypeId} {ps : List (Nat × Value)} {ps' : Array (Nat × Value)} {v : Value} (h : abuild P t ps = some v) (hp : PartsR ρ ps ps'.toList) :
    ∃ v', VR ρ v v' ∧ ∀ w, (Instr.build t ps').run P w = .ok v' w := by
  unfold abuild at h
  split at h
  · cases h
  · rename_i z hz
    obtain ⟨⟨it, hit, hzz⟩, hfl⟩ := zeroOf_spec hz
    have hzc : VRs ρ z.cells.toList z.cells.toList := zeroOf_cells hz
    split at h
    · rename_i fs hu
      split at h
      · rename_i pl hpl
        split at h
        · rename_i r hr
          simp only [Option.some.injEq] at h
          subst h
          obtain ⟨r', h1, h2⟩ := afill_ok hr hzc hp
          refine ⟨.agg r', VR.agg' (by simpa using h2), fun w => run_build w t ps' r' ?_⟩
          rw [placesOf_eq] at hpl
          simp only [Program.built, hit, hu, hzz, hpl]
          simpa using h1
        · cases h
      · cases h
    · rename_i n e hu
      split at h
      · rename_i s hs
        split at h
        · rename_i r hr
          simp only [Option.some.injEq] at h
          subst h
          obtain ⟨r', h1, h2⟩ := afill_ok hr hzc hp
          refine ⟨.agg r', VR.agg' (by simpa using h2), fun w => run_build w t ps' r' ?_⟩
          unfold cellsN at hs
          cases hie : P.info? e with
          | none => simp [hie] at hs
          | some ie =>
            simp only [hie, Option.map_some, Option.some.injEq] at hs
            subst hs
            simp only [Program.built, hit, hu, hzz, hie]
            exact h1
        · cases h
      · cases h
    · cases h

def afield (P : Program) (t : TypeId) (x : Value) (f : Nat) : Option Value :=
  match P.underlying t, x with
  | some (.struct fs), .agg cs => match fs.toList[f]? with
    | some fd => apart P fd.type cs.toList fd.offset
    | none => none
  | _, _ => none

theorem afield_ok {P : Program} {ρ : Rho} {t : TypeId} {x x' v : Value} {f : Nat} (h : afield P t x f = some v) (hx : VR ρ x x') :
    ∃ v', VR ρ v v' ∧ ∀ w, (Instr.field t x' f).run P w = .ok v' w := by
  unfold afield at h
  split at h
  · rename_i fs cs hu
    obtain ⟨cs', rfl, hcs⟩ := hx.agg_inv
    split at h
    · rename_i fd hfd
      obtain ⟨v', hv, hr⟩ := apart_ok h hcs
      refine ⟨v', hv, fun w => ?_⟩
      have hfd' : fs[f]? = some fd := by simpa using hfd
      simp [Instr.field, run_underlying hu, hfd', asAgg, hr w]
    · cases h
  · cases h

def afieldAddr (P : Program) (t : TypeId) (x : Value) (f : Nat) : Option Value :=
  match P.underlying t, x with
  | some (.struct fs), .pointer (some ⟨b, o, none⟩) => match fs.toList[f]? with
    | some fd => match cellsN P fd.type with
      | some (_ + 1) => some (.pointer (some ⟨b, o + fd.offset, none⟩))
      | _ => none
    | none => none
  | _, _ => none

theorem VR.ptr_inv {ρ : Rho} {b o : Nat} {v : Value} (h : VR ρ (.pointer (some ⟨b, o, none⟩)) v) : v = .pointer (some ⟨ρ.blk b, ρ.off b + o, none⟩) ∧ ρ.dom b := by
  cases h; exact ⟨rfl, by assumption⟩

theorem VR.ptr_add {ρ : Rho} {b : Nat} (h : ρ.dom b) (o n : Nat) : VR ρ (.pointer (some ⟨b, o + n, none⟩)) (.pointer (some ((⟨ρ.blk b, ρ.off b + o, none⟩ : Addr).add n))) := by
  rw [add_none, Nat.add_assoc]; exact .ptr b (o + n) h

theorem afieldAddr_ok {P : Program} {ρ : Rho} {t : TypeId} {x x' v : Value} {f : Nat} (h : afieldAddr P t x f = some v) (hx : VR ρ x x') :
    ∃ v', VR ρ v v' ∧ ∀ w, (Instr.fieldAt t x' f).run P w = .ok v' w := by
  unfold afieldAddr at h
  split at h
  · rename_i fs b o hu
    obtain ⟨rfl, hb⟩ := hx.ptr_inv
    split at h
    · rename_i fd hfd
      split at h
      · rename_i n hn
        simp only [Option.some.injEq] at h
        subst h
        refine ⟨_, VR.ptr_add hb o fd.offset, fun w => ?_⟩
        have hfd' : fs[f]? = some fd := by simpa using hfd
        simp [Instr.fieldAt, run_underlying hu, hfd', Instr.sureAddr, fieldPlace, run_cellsN hn]
      · cases h
    · cases h
  · cases h

def aindexAddr (P : Program) (t : TypeId) (x i : Value) : Option Value :=
  match i with
  | .int _ (.ofNat m) => match P.underlying t, x with
    | some (.slice e), .slice (some ⟨b, o, none⟩) len _ => match cellsN P e with
      | some s => cond (Nat.blt m len) (some (.pointer (some ⟨b, o + m * s, none⟩))) none
      | none => none
    | some (.array len e), .pointer (some ⟨b, o, none⟩) => match cellsN P e with
      | some s => cond (Nat.blt m len) (some (.pointer (some ⟨b, o + m * s, none⟩))) none
      | none => none
    | _, _ => none
  | _ => none

theorem aindexAddr_ok {P : Program} {ρ : Rho} {t : TypeId} {x x' i i' v : Value} (h : aindexAddr P t x i = some v) (hx : VR ρ x x') (hi : VR ρ i i') :
    ∃ v', VR ρ v v' ∧ ∀ w, (Instr.indexAt t x' i').run P w = .ok v' w := by
  unfold aindexAddr at h
  split at h
  · rename_i k m
    cases hi
    split at h
    · rename_i e b o len c hu
      split at h
      · rename_i s hs
        cases hb : Nat.blt m len with
        | false => simp [hb] at h
        | true =>
          simp only [hb, cond_true, Option.some.injEq] at h
          subst h
          have hlt := blt_t hb
          cases hx with
          | slice _ _ _ _ c' hd h1 h2 h3 h4 =>
            refine ⟨_, VR.ptr_add hd o (m * s), fun w => ?_⟩
            have hc : (0 : Int) ≤ (m : Int) ∧ (m : Int) < (len : Int) := by omega
            simp [Instr.indexAt, asIntOf, run_underlying hu, run_cellsN hs, hc]
            intro h9; omega
          | sliceE => omega
      · cases h
    · rename_i len e b o hu
      split at h
      · rename_i s hs
        cases hb : Nat.blt m len with
        | false => simp [hb] at h
        | true =>
          simp only [hb, cond_true, Option.some.injEq] at h
          subst h
          have hlt := blt_t hb
          obtain ⟨rfl, hd⟩ := hx.ptr_inv
          refine ⟨_, VR.ptr_add hd o (m * s), fun w => ?_⟩
          have hc : (0 : Int) ≤ (m : Int) ∧ (m : Int) < (len : Int) := by omega
          simp [Instr.indexAt, asIntOf, run_underlying hu, run_cellsN hs, hc, Instr.sureAddr]
          intro h9; omega
      · cases h
    · cases h
  · cases h

end Go.Ev
