/- The evaluator at this program: in which worlds; contracts it is told. -/
import Derived.Test.YtebkccfnilcfpaaGreatDoorSyCfg
import Derived.Test.YtebkccfnilcfpaaGreatDoorSyIV
import Derived.Shelf.Unicode.DecodeSlow
namespace Go.Proofs.YtebkccfnilcfpaaGreatDoor
set_option linter.unusedVariables false
set_option linter.unusedSimpArgs false
open Go Go.Sy Go.RowKit

def bstr (l : List UInt8) : Value := .string ⟨l.toArray⟩
def vMonths : List Value := monthsTab.map fun z => Value.int .i64 z
def vPow : List Value := Lib.pow10Tab.map fun z => Value.int .u64 z
def vFreqs : List Value := [bstr [68,65,73,76,89], bstr [87,69,69,75,76,89], bstr [77,79,78,84,72,76,89], bstr [89,69,65,82,76,89]]
def vDays : List Value := [bstr [77,79], bstr [84,85], bstr [87,69], bstr [84,72], bstr [70,82], bstr [83,65], bstr [83,85]]

def vars (t1 t2 t3 t4 : TypeId) : List Gv := [(4, t1, vMonths), (5, t2, vPow), (6, t3, vFreqs), (7, t4, vDays)]

theorem vars_ok (t1 t2 t3 t4 : TypeId) : ∀ x ∈ vars t1 t2 t3 t4, x.1 < 20 ∧ x.2.2.all (flat 40) = true := by
  intro x hx
  simp only [vars, List.mem_cons, List.not_mem_nil, or_false] at hx
  rcases hx with rfl | rfl | rfl | rfl
  · exact ⟨by simp, by kernel_rfl⟩
  · exact ⟨by simp, by kernel_rfl⟩
  · exact ⟨by simp, by kernel_rfl⟩
  · exact ⟨by simp, by kernel_rfl⟩

/-- A variable's block, whatever type it bears. -/
def VarIs (w : World) (g : Nat) (cs : List Value) : Prop := ∃ t fr, w.heap[g]? = some (.cells cs.toArray t fr)

def vMany : List Value := ([1, 1, 4, 4, 4, 1, 1, 1, 1, 1, 1, 1, 1, 12, 7, 0, 0, 0, 0] : List Int).map fun z => Value.int .i64 z

/-- What a world holds, for all chapters up to 7. -/
structure Wld (w : World) : Prop where
  months : VarIs w 4 vMonths
  pow : VarIs w 5 vPow
  freqs : VarIs w 6 vFreqs
  days : VarIs w 7 vDays
  mx : ∃ m, w.cell? ⟨3, 0, none⟩ = some (.int .i64 m)
  e1 : ∃ t v, w.cell? ⟨10, 0, none⟩ = some (.iface t v)
  e2 : ∃ t v, w.cell? ⟨11, 0, none⟩ = some (.iface t v)
  many : VarIs w 0 vMany
  u8 : Lib.Utf8Tabs 1 2 w

theorem VarIs.lt {w : World} {g : Nat} {cs : List Value} (h : VarIs w g cs) : g < w.heap.size := by
  obtain ⟨t, fr, h⟩ := h
  exact (Array.getElem?_eq_some_iff.1 h).1

theorem VarIs.below {w w' : World} {g : Nat} {cs : List Value} (h : VarIs w g cs) (hb : Below w.heap.size w w') : VarIs w' g cs := by
  have := h.lt
  obtain ⟨t, fr, h⟩ := h
  exact ⟨t, fr, by rw [hb.block g this]; exact h⟩

theorem cell_lt {w : World} {g : Nat} {v : Value} (h : w.cell? ⟨g, 0, none⟩ = some v) : g < w.heap.size := Nat.lt_of_not_le fun hle => by
  have : (World.cell? w ⟨g, 0, none⟩) = none := by
    unfold World.cell?
    rw [Array.getElem?_eq_none hle]
  rw [this] at h; cases h

theorem cell_keep {base : Nat} {w w' : World} {g : Nat} {v : Value} (h : w.cell? ⟨g, 0, none⟩ = some v) (hg : g < base) (hb : Below base w w') : w'.cell? ⟨g, 0, none⟩ = some v := by
  rw [hb.cell (p := ⟨g, 0, none⟩) hg]; exact h

theorem u8_keep {base g1 g2 : Nat} {w w' : World} (h : Lib.Utf8Tabs g1 g2 w) (h1 : g1 < base) (h2 : g2 < base) (hb : Below base w w') : Lib.Utf8Tabs g1 g2 w' :=
  ⟨fun c hc => by rw [hb.cell (p := ⟨g1, c, none⟩) h1]; exact h.1 c hc, fun i hi => by rw [hb.cell (p := ⟨g2, 2 * i, none⟩) h2, hb.cell (p := ⟨g2, 2 * i + 1, none⟩) h2]; exact h.2 i hi⟩
theorem u8_lt {g1 g2 : Nat} {w : World} (h : Lib.Utf8Tabs g1 g2 w) : g1 < w.heap.size ∧ g2 < w.heap.size := ⟨cell_lt (h.1 0 (by decide)), cell_lt (h.2 0 (by decide)).1⟩

theorem Wld.below {w w' : World} (h : Wld w) (hb : Below w.heap.size w w') : Wld w' := by
  refine ⟨h.months.below hb, h.pow.below hb, h.freqs.below hb, h.days.below hb, ?_, ?_, ?_, h.many.below hb, u8_keep h.u8 (u8_lt h.u8).1 (u8_lt h.u8).2 hb⟩
  · obtain ⟨m, hm⟩ := h.mx; exact ⟨m, cell_keep hm (cell_lt hm) hb⟩
  · obtain ⟨t, v, hm⟩ := h.e1; exact ⟨t, v, cell_keep hm (cell_lt hm) hb⟩
  · obtain ⟨t, v, hm⟩ := h.e2; exact ⟨t, v, cell_keep hm (cell_lt hm) hb⟩

theorem pow_global : Tryz.prog.globalNamed "internal/strconv.uint64pow10" = some 5 := by kernel_rfl
theorem months_global' : Tryz.prog.globalNamed "kalends/civil.months" = some 4 := by kernel_rfl

theorem VarIs.tab {w : World} {g : Nat} {name : String} {k : IntKind} {zs : List Int} (h : VarIs w g (zs.map fun z => Value.int k z)) (hg : Tryz.prog.globalNamed name = some g) : Lib.TabIs Tryz.prog w name k zs := by
  obtain ⟨t, fr, h⟩ := h
  unfold Lib.TabIs World.var?
  rw [hg]
  simp only [Option.bind_some, h]

theorem Wld.std {w : World} (h : Wld w) : Std w := ⟨VarIs.tab (k := .i64) h.months months_global', VarIs.tab (k := .u64) h.pow pow_global⟩

theorem Wld.max {w : World} (h : Wld w) : HasMax w.heap.size w := by
  obtain ⟨m, hm⟩ := h.mx
  exact ⟨cell_lt hm, m, hm⟩

/-! ### Contracts -/

/-- What one function hands back, out of its arguments: their sorts; what must be known of them. -/
structure Ctr where
  f : FuncId
  sorts : List (Option Srt)
  wants : List Value → List (Value × Bool)
  dec : List Value → Option Value
  res : Bool → List Value → Value

def Ctr.run (S : Knw) (c : Ctr) (l : List Value) : Option Value := cond (sortsOk c.sorts l && (c.wants l).all (holds S)) (match wayOf S (c.dec l) with
  | some b => some (c.res b l)
  | none => none) none

def orcL (S : Knw) : List Ctr → FuncId → List Value → Option Value
  | [], _, _ => none
  | c :: r, f, l => cond (Nat.beq f c.f) (c.run S l) (orcL S r f l)

def CtrOk (FN : Fns) (c : Ctr) : Prop := ∀ (S : Knw) args q, S.fns = FN → sortsOk c.sorts args = true → (∀ p ∈ c.wants args, holds S p = true) → wayOf S (c.dec args) = some q → ∀ ρ (args' : Array Value) w, Glob S ρ → VRs ρ args args'.toList → Wld w → (∀ r ∈ S.rowS, RowIn S.rows w.heap.size w r) →
  Calls Tryz.prog c.f args' w fun e w' => ∃ v', e = .returned v' ∧ VR ρ (c.res q args) v' ∧ Below w.heap.size w w'

def WldX (base : Nat) (w : World) : Prop := (4 < base ∧ 5 < base ∧ 6 < base ∧ 7 < base ∧ 3 < base ∧ 10 < base ∧ 11 < base ∧ 0 < base ∧ 1 < base ∧ 2 < base) ∧ Wld w

theorem Wld.x {w : World} (h : Wld w) : WldX w.heap.size w := ⟨⟨h.months.lt, h.pow.lt, h.freqs.lt, h.days.lt, h.max.1, (let ⟨_, _, q⟩ := h.e1; cell_lt q), (let ⟨_, _, q⟩ := h.e2; cell_lt q), h.many.lt, (u8_lt h.u8).1, (u8_lt h.u8).2⟩, h⟩

theorem WldX.below {base : Nat} {w w' : World} (h : WldX base w) (hb : Below base w w') : WldX base w' := by
  obtain ⟨⟨b1, b2, b3, b4, b5, b6, b7, b8, b9, b10⟩, h⟩ := h
  have v : ∀ {g cs}, g < base → VarIs w g cs → VarIs w' g cs := fun {g cs} hg ⟨t, fr, h⟩ => ⟨t, fr, by rw [hb.block g hg]; exact h⟩
  refine ⟨⟨b1, b2, b3, b4, b5, b6, b7, b8, b9, b10⟩, v b1 h.months, v b2 h.pow, v b3 h.freqs, v b4 h.days, ?_, ?_, ?_, v b8 h.many, u8_keep h.u8 b9 b10 hb⟩
  · obtain ⟨m, hm⟩ := h.mx; exact ⟨m, cell_keep hm b5 hb⟩
  · obtain ⟨t, v, hm⟩ := h.e1; exact ⟨t, v, cell_keep hm b6 hb⟩
  · obtain ⟨t, v, hm⟩ := h.e2; exact ⟨t, v, cell_keep hm b7 hb⟩

/-- Which slices are only read: numbers, sorts of an element's cells; what they are. -/
structure RowsK where
  s : List (Nat × List Srt)
  r : RowE

def noRows : RowsK := ⟨[], rows0⟩

def WldR (K : RowsK) (base : Nat) (w : World) : Prop := WldX base w ∧ ∀ r ∈ K.s, RowIn K.r base w r

theorem rowIn_mono {R : RowE} {base base' : Nat} {w : World} {r : Nat × List Srt} (h : RowIn R base w r) (hb : base ≤ base') : RowIn R base' w r := by
  obtain ⟨a, n, c, h1, h2, h3, h4, h5⟩ := h
  refine ⟨a, n, c, h1, h2, h3, fun hn => ?_, h5⟩
  obtain ⟨b, o, ccs, el, fr, e1, e2, e3⟩ := h4 hn
  exact ⟨b, o, ccs, el, fr, e1, by omega, e3⟩

/-! ### Loops -/

/-- What a loop comes to, out of some temporaries; by a truth it may be left in one of two ways. -/
structure LCtr where
  f : FuncId
  p : Nat
  nt : Nat
  ins : List (Nat × Option Srt)
  wants : List Value → List (Value × Bool)
  dec : List Value → Option Value
  outs : Bool → List Value → AEx × List (Nat × Value)
  kills : List Nat

def topV : Value := .func (.methodOf 99 "") #[] #[]

def LCtr.way (S : Knw) (c : LCtr) (l : List Value) : Option Bool := wayOf S (c.dec l)

def LCtr.run (S : Knw) (c : LCtr) (fr : AFr) (H : Heap) : Option (AEx × AFr × Heap) :=
  let l := c.ins.map fun i => fr.tr.get i.1
  cond (Nat.beq fr.n c.nt && fr.marks.isEmpty && sortsOk (c.ins.map (·.2)) l && (c.wants l).all (holds S) && c.kills.all (Nat.blt · c.nt))
    (match c.way S l with
     | some b => cond ((c.outs b l).2.all fun p => Nat.blt p.1 c.nt) (some ((c.outs b l).1, ⟨insT ((c.outs b l).2 ++ c.kills.map fun t => (t, topV)) fr.tr, c.nt, []⟩, H)) none
     | none => none) none

def lorL (S : Knw) : List LCtr → FuncId → Nat → AFr → Heap → Option (AEx × AFr × Heap)
  | [], _, _, _, _ => none
  | c :: r, f, p, fr, H => cond (Nat.beq f c.f && Nat.beq p c.p) (c.run S fr H) (lorL S r f p fr H)

def LCtrOk (FN : Fns) (c : LCtr) : Prop := ∃ fn b c0 k, Tryz.prog.funcs[c.f]? = some fn ∧ fn.body = some b ∧ codeAt b k c.p = some (.loop c0) ∧
  ∀ (S : Knw) args q, S.fns = FN → sortsOk (c.ins.map (·.2)) args = true → (∀ p ∈ c.wants args, holds S p = true) → c.way S args = some q → ∀ ρ a w, Glob S ρ → VRs ρ args (c.ins.map fun i => a.tmps.getD i.1 undef) → Wld w →
    (∀ r ∈ S.rowS, RowIn S.rows w.heap.size w r) → a.tmps.size = c.nt → a.defers = [] → ∀ n, (Code.loop c0).wpIn Fence.wide n Tryz.prog (fun e a' w' => e = (c.outs q args).1.toExit ∧ a'.tmps.size = c.nt ∧ a'.defers = [] ∧
      (∀ p ∈ (c.outs q args).2, VR ρ p.2 (a'.tmps.getD p.1 undef)) ∧ (∀ t, t < c.nt → memb c.kills t = false → hasT (c.outs q args).2 t = false → a'.tmps.getD t undef = a.tmps.getD t undef) ∧ Below w.heap.size w w') a w

def GCtrOk (FN : Fns) (c : GCtr) : Prop := ∀ (S : Knw) args ls vs q, S.fns = FN → c.open_ args = some ls → (∀ p ∈ c.wants vs, holds S p = true) → wayOf S (c.dec vs) = some q → ∀ ρ (args' : Array Value) w, Glob S ρ → VRs ρ args args'.toList → Wld w →
  (∀ l', VRs ρ ls l' → LeafR ρ w c.sorts vs l') → Calls Tryz.prog c.f args' w fun e w' => ∃ v' rs, e = .returned v' ∧ Below w.heap.size w w' ∧ RowsNew ρ w w' (c.rows q vs) rs ∧
    ∀ ρ' nx, Ext ρ ρ' → (∀ (j : Nat) x, rs[j]? = some x → VR ρ' (sv 70 [.int .i64 ((nx + j : Nat) : Int)]) x) → VR ρ' (c.val q vs nx) v'

noncomputable def cfgG (FN : Fns) (K : RowsK) (cs : List Ctr) (gs : List GCtr) (ls : List LCtr) (F : List (Value × Bool)) : Cfg where
  P := Tryz.prog
  NG := ⟨20, F, FN, K.s, K.r⟩
  orc f l := match orcL ⟨20, F, FN, K.s, K.r⟩ cs f l with
    | some v => some v
    | none => orcC f l
  ext := extC
  orcG f args H := orcGL ⟨20, F, FN, K.s, K.r⟩ gs f args H
  keepG f args H r _ h := let ⟨_, _, _, hc⟩ := orcGL_ok h; GCtr.keep hc
  lorc f p fr H := lorL ⟨20, F, FN, K.s, K.r⟩ ls f p fr H
  keepL f p fr H r _ h := by
    have key : ∀ {ls : List LCtr}, lorL ⟨20, F, FN, K.s, K.r⟩ ls f p fr H = some r → r.2.2 = H := by
      intro ls
      induction ls with
      | nil => intro h; cases h
      | cons c l ih =>
        intro h
        simp only [lorL] at h
        cases hb : (Nat.beq f c.f && Nat.beq p c.p) with
        | false => rw [hb] at h; exact ih h
        | true =>
          rw [hb] at h
          simp only [cond_true, LCtr.run] at h
          obtain ⟨_, h⟩ := cond_some' h
          split at h
          · obtain ⟨_, h⟩ := cond_some' h
            cases h; rfl
          · cases h
    rw [key h]
    exact Keep.refl H

/-- Without contracts that speak of slices. -/
noncomputable def cfgS (FN : Fns) (K : RowsK) (cs : List Ctr) (ls : List LCtr) (F : List (Value × Bool)) : Cfg := cfgG FN K cs [] ls F

theorem lorL_ok {FN : Fns} {S : Knw} {f : FuncId} {p : Nat} {fr : AFr} {H : Heap} {r : AEx × AFr × Heap} : ∀ {ls : List LCtr}, (∀ c ∈ ls, LCtrOk FN c) → lorL S ls f p fr H = some r → ∃ c ∈ ls, c.f = f ∧ c.p = p ∧ c.run S fr H = some r
  | [], _, h => by cases h
  | c :: l, hc, h => by
    simp only [lorL] at h
    cases hb : (Nat.beq f c.f && Nat.beq p c.p) with
    | true =>
      rw [hb] at h
      simp only [Bool.and_eq_true] at hb
      exact ⟨c, by simp, (Nat.eq_of_beq_eq_true hb.1).symm, (Nat.eq_of_beq_eq_true hb.2).symm, h⟩
    | false =>
      rw [hb] at h
      obtain ⟨d, hd, h1⟩ := lorL_ok (fun c hc' => hc c (List.mem_cons_of_mem _ hc')) h
      exact ⟨d, List.mem_cons_of_mem _ hd, h1⟩

theorem hasT_find : ∀ {l : List (Nat × Value)} {t : Nat}, (hasT l t = true → ∃ p ∈ l, l.find? (fun p => p.1 == t) = some p ∧ p.1 = t) ∧ (hasT l t = false → l.find? (fun p => p.1 == t) = none)
  | [], t => ⟨fun h => (by cases h), fun _ => rfl⟩
  | (i, v) :: r, t => by
    cases hb : Nat.beq i t with
    | true =>
      have e := Nat.eq_of_beq_eq_true hb
      subst e
      exact ⟨fun _ => ⟨(i, v), by simp, by simp, rfl⟩, fun h => by simp [hasT] at h⟩
    | false =>
      have e := Nat.ne_of_beq_eq_false hb
      obtain ⟨h1, h2⟩ := hasT_find (l := r) (t := t)
      refine ⟨fun h => ?_, fun h => ?_⟩
      · simp only [hasT, hb, cond_false] at h
        obtain ⟨p, hp, hf, he⟩ := h1 h
        exact ⟨p, List.mem_cons_of_mem _ hp, by rw [List.find?_cons_of_neg (by simpa using e)]; exact hf, he⟩
      · simp only [hasT, hb, cond_false] at h
        rw [List.find?_cons_of_neg (by simpa using e)]; exact h2 h

theorem kills_find (v : Value) : ∀ {l : List Nat} {t : Nat}, (memb l t = true → ∃ z, (l.map fun t => (t, v)).find? (fun p => p.1 == t) = some z ∧ z.2 = v) ∧ (memb l t = false → (l.map fun t => (t, v)).find? (fun p => p.1 == t) = none)
  | [], t => ⟨fun h => (by cases h), fun _ => rfl⟩
  | y :: l, t => by
    cases hb : Nat.beq y t with
    | true => exact ⟨fun _ => ⟨(y, v), by simp [Nat.eq_of_beq_eq_true hb], rfl⟩, fun h => by simp [memb, hb] at h⟩
    | false =>
      obtain ⟨h1, h2⟩ := kills_find v (l := l) (t := t)
      have e : y ≠ t := Nat.ne_of_beq_eq_false hb
      refine ⟨fun h => ?_, fun h => ?_⟩
      · simp only [memb, hb, cond_false] at h
        rw [List.map_cons, List.find?_cons_of_neg (by simpa using e)]; exact h1 h
      · simp only [memb, hb, cond_false] at h
        rw [List.map_cons, List.find?_cons_of_neg (by simpa using e)]; exact h2 h

theorem LCtr.sndH {C : Cfg} {FN : Fns} {K : RowsK} {F : List (Value × Bool)} {X : World → Prop} {base : Nat} (hCP : C.P = Tryz.prog) (hCN : C.NG = ⟨20, F, FN, K.s, K.r⟩) (hX : ∀ w, X w → WldR K base w) {c : LCtr} (hc : LCtrOk FN c) {fr : AFr} {H : Heap} {r : AEx × AFr × Heap} {c1 : Code}
    (hl : ∃ fn b k, Tryz.prog.funcs[c.f]? = some fn ∧ fn.body = some b ∧ codeAt b k c.p = some (.loop c1)) (h : c.run ⟨20, F, FN, K.s, K.r⟩ fr H = some r) : SndCode C X base none (.loop c1) fr H r := by
  obtain ⟨fn, b, c0, k, h1, h2, h3, h4⟩ := hc
  obtain ⟨fn', b', k', g1, g2, g3⟩ := hl
  rw [h1] at g1
  cases g1
  rw [h2] at g2
  cases g2
  have hcc := codeAt_one h3 g3
  cases hcc
  intro ρ a w lim n hrel hK hfr hroom hlim _
  rw [hCN] at hrel ⊢
  rw [hCP]
  simp only [LCtr.run] at h
  obtain ⟨hb, h⟩ := cond_some' h
  simp only [Bool.and_eq_true] at hb
  obtain ⟨⟨⟨⟨b1, b2⟩, b3⟩, b4⟩, b5⟩ := hb
  split at h
  · rename_i q hq
    obtain ⟨b6, h⟩ := cond_some' h
    cases h
    have hn := Nat.eq_of_beq_eq_true b1
    have hmk : fr.marks = [] := by
      cases hmm : fr.marks with
      | nil => rfl
      | cons => rw [hmm] at b2; cases b2
    have hd : a.defers = [] := by rw [hfr.defers, hmk]; rfl
    have hvs : VRs ρ (c.ins.map fun i => fr.tr.get i.1) (c.ins.map fun i => a.tmps.getD i.1 undef) := by
      refine ⟨by simp, fun i x y hx hy => ?_⟩
      rw [List.getElem?_map] at hx hy
      cases hi : c.ins[i]? with
      | none => rw [hi] at hx; cases hx
      | some z => rw [hi] at hx hy; cases hx; cases hy; exact hfr.get z.1
    have hw := hX w hK
    refine wpIn_mono (h4 ⟨20, F, FN, K.s, K.r⟩ _ q rfl b3 (List.all_eq_true.1 b4) hq ρ a w hrel.glob hvs hw.1.2 (fun r hr => rowIn_mono (hw.2 r hr) hrel.hb) (by rw [hfr.size, hn]) hd n) fun e a' w' ⟨p1, p2, p3, p4, p5, p6⟩ => ⟨p1, ρ, ?_, Post.quiet hrel p6⟩
    have hsm : c.nt ≤ 1000000 := by rw [← hn]; exact hfr.small
    generalize hos : (c.outs q (c.ins.map fun i => fr.tr.get i.1)) = os at *
    have hget : ∀ t, (insT (os.2 ++ c.kills.map fun t => (t, topV)) fr.tr).get t = match (os.2 ++ c.kills.map fun t => (t, topV)).find? (fun p => p.1 == t) with | some p => p.2 | none => fr.tr.get t := fun t => insT_get' hsm fun p hp => by
      rcases List.mem_append.1 hp with hp | hp
      · exact blt_t (List.all_eq_true.1 b6 p hp)
      · obtain ⟨t, ht, rfl⟩ := List.mem_map.1 hp
        exact blt_t (List.all_eq_true.1 b5 t ht)
    refine ⟨p2, hsm, fun t v' hv' => ?_, fun t ht => ?_, by rw [p3]; rfl, by intro r hr; cases hr⟩
    · have hlt : t < c.nt := by rw [← p2]; exact (Array.getElem?_eq_some_iff.1 hv').1
      have hg : a'.tmps.getD t undef = v' := by rw [Array.getD_eq_getD_getElem?, hv']; rfl
      show VR ρ ((insT (os.2 ++ c.kills.map fun t => (t, topV)) fr.tr).get t) v'
      rw [hget, List.find?_append]
      cases ho : hasT os.2 t with
      | true =>
        obtain ⟨p, hp, hf, he⟩ := hasT_find.1 ho
        rw [hf]
        have := p4 p hp
        rw [he, hg] at this
        exact this
      | false =>
        rw [hasT_find.2 ho]
        cases hk : memb c.kills t with
        | true =>
          obtain ⟨z, hz, hz2⟩ := (kills_find topV).1 hk
          rw [hz]
          simp only [Option.none_or, hz2]
          exact .top _ _ _ _
        | false =>
          rw [(kills_find topV).2 hk]
          have := hfr.get t
          rw [← p5 t hlt hk ho, hg] at this
          exact this
    · have ht' : c.nt ≤ t := ht
      show (insT (os.2 ++ c.kills.map fun t => (t, topV)) fr.tr).get t = undef
      rw [hget]
      split
      · rename_i p hp
        have h1 := List.mem_of_find?_eq_some hp
        have h2 := List.find?_some hp
        simp only [beq_iff_eq] at h2
        rcases List.mem_append.1 h1 with hp | hp
        · have := blt_t (List.all_eq_true.1 b6 p hp); omega
        · obtain ⟨t', ht2, rfl⟩ := List.mem_map.1 hp
          have := blt_t (List.all_eq_true.1 b5 t' ht2)
          simp only at h2
          omega
      · exact hfr.out t (by omega)
  · cases h

theorem LCtr.snd {FN : Fns} {K : RowsK} {cs : List Ctr} {gs : List GCtr} {ls : List LCtr} {F : List (Value × Bool)} {X : World → Prop} {base : Nat} (hX : ∀ w, X w → WldR K base w) {c : LCtr} (hc : LCtrOk FN c) {fr : AFr} {H : Heap} {r : AEx × AFr × Heap} {c1 : Code}
    (hl : LocOk (cfgG FN K cs gs ls F) (some (c.f, c.p)) (.loop c1)) (h : c.run ⟨20, F, FN, K.s, K.r⟩ fr H = some r) : SndCode (cfgG FN K cs gs ls F) X base none (.loop c1) fr H r := by
  obtain ⟨fn', b', k', g1, g2, g3⟩ := hl
  exact LCtr.sndH rfl rfl hX hc ⟨fn', b', k', g1, g2, g3⟩ h

theorem orcL_ok {FN : Fns} {S : Knw} : ∀ {cs : List Ctr}, (∀ c ∈ cs, CtrOk FN c) → ∀ {f args v}, orcL S cs f args = some v → ∃ c ∈ cs, c.f = f ∧ c.run S args = some v
  | [], _, _, _, _, h => by cases h
  | c :: r, hc, f, args, v, h => by
    simp only [orcL] at h
    cases hq : Nat.beq f c.f with
    | true => rw [hq] at h; exact ⟨c, by simp, (Nat.eq_of_beq_eq_true hq).symm, h⟩
    | false =>
      rw [hq] at h
      obtain ⟨d, hd, h1, h2⟩ := orcL_ok (fun c hc' => hc c (List.mem_cons_of_mem _ hc')) h
      exact ⟨d, List.mem_cons_of_mem _ hd, h1, h2⟩

theorem goodG {FN : Fns} {K : RowsK} {cs : List Ctr} {gs : List GCtr} {ls : List LCtr} (hc : ∀ c ∈ cs, CtrOk FN c) (hgs : ∀ c ∈ gs, GCtrOk FN c) (hls : ∀ c ∈ ls, LCtrOk FN c) (hv : ∀ r ∈ K.s, RowV (K.r.v r.1)) (t1 t2 t3 t4 : TypeId) (F : List (Value × Bool)) : Go.Sy.Good (cfgG FN K cs gs ls F) (vars t1 t2 t3 t4) (WldR K) := by
  refine ⟨fun base w w' h hb => ⟨h.1.below hb, fun r hr => (h.2 r hr).below hb⟩, fun base w h => (let ⟨_, _, hm⟩ := h.1.2.months; Nat.zero_lt_of_lt (Array.getElem?_eq_some_iff.1 hm).1), by kernel_rfl, vars_ok t1 t2 t3 t4, fun f args v h ρ args' w base g hv hw hX hb => ?_, fun f args H r h base => ?_, extC_ok, hv, fun w base hX => hX.2, fun base f p fr H r c hl hr => ?_⟩
  · have h' : (match orcL ⟨20, F, FN, K.s, K.r⟩ cs f args with | some v => some v | none => orcC f args) = some v := h
    split at h'
    · rename_i u hu
      cases h'
      obtain ⟨c, h1, rfl, h3⟩ := orcL_ok hc hu
      unfold Ctr.run at h3
      obtain ⟨h4, h3⟩ := cond_some' h3
      simp only [Bool.and_eq_true, List.all_eq_true] at h4
      split at h3
      · rename_i q hq
        cases h3
        exact hc c h1 ⟨20, F, FN, K.s, K.r⟩ args q rfl h4.1 h4.2 hq ρ args' w g hv hX.1.2 (fun r hr => rowIn_mono (hX.2 r hr) hb)
      · cases h3
    · obtain ⟨h1, h2, h3⟩ := orcC_ok f args v h'
      exact orc_flat h1 h2 (h3 w w.heap.size hX.1.2.max) hv
  · obtain ⟨c, hc1, rfl, hrun⟩ := orcGL_ok (cs := gs) h
    exact GCtr.snd (C := cfgG FN K cs gs ls F) (fun w hw => hw.2.2) hrun fun ls vs q h1 h2 h3 ρ args' w g hv hK hl => hgs c hc1 ⟨20, F, FN, K.s, K.r⟩ args ls vs q rfl h1 h2 h3 ρ args' w g hv hK.2.1.2 hl
  · obtain ⟨d, hd, rfl, rfl, hrun⟩ := lorL_ok hls hr
    exact LCtr.snd (X := Kof (vars t1 t2 t3 t4) (WldR K) base) (fun w hw => hw.2) (hls d hd) hl hrun

theorem goodS {FN : Fns} {K : RowsK} {cs : List Ctr} {ls : List LCtr} (hc : ∀ c ∈ cs, CtrOk FN c) (hls : ∀ c ∈ ls, LCtrOk FN c) (hv : ∀ r ∈ K.s, RowV (K.r.v r.1)) (t1 t2 t3 t4 : TypeId) (F : List (Value × Bool)) : Go.Sy.Good (cfgS FN K cs ls F) (vars t1 t2 t3 t4) (WldR K) :=
  goodG hc (by intro c h; cases h) hls hv t1 t2 t3 t4 F

theorem Wld.gv {w : World} (h : Wld w) : ∃ t1 t2 t3 t4, ∀ x ∈ vars t1 t2 t3 t4, GvOk w x := by
  obtain ⟨t1, f1, h1⟩ := h.months
  obtain ⟨t2, f2, h2⟩ := h.pow
  obtain ⟨t3, f3, h3⟩ := h.freqs
  obtain ⟨t4, f4, h4⟩ := h.days
  refine ⟨t1, t2, t3, t4, fun x hx => ?_⟩
  simp only [vars, List.mem_cons, List.not_mem_nil, or_false] at hx
  rcases hx with rfl | rfl | rfl | rfl
  · exact ⟨f1, h1⟩
  · exact ⟨f2, h2⟩
  · exact ⟨f3, h3⟩
  · exact ⟨f4, h4⟩

theorem rowIn_v {R : RowE} {base : Nat} {w : World} {r : Nat × List Srt} (h : RowIn R base w r) : RowV (R.v r.1) := by
  obtain ⟨a, n, c, h1, h2, h3, h4, _⟩ := h
  refine ⟨a, n, c, h1, fun hn => ?_⟩
  obtain ⟨b, o, ccs, el, fr, e1, e2, e3⟩ := h4 hn
  exact ⟨b, o, e1⟩

/-- What a function hands back, its decisions told by a tree; contracts speak of slices. -/
theorem tree_g {FN : Fns} {K : RowsK} {cs : List Ctr} {gs : List GCtr} {ls : List LCtr} (hc : ∀ c ∈ cs, CtrOk FN c) (hgs : ∀ c ∈ gs, GCtrOk FN c) (hls : ∀ c ∈ ls, LCtrOk FN c) {f : FuncId} {args : List Value} {T : Tree} {F0 : List (Value × Bool)}
    (h : ∀ t1 t2 t3 t4, T.ok (fun F => (arun (cfgG FN K cs gs ls F) 1000 f args (heapOf 20 (vars t1 t2 t3 t4))).map (·.1)) F0 = true) {E : Env} (hE : FactsOk E F0) (hF : E.fns = FN) (hR : E.rows = K.r) {u : Value} (hu : T.val E = some u) {args' : Array Value}
    (ha : ∀ ρ : Rho, ρ.env = E → VRs ρ args args'.toList) {w : World} (hs : Wld w) (hrow : ∀ r ∈ K.s, RowIn K.r w.heap.size w r) :
    Calls Tryz.prog f args' w fun e w' => e = .returned u ∧ Below w.heap.size w w' := by
  obtain ⟨t1, t2, t3, t4, hw⟩ := hs.gv
  exact run_tree (C := cfgG FN K cs gs ls) (fun _ => rfl) (fun _ => rfl) (fun F => goodG hc hgs hls (fun r hr => rowIn_v (hrow r hr)) t1 t2 t3 t4 F) (h t1 t2 t3 t4) hE hF hR hu ha hw ⟨hs.x, hrow⟩

/-- What a function hands back, its decisions told by a tree; some slices are only read; some loops are told. -/
theorem tree_loops {FN : Fns} {K : RowsK} {cs : List Ctr} {ls : List LCtr} (hc : ∀ c ∈ cs, CtrOk FN c) (hls : ∀ c ∈ ls, LCtrOk FN c) {f : FuncId} {args : List Value} {T : Tree} {F0 : List (Value × Bool)}
    (h : ∀ t1 t2 t3 t4, T.ok (fun F => (arun (cfgS FN K cs ls F) 1000 f args (heapOf 20 (vars t1 t2 t3 t4))).map (·.1)) F0 = true) {E : Env} (hE : FactsOk E F0) (hF : E.fns = FN) (hR : E.rows = K.r) {u : Value} (hu : T.val E = some u) {args' : Array Value}
    (ha : ∀ ρ : Rho, ρ.env = E → VRs ρ args args'.toList) {w : World} (hs : Wld w) (hrow : ∀ r ∈ K.s, RowIn K.r w.heap.size w r) :
    Calls Tryz.prog f args' w fun e w' => e = .returned u ∧ Below w.heap.size w w' := by
  obtain ⟨t1, t2, t3, t4, hw⟩ := hs.gv
  exact run_tree (C := cfgS FN K cs ls) (fun _ => rfl) (fun _ => rfl) (fun F => goodS hc hls (fun r hr => rowIn_v (hrow r hr)) t1 t2 t3 t4 F) (h t1 t2 t3 t4) hE hF hR hu ha hw ⟨hs.x, hrow⟩

/-- What a function hands back, its decisions told by a tree; some slices are only read. -/
theorem tree_rows {FN : Fns} {K : RowsK} {cs : List Ctr} (hc : ∀ c ∈ cs, CtrOk FN c) {f : FuncId} {args : List Value} {T : Tree} {F0 : List (Value × Bool)}
    (h : ∀ t1 t2 t3 t4, T.ok (fun F => (arun (cfgS FN K cs [] F) 1000 f args (heapOf 20 (vars t1 t2 t3 t4))).map (·.1)) F0 = true) {E : Env} (hE : FactsOk E F0) (hF : E.fns = FN) (hR : E.rows = K.r) {u : Value} (hu : T.val E = some u) {args' : Array Value}
    (ha : ∀ ρ : Rho, ρ.env = E → VRs ρ args args'.toList) {w : World} (hs : Wld w) (hrow : ∀ r ∈ K.s, RowIn K.r w.heap.size w r) :
    Calls Tryz.prog f args' w fun e w' => e = .returned u ∧ Below w.heap.size w w' :=
  tree_loops (ls := []) hc (by intro c h; cases h) h hE hF hR hu ha hs hrow

/-- What a function hands back, its decisions told by a tree. -/
theorem tree_any {FN : Fns} {cs : List Ctr} (hc : ∀ c ∈ cs, CtrOk FN c) {f : FuncId} {args : List Value} {T : Tree} {F0 : List (Value × Bool)}
    (h : ∀ t1 t2 t3 t4, T.ok (fun F => (arun (cfgS FN noRows cs [] F) 1000 f args (heapOf 20 (vars t1 t2 t3 t4))).map (·.1)) F0 = true) {E : Env} (hE : FactsOk E F0) (hF : E.fns = FN) (hR : E.rows = rows0) {u : Value} (hu : T.val E = some u) {args' : Array Value}
    (ha : ∀ ρ : Rho, ρ.env = E → VRs ρ args args'.toList) {w : World} (hs : Wld w) :
    Calls Tryz.prog f args' w fun e w' => e = .returned u ∧ Below w.heap.size w w' :=
  tree_rows (K := noRows) hc h hE hF hR hu ha hs fun r hr => by cases hr

/-! ### A loop, by its rounds -/

/-- What is asked of a loop's round: a tree of decisions out of a frame of which some temporaries are known; from state to state, or out. -/
structure Round (FN : Fns) (K : RowsK) (nt : Nat) (ins : List (Nat × Value)) (kills : List Nat) (T : CTree) (F0 : List (Value × Bool)) (σ : Type) where
  env : (Nat → Value) → σ → Env
  st : σ → List (Nat × Value)
  Inv : σ → Prop
  μ : σ → Nat
  fin : σ → AEx × List (Nat × Value)
  facts : ∀ V s, Inv s → FactsOk (env V s) F0
  base : ∀ V s, (env V s).fns = FN ∧ (env V s).rows = K.r ∧ (env V s).val = V
  keys : ∀ s t, hasT (st s) t = hasT ins t
  vals : ∀ V s, Inv s → ∀ p ∈ ins, ∀ ρ : Rho, ρ.env = env V s → ∃ v, (p.1, v) ∈ st s ∧ VR ρ p.2 v
  step : ∀ V s, Inv s → ∃ ex outs, T.val (env V s) = some (ex, outs) ∧ (∀ t, hasT outs t = hasT ins t) ∧
    ((ex = .normal ∧ ∃ s', Inv s' ∧ μ s' < μ s ∧ fin s' = fin s ∧ outs = st s') ∨ (ex ≠ .normal ∧ fin s = (ex, outs)))

theorem round_loop {FN : Fns} {K : RowsK} {cs : List Ctr} {ls : List LCtr} (hc : ∀ c ∈ cs, CtrOk FN c) (hls : ∀ c ∈ ls, LCtrOk FN c) {f : FuncId} {p k : Nat} {fn : Func} {b c0 : Code} (hfn : Tryz.prog.funcs[f]? = some fn) (hb : fn.body = some b) (hcode : codeAt b k p = some (.loop c0))
    {nt : Nat} {ins : List (Nat × Value)} {kills : List Nat} {T : CTree} {F0 : List (Value × Bool)} (hn : nt < 100000) (hi : ∀ p ∈ ins, p.1 < nt)
    (h : ∀ t1 t2 t3 t4, T.ok (fun F => ev (cfgS FN K cs ls F) 1000 (some (f, 2 * p)) none c0 (frCan nt ins) (heapOf 20 (vars t1 t2 t3 t4))) nt kills F0 = true)
    {σ : Type} (R : Round FN K nt ins kills T F0 σ) {s : σ} (hI : R.Inv s) {a : Act} {w : World} (hsz : a.tmps.size = nt) (hd : a.defers = []) (hst : ∀ p ∈ R.st s, a.tmps.getD p.1 undef = p.2) (hw : Wld w) (hrow : ∀ r ∈ K.s, RowIn K.r w.heap.size w r) (n : Nat) :
    (Code.loop c0).wpIn Fence.wide n Tryz.prog (fun e a' w' => e = (R.fin s).1.toExit ∧ a'.tmps.size = nt ∧ a'.defers = [] ∧ (∀ p ∈ (R.fin s).2, a'.tmps.getD p.1 undef = p.2) ∧
      (∀ t, t < nt → memb kills t = false → hasT ins t = false → a'.tmps.getD t undef = a.tmps.getD t undef) ∧ Below w.heap.size w w') a w := by
  refine wpIn_loop_rounds (R.μ s + 1) ?_
  have key : ∀ (m : Nat) (s' : σ) (a' : Act) (w' : World), R.μ s' < m → R.Inv s' → R.fin s' = R.fin s → a'.tmps.size = nt → a'.defers = [] → (∀ p ∈ R.st s', a'.tmps.getD p.1 undef = p.2) →
      (∀ t, t < nt → memb kills t = false → hasT ins t = false → a'.tmps.getD t undef = a.tmps.getD t undef) → Below w.heap.size w w' →
      Code.roundsIn Fence.wide n Tryz.prog c0 (fun e a' w' => e = (R.fin s).1.toExit ∧ a'.tmps.size = nt ∧ a'.defers = [] ∧ (∀ p ∈ (R.fin s).2, a'.tmps.getD p.1 undef = p.2) ∧
        (∀ t, t < nt → memb kills t = false → hasT ins t = false → a'.tmps.getD t undef = a.tmps.getD t undef) ∧ Below w.heap.size w w') m a' w' := by
    intro m
    induction m with
    | zero => intro s' a' w' h0; omega
    | succ m ih =>
      intro s' a' w' hμ hI' hfin hsz' hd' hst' hun hbw
      rw [roundsIn_succ]
      have hw' := hw.below hbw
      have hrow' : ∀ r ∈ K.s, RowIn K.r w'.heap.size w' r := fun r hr => rowIn_mono ((hrow r hr).below hbw) hbw.size
      obtain ⟨t1, t2, t3, t4, hgv⟩ := hw'.gv
      obtain ⟨e1, e2, e3⟩ := R.base (fun t => a'.tmps.getD t undef) s'
      obtain ⟨ex, outs, hT, hkeys, hnext⟩ := R.step (fun t => a'.tmps.getD t undef) s' hI'
      refine wpIn_mono (run_ctree (C := cfgS FN K cs ls) (fun _ => rfl) (fun _ => rfl) (fun F => goodS hc hls (fun r hr => rowIn_v (hrow' r hr)) t1 t2 t3 t4 F) (loc := some (f, 2 * p)) (fun F => ⟨fn, b, k + 1, hfn, hb, codeAt_sub (i := 0) hcode (by decide) rfl⟩) hn hi (h t1 t2 t3 t4)
        (R.facts _ s' hI') e1 e2 hT hsz' hd' (fun t => by rw [e3]) (fun p hp ρ hρ => ?_) hgv ⟨hw'.x, hrow'⟩ n) ?_
      · obtain ⟨v, hv1, hv2⟩ := R.vals _ s' hI' p hp ρ hρ
        rw [hst' _ hv1]; exact hv2
      · intro e a2 w2 ⟨q1, q2, q3, q4, q5, q6⟩
        have hbw2 : Below w.heap.size w w2 := hbw.trans (q6.mono hbw.size)
        have hun2 : ∀ t, t < nt → memb kills t = false → hasT ins t = false → a2.tmps.getD t undef = a.tmps.getD t undef := fun t ht hk ho => by
          rw [q5 t ht hk (by rw [hkeys]; exact ho)]; exact hun t ht hk ho
        rcases hnext with ⟨rfl, s2, h1, h2, h3, rfl⟩ | ⟨hne, hf⟩
        · subst q1
          exact ih s2 a2 w2 (by omega) h1 (h3.trans hfin) q2 q3 q4 hun2 hbw2
        · have hfe : R.fin s = (ex, outs) := by rw [← hfin, hf]
          rw [hfe]
          cases ex with
          | normal => exact absurd rfl hne
          | ret => subst q1; exact ⟨rfl, q2, q3, q4, hun2, hbw2⟩
          | exit id => subst q1; exact ⟨rfl, q2, q3, q4, hun2, hbw2⟩
  exact key _ s a w (Nat.lt_succ_self _) hI rfl hsz hd hst (fun _ _ _ _ => rfl) (Below.refl _ _)

/-! ### A loop in a function's code -/

def unloop : Option Code → Code
  | some (.loop c) => c
  | _ => .skip

noncomputable def loopAt (f : FuncId) (p : Nat) : Code := match Tryz.prog.funcs[f]? with
  | some fn => match fn.body with
    | some b => unloop (codeAt b 200 p)
    | none => .skip
  | none => .skip

noncomputable def isLoop (f : FuncId) (p : Nat) : Bool := match Tryz.prog.funcs[f]? with
  | some fn => match fn.body with
    | some b => match codeAt b 200 p with
      | some (.loop _) => true
      | _ => false
    | none => false
  | none => false

theorem loop_at {f : FuncId} {p : Nat} (h : isLoop f p = true) : ∃ fn b k, Tryz.prog.funcs[f]? = some fn ∧ fn.body = some b ∧ codeAt b k p = some (.loop (loopAt f p)) := by
  unfold isLoop at h
  unfold loopAt
  split at h
  · rename_i fn hfn
    split at h
    · rename_i b hb
      split at h
      · rename_i c hc
        refine ⟨fn, b, 200, hfn, hb, ?_⟩
        simp only [hfn, hb, hc, unloop]
      · cases h
    · cases h
  · cases h

end Go.Proofs.YtebkccfnilcfpaaGreatDoor
