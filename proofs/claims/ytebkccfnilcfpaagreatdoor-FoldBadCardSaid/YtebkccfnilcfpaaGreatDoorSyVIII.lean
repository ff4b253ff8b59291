/- Contracts that speak of memory: of loops, of functions. -/
import Derived.Test.YtebkccfnilcfpaaGreatDoorSyVII
namespace Go.Sy
set_option linter.unusedVariables false
set_option linter.unusedSimpArgs false
open Go Go.RowKit

/-- Operations whose meaning names nothing. -/
def pureOp : Nat → Bool
  | 0 | 1 | 2 | 3 | 9 | 16 | 60 | 61 | 62 | 64 | 70 | 80 | 98 | 99 => false
  | _ => true

theorem interp_congr {E E' : Env} (hf : E.fns = E'.fns) {t : Nat} (h : pureOp t = true) (vs : List Value) : interp E t vs = interp E' t vs := by
  unfold interp
  split <;> first | rfl | (simp [pureOp] at h; done) | simp only [hf]

def instV (nt : Nat) (θ : List Value) : Nat → Value → Option Value
  | 0, _ => none
  | n + 1, e => match e with
    | .int k m => some (.int k m)
    | .bool b => some (.bool b)
    | .string s => some (.string s)
    | .func (.methodOf t _) ks _ => match t, ks.toList with
      | 0, [.int k (.ofNat l)] => match θ[l]? with
        | some e => cond (decide (sortOf e = some (.int k))) (some e) none
        | none => none
      | 1, [.int _ (.ofNat l)] => match θ[l]? with
        | some e => cond (decide (sortOf e = some .bool)) (some e) none
        | none => none
      | 2, [.int _ (.ofNat l)] => match θ[l]? with
        | some e => cond (decide (sortOf e = some .str)) (some e) none
        | none => none
      | 98, [.int _ (.ofNat l)] => cond (Nat.ble 1000000 l) θ[l - 1000000]? none
      | t, ks => cond (pureOp t) (match plugL (instV nt θ n) ks with
        | some l => some (sv t l)
        | none => none) none
    | .agg ps => match plugL (instV nt θ n) ps.toList with
      | some l => some (.agg l.toArray)
      | none => none
    | .tuple ps => match plugL (instV nt θ n) ps.toList with
      | some l => some (.tuple l.toArray)
      | none => none
    | _ => none

theorem inst_ok {FN : Fns} {V : Nat → Value} {nt : Nat} {ls θ : List Value} {ρ : Rho} (hF : ρ.env.fns = FN) (hlen : θ.length = ls.length) (hl : ∀ (l : Nat) e u, θ[l]? = some e → ls[l]? = some u → VR ρ e u) :
    ∀ {n m : Nat} {e a v : Value}, instV nt θ n e = some a → den (envL FN V nt ls) m e = some v → VR ρ a v := by
  have leaf : ∀ {l : Nat} {e : Value}, θ[l]? = some e → ∃ u, ls[l]? = some u ∧ VR ρ e u := fun {l e} he => by
    have hl' : l < ls.length := by rw [← hlen]; exact (List.getElem?_eq_some_iff.1 he).1
    exact ⟨_, List.getElem?_eq_getElem hl', hl l e _ he (List.getElem?_eq_getElem hl')⟩
  have lit : ∀ {m : Nat} {k : IntKind} {z : Int} {vs : List Value}, denL (den (envL FN V nt ls) m) [.int k z] = some vs → vs = [.int k z] := fun {m k z vs} h => by
    cases m with
    | zero => simp [denL, den] at h
    | succ m => simpa [denL, den] using h.symm
  intro n
  induction n with
  | zero => intro m e a v h; cases h
  | succ n ih =>
    intro m e a v h hd
    cases m with
    | zero => cases hd
    | succ m =>
      have lst : ∀ {ps l vs : List Value}, plugL (instV nt θ n) ps = some l → denL (den (envL FN V nt ls) m) ps = some vs → VRs ρ l vs := fun {ps l vs} hp hv => by
        obtain ⟨e1, e2⟩ := plugL_get hp
        obtain ⟨f1, f2⟩ := denL_length hv
        refine ⟨by rw [f1, e1], fun i x y hx hy => ?_⟩
        have hi : i < ps.length := by rw [e1]; exact (List.getElem?_eq_some_iff.1 hx).1
        obtain ⟨a, ha, hf⟩ := e2 i _ (List.getElem?_eq_getElem hi)
        obtain ⟨u, hu, hg⟩ := f2 i _ (List.getElem?_eq_getElem hi)
        rw [hx] at ha
        cases ha
        rw [hy] at hu
        cases hu
        exact ih hf hg
      simp only [instV] at h
      split at h
      · cases h; cases hd; exact .int _ _
      · cases h; cases hd; exact .bool _
      · cases h; cases hd; exact .string _
      · rename_i t nm ks c
        simp only [den] at hd
        split at hd
        · rename_i vs hvs
          split at h
          · rename_i k l hks
            split at h
            · rename_i e hθ
              obtain ⟨hs, h⟩ := cond_some' h
              cases h
              obtain ⟨u, hu, huv⟩ := leaf hθ
              obtain ⟨q, rfl⟩ := HasS.of (of_decide_eq_true hs) huv
              rw [hks] at hvs
              rw [lit hvs] at hd
              simp only [interp, envL, show (Int.ofNat l).toNat = l from rfl, hu, Option.some.injEq] at hd
              rw [← hd]; exact huv
            · cases h
          · rename_i k l hks
            split at h
            · rename_i e hθ
              obtain ⟨hs, h⟩ := cond_some' h
              cases h
              obtain ⟨u, hu, huv⟩ := leaf hθ
              obtain ⟨q, rfl⟩ := HasS.of (of_decide_eq_true hs) huv
              rw [hks] at hvs
              rw [lit hvs] at hd
              simp only [interp, envL, show (Int.ofNat l).toNat = l from rfl, hu, Option.some.injEq] at hd
              rw [← hd]; exact huv
            · cases h
          · rename_i k l hks
            split at h
            · rename_i e hθ
              obtain ⟨hs, h⟩ := cond_some' h
              cases h
              obtain ⟨u, hu, huv⟩ := leaf hθ
              obtain ⟨q, rfl⟩ := HasS.of (of_decide_eq_true hs) huv
              rw [hks] at hvs
              rw [lit hvs] at hd
              simp only [interp, envL, show (Int.ofNat l).toNat = l from rfl, hu, Option.some.injEq] at hd
              rw [← hd]; exact huv
            · cases h
          · rename_i k l hks
            cases hle : Nat.ble 1000000 l with
            | false => rw [hle] at h; cases h
            | true =>
              rw [hle] at h
              simp only [cond_true] at h
              have hle := Nat.le_of_ble_eq_true hle
              obtain ⟨u, hu, huv⟩ := leaf h
              rw [hks] at hvs
              rw [lit hvs] at hd
              simp only [interp, envL, show (Int.ofNat l).toNat = l from rfl, Option.some.injEq] at hd
              rw [if_neg (by omega), List.getD_eq_getElem?_getD, hu] at hd
              simp only [Option.getD_some] at hd
              rw [← hd]; exact huv
          · obtain ⟨hp, h⟩ := cond_some' h
            split at h
            · rename_i l hl'
              cases h
              exact sv_vr (lst hl' hvs) (by rw [interp_congr (E' := envL FN V nt ls) (by rw [hF]; rfl) hp]; exact hd)
            · cases h
        · cases hd
      · split at h
        · rename_i l hl'
          cases h
          simp only [den] at hd
          split at hd
          · rename_i vs hvs
            cases hd
            exact VR.agg' (by simpa using lst hl' hvs)
          · cases hd
        · cases h
      · split at h
        · rename_i l hl'
          cases h
          simp only [den] at hd
          split at hd
          · rename_i vs hvs
            cases hd
            exact VR.tuple' (by simpa using lst hl' hvs)
          · cases hd
        · cases h
      · cases h

/-- An expression without names: its value. -/
def closedOp : Nat → Bool
  | 4 | 5 | 6 | 7 | 81 => false
  | t => pureOp t

def closedV : Nat → Value → Bool
  | 0, _ => false
  | n + 1, e => match e with
    | .int _ _ => true
    | .bool _ => true
    | .string _ => true
    | .func (.methodOf t _) ks _ => closedOp t && ks.toList.all (closedV n)
    | .agg ks => ks.toList.all (closedV n)
    | _ => false

theorem interp_closed {E E' : Env} {t : Nat} (h : closedOp t = true) (vs : List Value) : interp E t vs = interp E' t vs := by
  unfold interp
  split <;> first | rfl | (simp [closedOp, pureOp] at h; done)

theorem closed_vr {E : Env} {ρ : Rho} : ∀ {n m : Nat} {e u v : Value}, closedV n e = true → den E m e = some u → VR ρ e v → v = u := by
  intro n
  induction n with
  | zero => intro m e u v h; cases h
  | succ n ih =>
    intro m e u v h hd hv
    cases m with
    | zero => cases hd
    | succ m =>
      have lst : ∀ {ks vs us : List Value}, ks.all (closedV n) = true → denL (den E m) ks = some us → VRs ρ ks vs → vs = us := by
        intro ks
        induction ks with
        | nil => intro vs us _ h1 h2; cases h1; rw [h2.nil_inv]
        | cons k ks ih2 =>
          intro vs us h h1 h2
          obtain ⟨y, r, rfl, b1, b2⟩ := h2.cons_inv
          simp only [List.all_cons, Bool.and_eq_true] at h
          simp only [denL] at h1
          split at h1
          · rename_i v0 l0 g1 g2
            cases h1
            rw [ih h.1 g1 b1, ih2 h.2 g2 b2]
          · cases h1
      simp only [closedV] at h
      split at h
      · cases hd; cases hv; rfl
      · cases hd; cases hv; rfl
      · cases hd; cases hv; rfl
      · rename_i t nm ks c
        simp only [Bool.and_eq_true] at h
        have h99 : t ≠ 99 := fun e => by rw [e] at h; simp [closedOp, pureOp] at h
        have h70 : t ≠ 70 := fun e => by rw [e] at h; simp [closedOp, pureOp] at h
        obtain ⟨vs, a1, a2⟩ := hv.sym_invL h99 h70
        simp only [den] at hd
        split at hd
        · rename_i us hus
          rw [lst h.2 hus a1, interp_closed (E' := E) h.1, hd] at a2
          exact (Option.some.inj a2).symm
        · cases hd
      · obtain ⟨b, rfl, h1⟩ := hv.agg_inv
        simp only [den] at hd
        split at hd
        · rename_i us hus
          cases hd
          rw [← lst h hus h1]
        · cases hd
      · cases h

/-- The truth of an expression, if it is known. -/
def knownT (S : Knw) (a : Value) : Option Bool :=
  match truth S a with
  | some b => some b
  | none => cond (closedV 40 a) (match den (env0 fns0 rows0) 40 a with
    | some (.bool b) => some b
    | _ => none) none

theorem knownT_vr {S : Knw} {ρ : Rho} (g : Glob S ρ) {a v : Value} {b : Bool} (h : knownT S a = some b) (hv : VR ρ a v) : v = .bool b := by
  unfold knownT at h
  split at h
  · rename_i q hq
    cases h
    exact truth_vr g hq hv
  · obtain ⟨hc, h⟩ := cond_some' h
    split at h
    · rename_i q hq
      cases h
      exact closed_vr hc hq hv
    · cases h

/-- What is asked is known. -/
def wantsOk (S : Knw) (nt : Nat) (θ : List Value) (ws : List (Value × Bool)) : Bool := ws.all fun p => match instV nt θ 40 p.1 with
  | some a => decide (knownT S a = some p.2)
  | none => false

def wayC (S : Knw) (nt : Nat) (θ : List Value) : Option Value → Option Bool
  | none => some true
  | some e => match instV nt θ 40 e with
    | some a => knownT S a
    | none => none

/-- What is asked, in the pattern's own names. -/
def Asked (E : Env) (ws : List (Value × Bool)) (d : Option Value) (q : Bool) : Prop := (∀ p ∈ ws, ∀ v, den E 40 p.1 = some v → v = .bool p.2) ∧ ∀ e, d = some e → ∀ v, den E 40 e = some v → v = .bool q

theorem asked_ok {S : Knw} {FN : Fns} {V : Nat → Value} {nt : Nat} {ls θ : List Value} {ρ : Rho} (g : Glob S ρ) (hF : ρ.env.fns = FN) (hlen : θ.length = ls.length) (hl : ∀ (l : Nat) e u, θ[l]? = some e → ls[l]? = some u → VR ρ e u) {ws : List (Value × Bool)} {d : Option Value} {q : Bool}
    (h1 : wantsOk S nt θ ws = true) (h2 : wayC S nt θ d = some q) : Asked (envL FN V nt ls) ws d q := by
  refine ⟨fun p hp v hv => ?_, fun e he v hv => ?_⟩
  · have := List.all_eq_true.1 h1 p hp
    split at this
    · rename_i a ha
      exact knownT_vr g (of_decide_eq_true this) (inst_ok hF hlen hl ha hv)
    · cases this
  · subst he
    simp only [wayC] at h2
    split at h2
    · rename_i a ha
      exact knownT_vr g h2 (inst_ok hF hlen hl ha hv)
    · cases h2

theorem instL_ok {FN : Fns} {V : Nat → Value} {nt : Nat} {ls θ : List Value} {ρ : Rho} (hF : ρ.env.fns = FN) (hlen : θ.length = ls.length) (hl : ∀ (l : Nat) e u, θ[l]? = some e → ls[l]? = some u → VR ρ e u) {es as vs : List Value} (h : plugL (instV nt θ 40) es = some as) (hd : denL (den (envL FN V nt ls) 40) es = some vs) : VRs ρ as vs := by
  obtain ⟨e1, e2⟩ := plugL_get h
  obtain ⟨f1, f2⟩ := denL_length hd
  refine ⟨by rw [f1, e1], fun i x y hx hy => ?_⟩
  have hi : i < es.length := by rw [e1]; exact (List.getElem?_eq_some_iff.1 hx).1
  obtain ⟨a, ha, hf⟩ := e2 i _ (List.getElem?_eq_getElem hi)
  obtain ⟨u, hu, hg⟩ := f2 i _ (List.getElem?_eq_getElem hi)
  rw [hx] at ha
  cases ha
  rw [hy] at hu
  cases hu
  exact inst_ok hF hlen hl hf hg

theorem keep_putOut {N nb : Nat} {objs : List PObj} {ns : List Nat} {H : Heap} {out : POut} {θ : List Value} {x : List (Nat × Nat)} {y : List (Nat × Value)} (hm : matOs N H objs ns = some (x, y)) {r : List Value × Heap} (h : putOut N nb objs ns H out θ = some r) : Keep H r.2 := by
  unfold putOut at h
  simp only at h
  split at h
  · rename_i vs0 os h1 h2
    obtain ⟨hc, h⟩ := cond_some' h
    cases h
    simp only [Bool.and_eq_true, List.all_eq_true] at hc
    obtain ⟨len, mo⟩ := matOs_ok hm
    have hk : ∀ {l : List (PObj × Nat)} {G : Heap}, Keep G (killP H l G) := by
      intro l
      induction l with
      | nil => intro G; exact Keep.refl _
      | cons p r ih =>
        intro G
        obtain ⟨o, b⟩ := p
        simp only [killP]
        cases o.wr with
        | false => exact ih
        | true => exact Keep.only.trans ih
    have hps : ∀ {l : List AObj} {G : Heap}, Keep G (pushes l G) := by
      intro l
      induction l with
      | nil => intro G; exact Keep.refl _
      | cons p r ih => intro G; exact (Keep.push _ _).trans ih
    obtain ⟨kp1, kp2, kp3⟩ := killP_plain (H0 := H) (l := objs.zip ns) (H := H)
    obtain ⟨pp1, pp2, pp3⟩ := putP_plain (l := (ns.take nb).zip (os.take nb)) (H := killP H (objs.zip ns) H)
    have hbox : ∀ b o, (b, o) ∈ (ns.take nb).zip (os.take nb) → H.wmin ≤ b ∧ ∃ ob, look H b = some ob := fun b o hb => by
      obtain ⟨i, hi⟩ := List.getElem?_of_mem hb
      rw [List.getElem?_zip_eq_some] at hi
      obtain ⟨i3, i4⟩ := getElem?_take' hi.1
      have hio : i < objs.length := by rw [len]; exact (List.getElem?_eq_some_iff.1 i4).1
      obtain ⟨c, _, _, g1, g2, _⟩ := mo i objs[i] (List.getElem?_eq_getElem hio)
      rw [i4] at g1
      cases g1
      obtain ⟨ob, k1, k2, _⟩ := matO_look g2
      have hw : objs[i].wr = true := hc.1.2 _ (List.mem_of_getElem? (i := i) (by rw [List.getElem?_take, if_pos i3]; exact List.getElem?_eq_getElem hio))
      exact ⟨(k2 hw).2.1, ob, k1⟩
    refine Keep.trans ?_ hps
    have k1 : Keep H (killP H (objs.zip ns) H) := hk
    refine ⟨by rw [pp1]; exact k1.next, by rw [pp2]; exact k1.wmin, by rw [pp3]; exact k1.hide, fun hw b o hb hl => ?_, fun b o hb hl => ?_⟩
    · have hl' : look (putP ((ns.take nb).zip (os.take nb)) { killP H (objs.zip ns) H with hide := [] }) b = some o := by
        have e : ∀ {l : List (Nat × AObj)} {G : Heap}, putP l { G with hide := [] } = { putP l G with hide := [] } := by
          intro l
          induction l with
          | nil => intro G; rfl
          | cons p r ih => intro G; exact ih (G := G.put p.1 p.2 p.2)
        rw [e]; exact hl
      rcases putP_look hl' with h3 | h3
      · have := (hbox b o h3).1; omega
      · exact k1.keep hw b o hb h3
    · have hl' : look (putP ((ns.take nb).zip (os.take nb)) { killP H (objs.zip ns) H with hide := [] }) b = some o := by
        have e : ∀ {l : List (Nat × AObj)} {G : Heap}, putP l { G with hide := [] } = { putP l G with hide := [] } := by
          intro l
          induction l with
          | nil => intro G; rfl
          | cons p r ih => intro G; exact ih (G := G.put p.1 p.2 p.2)
        rw [e]; exact hl
      rcases putP_look hl' with h3 | h3
      · obtain ⟨_, ob, h4⟩ := hbox b o h3
        exact ⟨ob, look0_of h4⟩
      · exact k1.top b o (by rw [← pp1]; exact hb) h3
  · cases h

/-! ### Loops -/

structure HLCtr where
  f : FuncId
  p : Nat
  nt : Nat
  nb : Nat
  nl : Nat
  ins : List (Nat × Value)
  objs : List PObj
  srts : List (Option Srt)
  wants : List (Value × Bool)
  dec : Option Value
  ex : Bool → AEx
  tmps : Bool → List Nat
  out : Bool → POut
  kills : List Nat

def topW : Value := .func (.methodOf 99 "") #[] #[]

def HLCtr.run (S : Knw) (c : HLCtr) (fr : AFr) (H : Heap) : Option (AEx × AFr × Heap) :=
  cond (Nat.beq fr.n c.nt && fr.marks.isEmpty && c.kills.all (Nat.blt · c.nt))
    (match takeP S S.n c.nl (c.ins.map (·.2)) c.objs (c.ins.map fun i => fr.tr.get i.1) H with
     | some (_, H1, ns, θ) => cond (sortsOk c.srts θ && wantsOk S c.nt θ c.wants) (match wayC S c.nt θ c.dec with
       | some q => match plugL (instV c.nt θ 40) (c.out q).exprs with
         | some θq => match putOut S.n c.nb c.objs ns H1 (c.out q) θq with
           | some (vs, H2) => cond ((c.tmps q).all (Nat.blt · c.nt) && Nat.beq (c.tmps q).length vs.length)
             (some (c.ex q, ⟨insT ((c.tmps q).zip vs ++ c.kills.map fun t => (t, topW)) fr.tr, c.nt, []⟩, H2)) none
           | none => none
         | none => none
       | none => none) none
     | none => none) none

theorem HLCtr.keep {S : Knw} {c : HLCtr} {fr : AFr} {H : Heap} {r : AEx × AFr × Heap} (h : c.run S fr H = some r) : Keep H r.2.2 := by
  unfold HLCtr.run at h
  obtain ⟨_, h⟩ := cond_some' h
  split at h
  · rename_i acts H1 ns θ ht
    obtain ⟨_, h⟩ := cond_some' h
    split at h
    · split at h
      · split at h
        · rename_i vs H2 hp
          obtain ⟨_, h⟩ := cond_some' h
          cases h
          obtain ⟨f, k, _⟩ := takeP_ok ht
          obtain ⟨⟨x1, y1, x, y, _, m2, _⟩, _⟩ := f
          exact k.trans (keep_putOut m2 hp)
        · cases h
      · cases h
    · cases h
  · cases h

/-- The sorts of leaves. -/
def LeafS (srts : List (Option Srt)) (ls : List Value) : Prop := ∀ (l : Nat) S v, srts[l]? = some (some S) → ls[l]? = some v → HasS S v

theorem leafS_ok {ρ : Rho} : ∀ {srts : List (Option Srt)} {θ ls : List Value}, sortsOk srts θ = true → VRs ρ θ ls → LeafS srts ls
  | [], _, _, _, _, l, S, v, h, _ => by simp at h
  | s :: r, [], _, h, _, _, _, _, _, _ => by simp [sortsOk] at h
  | s :: r, e :: θ, ls, h, hv, l, S, v, hS, hl => by
    obtain ⟨u, us, rfl, h1, h2⟩ := hv.cons_inv
    have hh : (s = none ∨ sortOf e = s) ∧ sortsOk r θ = true := by
      cases s with
      | none => simp only [sortsOk] at h; exact ⟨.inl rfl, by first | exact h | (simp only [Bool.and_eq_true] at h; exact h.2)⟩
      | some s => simp only [sortsOk, Bool.and_eq_true, decide_eq_true_eq] at h; exact ⟨.inr h.1, h.2⟩
    cases l with
    | zero =>
      simp only [List.getElem?_cons_zero, Option.some.injEq] at hS hl
      subst hl
      rcases hh.1 with h3 | h3
      · rw [h3] at hS; cases hS
      · exact HasS.of (h3.trans hS) h1
    | succ l => exact leafS_ok hh.2 h2 l S v (by simpa using hS) (by simpa using hl)

/-- What a loop does, told by names. -/
def HLSem (P : Program) (N : Nat) (gv : List Gv) (K : World → Prop) (base : Nat) (FN : Fns) (c : HLCtr) (c0 : Code) : Prop :=
  ∀ (V : Nat → Value) (ls : List Value) (ρ : Rho) (a : Act) (w : World) (q : Bool), K w → ls.length = c.nl → LeafS c.srts ls → ρ.env = envL FN V c.nt ls → (∀ b, ρ.dom b → b < N + c.objs.length) → Rel ⟨N, [], FN, [], rows0⟩ base ρ (canH c.nt (heapOf N gv) c.objs) w →
    VRs ρ (c.ins.map (·.2)) (c.ins.map fun i => a.tmps.getD i.1 undef) → a.tmps.size = c.nt → a.defers = [] → (∀ t, t < c.nt → V t = a.tmps.getD t undef) → Asked ρ.env c.wants c.dec q → ∀ n, (Code.loop c0).wpIn Fence.wide n P (fun e a' w' =>
      e = (c.ex q).toExit ∧ a'.tmps.size = c.nt ∧ a'.defers = [] ∧ (∃ V' lf ρf, ρf.env = envL FN V' c.nt lf ∧ Rel ⟨N, [], FN, [], rows0⟩ base ρf (canH c.nt (heapOf N gv) (c.out q).objs) w' ∧ VRs ρf (c.out q).vals ((c.tmps q).map fun t => a'.tmps.getD t undef) ∧
        denL (den ρ.env 40) (c.out q).exprs = some lf ∧ PEff N c.nb base ρ ρf c.objs (c.out q).objs w w') ∧
      (∀ t, t < c.nt → memb c.kills t = false → memb (c.tmps q) t = false → a'.tmps.getD t undef = a.tmps.getD t undef)) a w

theorem zip_find : ∀ {l : List Nat} {vs : List Value} {t : Nat}, l.length = vs.length → (memb l t = true → ∃ (i : Nat) (v : Value), l[i]? = some t ∧ vs[i]? = some v ∧ (l.zip vs).find? (fun p => p.1 == t) = some (t, v)) ∧ (memb l t = false → (l.zip vs).find? (fun p => p.1 == t) = none)
  | [], vs, t, _ => ⟨fun h => (by cases h), fun _ => (by simp)⟩
  | x :: l, [], t, h => by simp at h
  | x :: l, v :: vs, t, h => by
    obtain ⟨h1, h2⟩ := zip_find (l := l) (vs := vs) (t := t) (by simpa using h)
    cases hb : Nat.beq x t with
    | true =>
      have e := Nat.eq_of_beq_eq_true hb
      subst e
      exact ⟨fun _ => ⟨0, v, rfl, rfl, by simp⟩, fun hh => by simp [memb] at hh⟩
    | false =>
      have e := Nat.ne_of_beq_eq_false hb
      refine ⟨fun hh => ?_, fun hh => ?_⟩
      · simp only [memb, hb, cond_false] at hh
        obtain ⟨i, u, g1, g2, g3⟩ := h1 hh
        exact ⟨i + 1, u, by simpa using g1, by simpa using g2, by rw [List.zip_cons_cons, List.find?_cons_of_neg (by simpa using e)]; exact g3⟩
      · simp only [memb, hb, cond_false] at hh
        rw [List.zip_cons_cons, List.find?_cons_of_neg (by simpa using e)]; exact h2 hh

theorem kills_find' (v : Value) : ∀ {l : List Nat} {t : Nat}, (memb l t = true → ∃ z, (l.map fun t => (t, v)).find? (fun p => p.1 == t) = some z ∧ z.2 = v) ∧ (memb l t = false → (l.map fun t => (t, v)).find? (fun p => p.1 == t) = none)
  | [], t => ⟨fun h => (by cases h), fun _ => rfl⟩
  | y :: l, t => by
    cases hb : Nat.beq y t with
    | true => exact ⟨fun _ => ⟨(y, v), by simp [Nat.eq_of_beq_eq_true hb], rfl⟩, fun h => by simp [memb, hb] at h⟩
    | false =>
      obtain ⟨h1, h2⟩ := kills_find' v (l := l) (t := t)
      have e : y ≠ t := Nat.ne_of_beq_eq_false hb
      refine ⟨fun h => ?_, fun h => ?_⟩
      · simp only [memb, hb, cond_false] at h
        rw [List.map_cons, List.find?_cons_of_neg (by simpa using e)]; exact h1 h
      · simp only [memb, hb, cond_false] at h
        rw [List.map_cons, List.find?_cons_of_neg (by simpa using e)]; exact h2 h

theorem HLCtr.snd {C : Cfg} {K : World → Prop} {base : Nat} {gv : List Gv} (hgv : ∀ x ∈ gv, x.1 < C.NG.n ∧ x.2.2.all (flat 40) = true) (hKw : ∀ w, K w → ∀ x ∈ gv, x.1 < base ∧ GvOk w x) (hin : ∀ w, K w → ∀ r ∈ C.NG.rowS, RowIn C.NG.rows base w r) {c : HLCtr} {c1 : Code}
    (hsem : HLSem C.P C.NG.n gv K base C.NG.fns c c1) {fr : AFr} {H : Heap} {r : AEx × AFr × Heap} (h : c.run C.NG fr H = some r) : SndCode C K base none (.loop c1) fr H r := by
  intro ρ a w lim n hrel hK hfr hroom hlim _
  unfold HLCtr.run at h
  obtain ⟨hb, h⟩ := cond_some' h
  simp only [Bool.and_eq_true] at hb
  obtain ⟨⟨b1, b2⟩, b3⟩ := hb
  split at h
  · rename_i acts H1 ns θ ht
    obtain ⟨hsw, h⟩ := cond_some' h
    simp only [Bool.and_eq_true] at hsw
    obtain ⟨hsorts, hwants⟩ := hsw
    split at h
    · rename_i q hway
      split at h
      · rename_i θq hθq
        split at h
        · rename_i vs H2 hp
          obtain ⟨b4, h⟩ := cond_some' h
          cases h
          simp only [Bool.and_eq_true] at b4
          have b5 := Nat.eq_of_beq_eq_true b4.2
          have hn := Nat.eq_of_beq_eq_true b1
          have hmk : fr.marks = [] := by
            cases hmm : fr.marks with
            | nil => rfl
            | cons => rw [hmm] at b2; cases b2
          have hd : a.defers = [] := by rw [hfr.defers, hmk]; rfl
          have hvs : VRs ρ (c.ins.map fun i => fr.tr.get i.1) (c.ins.map fun i => a.tmps.getD i.1 undef) := by
            refine ⟨by simp, fun i x y hx hy => ?_⟩
            rw [List.getElem?_map] at hx hy
            cases hi : c.ins[i]? with
            | none => rw [hi] at hx; cases hx
            | some z => rw [hi] at hx hy; cases hx; cases hy; exact hfr.get z.1
          obtain ⟨f, k1, htk⟩ := takeP_ok ht
          have k2 : Keep H1 H2 := by
            obtain ⟨⟨x1, y1, x, y, _, m2, _⟩, _⟩ := f
            exact keep_putOut m2 hp
          have hlim2 : H2.next ≤ lim := Nat.le_of_lt hlim
          obtain ⟨ρ1, p1, v1⟩ := htk hrel (hin w hK) hroom.free (Nat.le_trans k2.next hlim2) hvs
          obtain ⟨ls, l1, l2, l3, l4, l5, l6⟩ := f.can p1.rel v1 C.NG.fns (fun t => a.tmps.getD t undef) c.nt hgv (hKw w hK)
          have hF1 : ρ1.env.fns = C.NG.fns := p1.rel.glob.fns
          have hlen : θ.length = ls.length := by rw [l1]; exact f.len
          have hask := asked_ok (V := fun t => a.tmps.getD t undef) p1.rel.glob hF1 hlen l2 hwants hway
          refine wpIn_mono (hsem (fun t => a.tmps.getD t undef) ls _ a w q hK l1 (leafS_ok hsorts ⟨hlen, fun i x y hx hy => l2 i x y hx hy⟩) rfl (fun b hb => hb) (l5 [] (fun p hp => by cases hp)) l6 (by rw [hfr.size, hn]) hd (fun _ _ => rfl) hask n) fun e a' w' ⟨q1, q2, q3, ⟨V', lf, ρf, q4, q5, q6, q7, q8⟩, q9⟩ => ?_
          have hθlf := instL_ok (V := fun t => a.tmps.getD t undef) hF1 hlen l2 hθq q7
          obtain ⟨ρ2, p2, v2⟩ := putOut_ok f p1.rel (p1.free hroom.free) hp hlim2 q5 q4 (fun x hx => (hgv x hx).1) q8 hθlf.1 hθlf.2 q6
          refine ⟨q1, ρ2, ?_, p1.trans p2⟩
          have hext : Ext ρ ρ2 := p1.ext.trans p2.ext
          have hfr2 := hfr.mono hext
          have hsm : c.nt ≤ 1000000 := by rw [← hn]; exact hfr.small
          have hget : ∀ t, (insT ((c.tmps q).zip vs ++ c.kills.map fun t => (t, topW)) fr.tr).get t = match ((c.tmps q).zip vs ++ c.kills.map fun t => (t, topW)).find? (fun p => p.1 == t) with | some p => p.2 | none => fr.tr.get t := fun t => insT_get' hsm fun p hp => by
            rcases List.mem_append.1 hp with hp | hp
            · exact blt_t (List.all_eq_true.1 b4.1 p.1 (List.of_mem_zip hp).1)
            · obtain ⟨t, ht, rfl⟩ := List.mem_map.1 hp
              exact blt_t (List.all_eq_true.1 b3 t ht)
          refine ⟨q2, hsm, fun t v' hv' => ?_, fun t ht => ?_, by rw [q3]; rfl, by intro r hr; cases hr⟩
          · have hlt : t < c.nt := by rw [← q2]; exact (Array.getElem?_eq_some_iff.1 hv').1
            have hg : a'.tmps.getD t undef = v' := by rw [Array.getD_eq_getD_getElem?, hv']; rfl
            show VR ρ2 ((insT ((c.tmps q).zip vs ++ c.kills.map fun t => (t, topW)) fr.tr).get t) v'
            rw [hget, List.find?_append]
            cases ho : memb (c.tmps q) t with
            | true =>
              obtain ⟨i, v, g1, g2, g3⟩ := (zip_find b5).1 ho
              rw [g3]
              have := v2.2 i v (a'.tmps.getD t undef) g2 (by rw [List.getElem?_map, g1]; rfl)
              rw [hg] at this
              exact this
            | false =>
              rw [(zip_find b5).2 ho]
              cases hk : memb c.kills t with
              | true =>
                obtain ⟨z, hz, hz2⟩ := (kills_find' topW).1 hk
                rw [hz]
                simp only [Option.none_or, hz2]
                exact .top _ _ _ _
              | false =>
                rw [(kills_find' topW).2 hk]
                have := hfr2.get t
                rw [← q9 t hlt hk ho, hg] at this
                exact this
          · have ht' : c.nt ≤ t := ht
            show (insT ((c.tmps q).zip vs ++ c.kills.map fun t => (t, topW)) fr.tr).get t = undef
            rw [hget]
            split
            · rename_i p hp
              have h1 := List.mem_of_find?_eq_some hp
              have h2 := List.find?_some hp
              simp only [beq_iff_eq] at h2
              rcases List.mem_append.1 h1 with hp | hp
              · have := blt_t (List.all_eq_true.1 b4.1 p.1 (List.of_mem_zip hp).1); omega
              · obtain ⟨t', ht2, rfl⟩ := List.mem_map.1 hp
                have := blt_t (List.all_eq_true.1 b3 t' ht2)
                simp only at h2
                omega
            · exact hfr.out t (by omega)
        · cases h
      · cases h
    · cases h
  · cases h

/-! ### Functions -/

structure FCtr where
  f : FuncId
  nb : Nat
  nl : Nat
  args : List Value
  objs : List PObj
  srts : List (Option Srt)
  wants : List (Value × Bool)
  dec : Option Value
  out : Bool → POut

def FCtr.run (S : Knw) (c : FCtr) (args : List Value) (H : Heap) : Option (Value × Heap) :=
  match takeP S S.n c.nl c.args c.objs args H with
  | some (_, H1, ns, θ) => cond (sortsOk c.srts θ && wantsOk S 0 θ c.wants) (match wayC S 0 θ c.dec with
    | some q => match plugL (instV 0 θ 40) (c.out q).exprs with
      | some θq => match putOut S.n c.nb c.objs ns H1 (c.out q) θq with
        | some ([v], H2) => some (v, H2)
        | _ => none
      | none => none
    | none => none) none
  | none => none

theorem FCtr.keep {S : Knw} {c : FCtr} {args : List Value} {H : Heap} {r : Value × Heap} (h : c.run S args H = some r) : Keep H r.2 := by
  unfold FCtr.run at h
  split at h
  · rename_i acts H1 ns θ ht
    obtain ⟨_, h⟩ := cond_some' h
    split at h
    · split at h
      · split at h
        · rename_i v H2 hp
          cases h
          obtain ⟨f, k, _⟩ := takeP_ok ht
          obtain ⟨⟨x1, y1, x, y, _, m2, _⟩, _⟩ := f
          exact k.trans (keep_putOut m2 hp)
        · cases h
      · cases h
    · cases h
  · cases h

/-- What a function does, told by names. -/
def FSem (P : Program) (N : Nat) (gv : List Gv) (K : World → Prop) (base : Nat) (FN : Fns) (c : FCtr) : Prop :=
  ∀ (V : Nat → Value) (ls : List Value) (ρ : Rho) (args' : Array Value) (w : World) (q : Bool), K w → ls.length = c.nl → LeafS c.srts ls → ρ.env = envL FN V 0 ls → (∀ b, ρ.dom b → b < N + c.objs.length) → Rel ⟨N, [], FN, [], rows0⟩ base ρ (canH 0 (heapOf N gv) c.objs) w →
    VRs ρ c.args args'.toList → Asked ρ.env c.wants c.dec q → Calls P c.f args' w fun e w' => ∃ v', e = .returned v' ∧
      (∃ V' lf ρf, ρf.env = envL FN V' 0 lf ∧ Rel ⟨N, [], FN, [], rows0⟩ base ρf (canH 0 (heapOf N gv) (c.out q).objs) w' ∧ VRs ρf (c.out q).vals [v'] ∧ denL (den ρ.env 40) (c.out q).exprs = some lf ∧ PEff N c.nb base ρ ρf c.objs (c.out q).objs w w')

theorem FCtr.snd {C : Cfg} {K : World → Prop} {base : Nat} {gv : List Gv} (hgv : ∀ x ∈ gv, x.1 < C.NG.n ∧ x.2.2.all (flat 40) = true) (hKw : ∀ w, K w → ∀ x ∈ gv, x.1 < base ∧ GvOk w x) (hin : ∀ w, K w → ∀ r ∈ C.NG.rowS, RowIn C.NG.rows base w r) {c : FCtr}
    (hsem : FSem C.P C.NG.n gv K base C.NG.fns c) {args : List Value} {H : Heap} {r : Value × Heap} (h : c.run C.NG args H = some r) : SndFn C K base c.f args H r := by
  intro ρ w lim n args' hrel hK hvs hroom hlim
  unfold FCtr.run at h
  split at h
  · rename_i acts H1 ns θ ht
    obtain ⟨hsw, h⟩ := cond_some' h
    simp only [Bool.and_eq_true] at hsw
    obtain ⟨hsorts, hwants⟩ := hsw
    split at h
    · rename_i q hway
      split at h
      · rename_i θq hθq
        split at h
        · rename_i v H2 hp
          cases h
          obtain ⟨f, k1, htk⟩ := takeP_ok ht
          have k2 : Keep H1 H2 := by
            obtain ⟨⟨x1, y1, x, y, _, m2, _⟩, _⟩ := f
            exact keep_putOut m2 hp
          have hlim2 : H2.next ≤ lim := Nat.le_of_lt hlim
          obtain ⟨ρ1, p1, v1⟩ := htk hrel (hin w hK) hroom.free (Nat.le_trans k2.next hlim2) hvs
          obtain ⟨ls, l1, l2, l3, l4, l5, l6⟩ := f.can p1.rel v1 C.NG.fns (fun _ => undef) 0 hgv (hKw w hK)
          have hF1 : ρ1.env.fns = C.NG.fns := p1.rel.glob.fns
          have hlen : θ.length = ls.length := by rw [l1]; exact f.len
          have hask := asked_ok (V := fun _ => undef) p1.rel.glob hF1 hlen l2 hwants hway
          refine (callsIn_wide.2 (hsem (fun _ => undef) ls _ args' w q hK l1 (leafS_ok hsorts ⟨hlen, fun i x y hx hy => l2 i x y hx hy⟩) rfl (fun b hb => hb) (l5 [] (fun p hp => by cases hp)) l6 hask)).mono fun e w' ⟨v', he, V', lf, ρf, q4, q5, q6, q7, q8⟩ => ?_
          have hθlf := instL_ok (V := fun _ => undef) hF1 hlen l2 hθq q7
          obtain ⟨ρ2, p2, v2⟩ := putOut_ok f p1.rel (p1.free hroom.free) hp hlim2 q5 q4 (fun x hx => (hgv x hx).1) q8 hθlf.1 hθlf.2 q6
          obtain ⟨_, _, e1, e2, _⟩ := v2.cons_inv
          cases e1
          exact ⟨v', he, ρ2, e2, p1.trans p2⟩
        · cases h
      · cases h
    · cases h
  · cases h

end Go.Sy
