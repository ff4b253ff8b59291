/- The evaluator's strings: turned into bytes and back, gone over; capacities. -/
import Derived.Test.YthcfhmdoelpbdaaGreatDoorEvW
import Derived.Laws.BytesString
import Derived.Laws.Cover4
namespace Go.Ev
set_option linter.unusedVariables false
set_option linter.unusedSimpArgs false
open Go

/-! ### cap, the length of a map -/

def acap (P : Program) (H : Heap) (ts : List TypeId) (vs : List Value) : Option Value :=
  match ts, vs with
  | t :: _, [x] => match P.underlying t, x with
    | some (.slice _), .slice none _ c => some (.int .i64 c)
    | some (.slice _), .slice (some ⟨b, _, none⟩) _ c => match look H b with
      | some (.cells _ _ true _ _ _) => some (.int .i64 c)
      | _ => none
    | _, _ => none
  | _, _ => none

theorem acap_ok {P : Program} {NG base : Nat} {ρ : Rho} {H : Heap} {w : World} {ts : Array TypeId} {ty : TypeId} {vs : List Value} {args : Array Value} {v : Value} (hr : Rel NG base ρ H w)
    (h : acap P H ts.toList vs = some v) (hv : VRs ρ vs args.toList) : VR ρ v v ∧ (Builtin.cap_ ts ty args).run P w = .ok v w := by
  unfold acap at h
  split at h
  · rename_i t rest x hts
    have ht0 : ts[0]? = some t := by
      have : ts.toList[0]? = some t := by rw [hts]; rfl
      simpa using this
    obtain ⟨x', r1, e1, hx, hr1⟩ := hv.cons_inv
    have := hr1.nil_inv
    subst this
    have ea : args = #[x'] := by apply Array.ext'; simpa using e1
    subst ea
    split at h
    · rename_i e n c hu
      cases hx
      simp only [Option.some.injEq] at h
      subst h
      exact ⟨.int _ _, by simp [Builtin.cap_, ht0, run_underlying hu, goInt]⟩
    · rename_i e b o n c hu
      split at h
      · rename_i cs el esz root wr hl
        simp only [Option.some.injEq] at h
        subst h
        obtain ⟨ccs, fr, h0, hc⟩ := hr.obj b _ hl
        refine ⟨.int _ _, ?_⟩
        cases hx with
        | slice _ _ _ _ c' _ _ _ q3 =>
          have := q3 hc.rig
          subst this
          simp [Builtin.cap_, ht0, run_underlying hu, goInt]
        | sliceE => simp [Builtin.cap_, ht0, run_underlying hu, goInt]
      · cases h
    · cases h
  · cases h

def alenMap (P : Program) (H : Heap) (ts : List TypeId) (vs : List Value) : Option Value :=
  match ts, vs with
  | t :: _, [x] => match P.underlying t with
    | some (.map _ _) => match ents H x with
      | some es => some (.int .i64 es.length)
      | none => none
    | _ => none
  | _, _ => none

theorem alenMap_ok {P : Program} {NG base : Nat} {ρ : Rho} {H : Heap} {w : World} {ts : Array TypeId} {ty : TypeId} {vs : List Value} {args : Array Value} {v : Value} (hr : Rel NG base ρ H w)
    (h : alenMap P H ts.toList vs = some v) (hv : VRs ρ vs args.toList) : VR ρ v v ∧ (Builtin.len_ ts ty args).run P w = .ok v w := by
  unfold alenMap at h
  split at h
  · rename_i t rest x hts
    have ht0 : ts[0]? = some t := by
      have : ts.toList[0]? = some t := by rw [hts]; rfl
      simpa using this
    obtain ⟨x', r1, e1, hx, hr1⟩ := hv.cons_inv
    have := hr1.nil_inv
    subst this
    have ea : args = #[x'] := by apply Array.ext'; simpa using e1
    subst ea
    split at h
    · rename_i kt et hu
      split at h
      · rename_i es hes
        simp only [Option.some.injEq] at h
        subst h
        obtain ⟨es', he, hh⟩ := ents_ok hr hes hx
        refine ⟨.int _ _, ?_⟩
        rcases hh with ⟨rfl, rfl⟩ | ⟨r, clock, rfl, h0⟩
        · have : es = [] := List.length_eq_zero_iff.1 he.1.symm
          subst this
          simp [Builtin.len_, ht0, run_underlying hu, goInt]
        · have hs : es'.size = es.length := by have := he.1; simpa using this
          simp [Builtin.len_, ht0, run_underlying hu, goInt, run_getMap h0, hs]
      · cases h
    · cases h
  · cases h

/-! ### Strings and slices -/

def bytesOf (l : List Value) : Option (List Int) :=
  match l with
  | [] => some []
  | .int .u8 n :: r => match bytesOf r with
    | some ns => some (n :: ns)
    | none => none
  | _ => none

def runesOf (l : List Value) : Option (List Int) :=
  match l with
  | [] => some []
  | .int .i32 n :: r => match runesOf r with
    | some ns => some (n :: ns)
    | none => none
  | _ => none

theorem bytesOf_eq {ρ : Rho} : ∀ {l l' : List Value} {ns : List Int}, bytesOf l = some ns → VRs ρ l l' → l' = ns.map (Value.int .u8) := by
  intro l
  induction l with
  | nil => intro l' ns h hv; simp only [bytesOf, Option.some.injEq] at h; subst h; exact hv.nil_inv
  | cons x r ih =>
    intro l' ns h hv
    obtain ⟨y, s, rfl, h1, h2⟩ := hv.cons_inv
    unfold bytesOf at h
    split at h
    · rename_i he; cases he
    · rename_i n r' he
      injection he with he1 he2
      subst he1 he2
      split at h
      · rename_i ns' hns
        simp only [Option.some.injEq] at h
        subst h
        cases h1
        rw [ih hns h2]
        rfl
      · cases h
    · cases h

theorem runesOf_eq {ρ : Rho} : ∀ {l l' : List Value} {ns : List Int}, runesOf l = some ns → VRs ρ l l' → l' = ns.map (Value.int .i32) := by
  intro l
  induction l with
  | nil => intro l' ns h hv; simp only [runesOf, Option.some.injEq] at h; subst h; exact hv.nil_inv
  | cons x r ih =>
    intro l' ns h hv
    obtain ⟨y, s, rfl, h1, h2⟩ := hv.cons_inv
    unfold runesOf at h
    split at h
    · rename_i he; cases he
    · rename_i n r' he
      injection he with he1 he2
      subst he1 he2
      split at h
      · rename_i ns' hns
        simp only [Option.some.injEq] at h
        subst h
        cases h1
        rw [ih hns h2]
        rfl
      · cases h
    · cases h

def byteStr (ns : List Int) : ByteArray := ⟨(ns.map fun n => UInt8.ofNat n.toNat).toArray⟩

theorem byteStr_eq (ns : List Int) : ns.foldl (fun r n => r.push (UInt8.ofNat n.toNat)) ByteArray.empty = byteStr ns := by
  have key : ∀ (ns : List Int) (s : ByteArray), ns.foldl (fun r n => r.push (UInt8.ofNat n.toNat)) s = ⟨(s.data.toList ++ ns.map fun n => UInt8.ofNat n.toNat).toArray⟩ := by
    intro ns
    induction ns with
    | nil => intro s; apply ByteArray.ext; simp
    | cons n r ih =>
      intro s
      simp only [List.foldl_cons, ih]
      apply ByteArray.ext
      simp
  rw [key]
  rfl

/-- A conversion that looks into memory, or makes a row. -/
def aconv (P : Program) (H : Heap) (s d : TypeId) (x : Value) : Option (Value × Heap) :=
  match P.underlying s, P.underlying d, x with
  | some .string, some (.slice e), .string u => match P.underlying e with
    | some (.int .u8) => some (.slice (some ⟨H.next, 0, none⟩) u.data.toList.length u.data.toList.length, H.push (.cells (u.data.toList.map fun b => .int .u8 b.toNat) e false 1 H.next true))
    | some (.int .i32) => let l := (Conv.runesFrom u u.size 0 #[]).toList
      cond (l.all (flat 40)) (some (.slice (some ⟨H.next, 0, none⟩) l.length l.length, H.push (.cells l e false 1 H.next true))) none
    | _ => none
  | some (.slice e), some .string, .slice none _ _ => match P.underlying e with
    | some (.int .u8) => some (.string ⟨#[]⟩, H)
    | some (.int .i32) => some (.string ⟨#[]⟩, H)
    | _ => none
  | some (.slice e), some .string, .slice (some ⟨b, o, none⟩) n _ => match P.underlying e with
    | some (.int .u8) => cond (Nat.beq n 0) (some (.string ⟨#[]⟩, H)) (match look H b with
      | some (.cells cs _ _ _ _ _) => cond (Nat.ble (o + n) cs.length) (match bytesOf ((cs.drop o).take n) with
        | some ns => some (.string (byteStr ns), H)
        | none => none) none
      | _ => none)
    | some (.int .i32) => cond (Nat.beq n 0) (some (.string ⟨#[]⟩, H)) (match look H b with
      | some (.cells cs _ _ _ _ _) => cond (Nat.ble (o + n) cs.length) (match runesOf ((cs.drop o).take n) with
        | some ns => some (.string (runesBytes ns), H)
        | none => none) none
      | _ => none)
    | _ => none
  | _, _, _ => none

theorem freeze_new {w : World} {ccs : Array Value} {e : TypeId} : ((w.alloc (.cells ccs e)).freeze { block := w.heap.size, off := ccs.size } 1).heap = w.heap.push (.cells ccs e (ccs.size, ccs.size + 1)) := by
  unfold World.freeze
  rw [if_neg (by decide)]
  simp only
  have h1 : (w.alloc (.cells ccs e)).heap = w.heap.push (.cells ccs e) := rfl
  rw [h1]
  apply Array.ext
  · simp
  · intro i h2 h3
    simp only [Array.size_push] at h3
    by_cases hi : i = w.heap.size
    · subst hi
      simp [Array.getElem_modify, Array.getElem_push]
    · have hlt : i < w.heap.size := by omega
      rw [Array.getElem_modify, if_neg (fun h => hi h.symm)]
      simp [Array.getElem_push, hlt]

theorem run_strBytes {P : Program} {w : World} (e : TypeId) (u : ByteArray) :
    (Conv.stringToBytes e u).run P w = .ok (.slice (some ⟨w.heap.size, 0, none⟩) u.size (grownCap w u.size 0 e))
      ((w.drew.alloc (.cells (u.data.map (fun b => Value.int .u8 b.toNat) ++ Array.replicate (grownCap w u.size 0 e - u.size) (Value.int .u8 0)) e)).freeze
          { block := w.heap.size, off := (u.data.map (fun b => Value.int .u8 b.toNat) ++ Array.replicate (grownCap w u.size 0 e - u.size) (Value.int .u8 0)).size } 1) := by
  have hch : (choose (.appendCap u.size 0 e)).run P w = .ok (grownCap w u.size 0 e) w.drew := rfl
  have hsh : ∀ (c : Array Value), (shape w.heap.size).run P (w.drew.alloc (.cells c e)) = .ok (some (e, c.size)) (w.drew.alloc (.cells c e)) := fun c => by
    simp only [shape, Sem.run, World.shape?]
    have : (w.drew.alloc (.cells c e)).heap[w.heap.size]? = some (.cells c e) := heap_alloc_new w.drew _
    rw [this]
  have hnew : ∀ (c : Array Value), (newRow e c).run P w.drew = .ok ⟨w.heap.size, 0, none⟩ (w.drew.alloc (.cells c e)) := fun c => rfl
  unfold Conv.stringToBytes markStringish
  simp only [Sem.run_bind, hch, Result.andThen_ok, hnew, hsh, freeze, Sem.run, Sem.run_pure]

theorem run_strRunes {P : Program} {w : World} (e : TypeId) (u : ByteArray) :
    (Conv.stringToRunes e u).run P w = .ok (.slice (some ⟨w.heap.size, 0, none⟩) (Conv.runesFrom u u.size 0 #[]).size (grownCap w (Conv.runesFrom u u.size 0 #[]).size 0 e))
      (w.drew.alloc (.cells (Conv.runesFrom u u.size 0 #[] ++ Array.replicate (grownCap w (Conv.runesFrom u u.size 0 #[]).size 0 e - (Conv.runesFrom u u.size 0 #[]).size) (Value.int .i32 0)) e)) := by
  have hch : ∀ n, (choose (.appendCap n 0 e)).run P w = .ok (grownCap w n 0 e) w.drew := fun n => rfl
  have hnew : ∀ (c : Array Value), (newRow e c).run P w.drew = .ok ⟨w.heap.size, 0, none⟩ (w.drew.alloc (.cells c e)) := fun c => rfl
  unfold Conv.stringToRunes
  simp only [Sem.run_bind, hch, Result.andThen_ok, hnew, Sem.run_pure]

theorem aconv_ok {P : Program} {NG base : Nat} {ρ : Rho} {H H' : Heap} {w : World} {s d : TypeId} {x x' v : Value} (hr : Rel NG base ρ H w) (hf : ¬ ρ.dom H.next) (h : aconv P H s d x = some (v, H')) (hx : VR ρ x x') :
    ∃ v' w' ρ', (convert s d x').run P w = .ok v' w' ∧ VR ρ' v v' ∧ Post NG base ρ H H' w w' ρ' := by
  unfold aconv at h
  split at h
  · rename_i e u hs hd
    cases hx
    split at h
    · rename_i he
      simp only [Option.some.injEq, Prod.mk.injEq] at h
      obtain ⟨rfl, rfl⟩ := h
      have hul : u.data.toList.length = u.size := by simp
      have hge := grownCap_ge w u.size 0 e
      have hccs : (u.data.map (fun b => Value.int .u8 b.toNat) ++ Array.replicate (grownCap w u.size 0 e - u.size) (Value.int .u8 0)).size = grownCap w u.size 0 e := by
        simp; omega
      obtain ⟨ρ', p1, p2⟩ := new_rubber (w := w) (w' := (w.drew.alloc (.cells (u.data.map (fun b => Value.int .u8 b.toNat) ++ Array.replicate (grownCap w u.size 0 e - u.size) (Value.int .u8 0)) e)).freeze
          { block := w.heap.size, off := (u.data.map (fun b => Value.int .u8 b.toNat) ++ Array.replicate (grownCap w u.size 0 e - u.size) (Value.int .u8 0)).size } 1)
        hr hf (u.data.toList.map fun b => .int .u8 b.toNat) (u.data.map (fun b => Value.int .u8 b.toNat) ++ Array.replicate (grownCap w u.size 0 e - u.size) (Value.int .u8 0)) e 1 u.data.toList.length (grownCap w u.size 0 e) H.next
        (_, _) (freeze_new (w := w.drew)) rfl rfl rfl
        (by
          have : (u.data.map (fun b => Value.int .u8 b.toNat) ++ Array.replicate (grownCap w u.size 0 e - u.size) (Value.int .u8 0)).toList.take (u.data.toList.map fun b => Value.int .u8 b.toNat).length = u.data.toList.map fun b => Value.int .u8 b.toNat := by
            simp only [Array.toList_append, Array.toList_map]
            rw [List.take_append_of_le_length (Nat.le_refl _), List.take_length]
          rw [this]
          exact VRs.refl fun y hy => by obtain ⟨b, _, rfl⟩ := List.mem_map.1 hy; exact .int _ _)
        (by rw [hccs]; simp; omega) (by rw [hccs]; omega) (by rw [hul]; exact hge) (fun k hk hh => by simp only at hh; omega)
      refine ⟨_, _, ρ', ?_, p1, p2⟩
      have hc : (convert s d (.string u)).run P w = (Conv.stringToBytes e u).run P w := by
        unfold convert
        simp only [Sem.run_bind, run_underlying hs, run_underlying hd, Result.andThen_ok, run_underlying he]
      rw [hc, run_strBytes, hul]
    · rename_i he
      cases hfl : ((Conv.runesFrom u u.size 0 #[]).toList.all (flat 40)) with
      | false => simp only [hfl, cond_false] at h; cases h
      | true =>
        simp only [hfl, cond_true, Option.some.injEq, Prod.mk.injEq] at h
        obtain ⟨rfl, rfl⟩ := h
        obtain ⟨l, hl⟩ : ∃ l, l = Conv.runesFrom u u.size 0 #[] := ⟨_, rfl⟩
        have hrun := run_strRunes (P := P) (w := w) e u
        rw [← hl] at hfl hrun ⊢
        have hge := grownCap_ge w l.size 0 e
        obtain ⟨ρ', p1, p2⟩ := new_rubber (w := w) (w' := w.drew.alloc (.cells (l ++ Array.replicate (grownCap w l.size 0 e - l.size) (Value.int .i32 0)) e)) hr hf l.toList
          (l ++ Array.replicate (grownCap w l.size 0 e - l.size) (Value.int .i32 0)) e 1 l.toList.length (grownCap w l.size 0 e) H.next (0, 0) rfl rfl rfl rfl
          (by
            have : (l ++ Array.replicate (grownCap w l.size 0 e - l.size) (Value.int .i32 0)).toList.take l.toList.length = l.toList := by
              simp only [Array.toList_append]
              rw [List.take_append_of_le_length (Nat.le_refl _), List.take_length]
            rw [this]
            exact VRs.refl fun y hy => flat_refl ρ 40 y (List.all_eq_true.1 hfl y hy))
          (by simp) (by simp; omega) (by simpa using hge) (fun k hk hh => by simp only at hh; omega)
        refine ⟨_, _, ρ', ?_, p1, p2⟩
        have hc : (convert s d (.string u)).run P w = (Conv.stringToRunes e u).run P w := by
          unfold convert
          simp only [Sem.run_bind, run_underlying hs, run_underlying hd, Result.andThen_ok, run_underlying he]
        rw [hc, hrun]
        simp
    · cases h
  · rename_i e n c hs hd
    cases hx
    split at h
    · rename_i he
      simp only [Option.some.injEq, Prod.mk.injEq] at h
      obtain ⟨rfl, rfl⟩ := h
      refine ⟨_, w, ρ, ?_, .string _, Post.refl hr⟩
      unfold convert
      simp only [Sem.run_bind, run_underlying hs, run_underlying hd, Result.andThen_ok, run_underlying he]
      rfl
    · rename_i he
      simp only [Option.some.injEq, Prod.mk.injEq] at h
      obtain ⟨rfl, rfl⟩ := h
      refine ⟨_, w, ρ, ?_, .string _, Post.refl hr⟩
      unfold convert
      simp only [Sem.run_bind, run_underlying hs, run_underlying hd, Result.andThen_ok, run_underlying he]
      rfl
    · cases h
  · rename_i e b o n c hs hd
    have hcb : ∀ (y : Value), P.underlying e = some (.int .u8) → (∃ a n c, y = .slice a n c) → (convert s d y).run P w = (Conv.bytesToString y).run P w := by
      rintro y he ⟨a, n, c, rfl⟩
      unfold convert
      simp only [Sem.run_bind, run_underlying hs, run_underlying hd, Result.andThen_ok, run_underlying he]
    have hcr : ∀ (y : Value), P.underlying e = some (.int .i32) → (∃ a n c, y = .slice a n c) → (convert s d y).run P w = (Conv.runesToString y).run P w := by
      rintro y he ⟨a, n, c, rfl⟩
      unfold convert
      simp only [Sem.run_bind, run_underlying hs, run_underlying hd, Result.andThen_ok, run_underlying he]
    have hsl : ∃ a c', x' = .slice (some a) n c' := by cases hx <;> exact ⟨_, _, rfl⟩
    have e0 : ∀ a c', (Conv.bytesToString (.slice (some a) 0 c')).run P w = .ok (.string ⟨#[]⟩) w := fun a c' => run_bytesToString w a 0 c' [] rfl
    have r0 : ∀ a c', (Conv.runesToString (.slice (some a) 0 c')).run P w = .ok (.string ⟨#[]⟩) w := fun a c' => run_runesToString w a 0 c' [] rfl
    split at h
    · rename_i he
      obtain ⟨a, c', rfl⟩ := hsl
      rw [hcb _ he ⟨_, _, _, rfl⟩]
      cases hn : Nat.beq n 0 with
      | true =>
        simp only [hn, cond_true, Option.some.injEq, Prod.mk.injEq] at h
        obtain ⟨rfl, rfl⟩ := h
        have := Nat.eq_of_beq_eq_true hn
        subst this
        exact ⟨_, w, ρ, e0 a c', .string _, Post.refl hr⟩
      | false =>
        simp only [hn, cond_false] at h
        split at h
        · rename_i cs el rig esz root wr hl
          cases hb : Nat.ble (o + n) cs.length with
          | false => rw [hb] at h; cases h
          | true =>
            simp only [hb, cond_true] at h
            split at h
            · rename_i ns hns
              simp only [Option.some.injEq, Prod.mk.injEq] at h
              obtain ⟨rfl, rfl⟩ := h
              cases hx with
              | slice _ _ _ _ _ hdm =>
                obtain ⟨arr, h1, h2⟩ := row_take (P := P) hr hl (o := o) (k := n) (Nat.le_of_ble_eq_true hb)
                have := bytesOf_eq hns h2
                have harr : arr = (ns.map (Value.int .u8)).toArray := by apply Array.ext'; simpa using this
                rw [harr] at h1
                refine ⟨_, w, ρ, run_bytesToString w _ n c' ns h1, ?_, Post.refl hr⟩
                rw [byteStr_eq]
                exact .string _
              | sliceE => simp at hn
            · cases h
        · cases h
    · rename_i he
      obtain ⟨a, c', rfl⟩ := hsl
      rw [hcr _ he ⟨_, _, _, rfl⟩]
      cases hn : Nat.beq n 0 with
      | true =>
        simp only [hn, cond_true, Option.some.injEq, Prod.mk.injEq] at h
        obtain ⟨rfl, rfl⟩ := h
        have := Nat.eq_of_beq_eq_true hn
        subst this
        exact ⟨_, w, ρ, r0 a c', .string _, Post.refl hr⟩
      | false =>
        simp only [hn, cond_false] at h
        split at h
        · rename_i cs el rig esz root wr hl
          cases hb : Nat.ble (o + n) cs.length with
          | false => rw [hb] at h; cases h
          | true =>
            simp only [hb, cond_true] at h
            split at h
            · rename_i ns hns
              simp only [Option.some.injEq, Prod.mk.injEq] at h
              obtain ⟨rfl, rfl⟩ := h
              cases hx with
              | slice _ _ _ _ _ hdm =>
                obtain ⟨arr, h1, h2⟩ := row_take (P := P) hr hl (o := o) (k := n) (Nat.le_of_ble_eq_true hb)
                have := runesOf_eq hns h2
                have harr : arr = (ns.map (Value.int .i32)).toArray := by apply Array.ext'; simpa using this
                rw [harr] at h1
                exact ⟨_, w, ρ, run_runesToString w _ n c' ns h1, .string _, Post.refl hr⟩
              | sliceE => simp at hn
            · cases h
        · cases h
    · cases h
  · cases h

/-! ### Going over a string -/

def arange (P : Program) (H : Heap) (t : TypeId) (x : Value) : Option (Value × Heap) :=
  match P.underlying t, x with
  | some .string, .string s => some (.pointer (some ⟨H.next, 0, none⟩), H.push (.sit s 0))
  | _, _ => none

theorem arange_ok {P : Program} {NG base : Nat} {ρ : Rho} {H H' : Heap} {w : World} {t : TypeId} {x x' v : Value} (hr : Rel NG base ρ H w) (hf : ¬ ρ.dom H.next) (h : arange P H t x = some (v, H')) (hx : VR ρ x x') :
    ∃ v' w' ρ', (Instr.range t x').run P w = .ok v' w' ∧ VR ρ' v v' ∧ Post NG base ρ H H' w w' ρ' := by
  unfold arange at h
  split at h
  · rename_i s hu
    cases hx
    simp only [Option.some.injEq, Prod.mk.injEq] at h
    obtain ⟨rfl, rfl⟩ := h
    refine ⟨.pointer (some ⟨w.heap.size, 0, none⟩), w.alloc (.stringIter s 0), ρ.new H.next w.heap.size 0 0 0 true, ?_, ?_, Post.alloc hr hf 0 0 0 true ⟨?_, if_pos rfl⟩⟩
    · simp only [Instr.range, Sem.run_bind, run_underlying hu, Result.andThen_ok, Sem.run_pure, newObj, Sem.run]
      rfl
    · have := VR.ptr (ρ := ρ.new H.next w.heap.size 0 0 0 true) H.next 0 (.inl rfl)
      rw [show (ρ.new H.next w.heap.size 0 0 0 true).blk H.next = w.heap.size from if_pos rfl, show (ρ.new H.next w.heap.size 0 0 0 true).off H.next = 0 from if_pos rfl] at this
      exact this
    · rw [show (ρ.new H.next w.heap.size 0 0 0 true).blk H.next = w.heap.size from if_pos rfl]
      exact heap_alloc_new w _
  · cases h

def anext (H : Heap) (x : Value) (isS : Bool) : Option (Value × Heap) :=
  match x, isS with
  | .pointer (some ⟨r, 0, none⟩), true => match look H r with
    | some (.sit s pos) => cond (Nat.ble H.wmin r) (cond (Nat.blt pos s.data.toList.length)
      (some (.tuple #[.bool true, .int .i64 pos, .int .i32 (Utf8.decode s pos).1], H.put r (.sit s pos) (.sit s (pos + (Utf8.decode s pos).2))))
      (some (.tuple #[.bool false], H))) none
    | _ => none
  | _, _ => none

theorem anext_ok {P : Program} {NG base : Nat} {ρ : Rho} {H H' : Heap} {w : World} {ty : TypeId} {x x' v : Value} {isS : Bool} (hr : Rel NG base ρ H w) (h : anext H x isS = some (v, H')) (hx : VR ρ x x') :
    ∃ v' w', (Instr.next x' isS ty).run P w = .ok v' w' ∧ VR ρ v v' ∧ Post NG base ρ H H' w w' ρ := by
  unfold anext at h
  split at h
  · rename_i r
    obtain ⟨rfl, hd⟩ := hx.ptr_inv
    split at h
    · rename_i s pos hl
      obtain ⟨h0, hoff⟩ := hr.obj r _ hl
      rw [hoff]
      cases hm : Nat.ble H.wmin r with
      | false => rw [hm] at h; cases h
      | true =>
        simp only [hm, cond_true] at h
        have hget : (getObj (ρ.blk r)).run P w = .ok (.stringIter s pos) w := by simp [getObj, Sem.run, h0]
        have hsz : s.data.toList.length = s.size := by simp
        cases hp : Nat.blt pos s.data.toList.length with
        | true =>
          simp only [hp, cond_true, Option.some.injEq, Prod.mk.injEq] at h
          obtain ⟨rfl, rfl⟩ := h
          have hlt := blt_t hp
          have hset : ∀ o, (setObj (ρ.blk r) o).run P w = .ok () { w with heap := w.heap.setIfInBounds (ρ.blk r) o } := fun o => by simp [setObj, Sem.run, h0]
          have hbl := (hr.obj r _ hl).lt
          refine ⟨_, _, ?_, VR.tuple' (b := #[.bool true, .int .i64 pos, .int .i32 (Utf8.decode s pos).1]) (VRs.cons (.bool _) (VRs.cons (.int _ _) (VRs.cons (.int _ _) (VRs.nil ρ)))),
            Post.write (w' := { w with heap := w.heap.setIfInBounds (ρ.blk r) (.stringIter s (pos + (Utf8.decode s pos).2)) }) hr hl rfl (Nat.le_of_ble_eq_true hm) (fun k hk => ?_) (by simp) rfl rfl rfl ⟨?_, hoff⟩ rfl⟩
          · unfold Instr.next
            simp only [Sem.run_bind, hget, Result.andThen_ok]
            rw [if_pos (by omega)]
            simp only [Sem.run_bind, hset, Result.andThen_ok, Sem.run_pure, goInt]
          · simp [Array.getElem?_setIfInBounds_ne (fun h => hk h.symm)]
          · simp [hbl]
        | false =>
          simp only [hp, cond_false, Option.some.injEq, Prod.mk.injEq] at h
          obtain ⟨rfl, rfl⟩ := h
          have hge := blt_f hp
          refine ⟨_, w, ?_, VR.tuple' (b := #[.bool false]) (VRs.cons (.bool _) (VRs.nil ρ)), Post.refl hr⟩
          unfold Instr.next
          simp only [Sem.run_bind, hget, Result.andThen_ok]
          rw [if_neg (by omega)]
          rfl
    · cases h
  · cases h

end Go.Ev
