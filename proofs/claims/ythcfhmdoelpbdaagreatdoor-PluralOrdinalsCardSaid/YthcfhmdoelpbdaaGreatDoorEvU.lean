/- The evaluator's append and copy. -/
import Derived.Test.YthcfhmdoelpbdaaGreatDoorEvT
import Derived.Laws.Append
namespace Go.Ev
set_option linter.unusedVariables false
set_option linter.unusedSimpArgs false
open Go

theorem Rel.drew {NG base : Nat} {ρ : Rho} {H : Heap} {w : World} (h : Rel NG base ρ H w) : Rel NG base ρ H { w with drawn := w.drawn + 1 } := (Post.drew h).rel

/-- What is appended, copied: how many elements, their cells. -/
def srcCells (H : Heap) (size : Nat) (x : Value) : Option (Nat × List Value) :=
  match x with
  | .slice none 0 _ => some (0, [])
  | .slice (some ⟨b, o, none⟩) m _ => cond (Nat.beq m 0) (some (0, []))
    (match look H b with
     | some (.cells cs _ _ _ _ _) => cond (Nat.ble (o + m * size) cs.length) (some (m, (cs.drop o).take (m * size))) none
     | _ => none)
  | .string s => cond (Nat.beq size 1) (some (s.data.toList.length, s.data.toList.map fun b => .int .u8 b.toNat)) none
  | _ => none

/-- Fewer of them. -/
def srcTake (size n : Nat) (l : List Value) : List Value := l.take (n * size)

theorem row_take {NG base : Nat} {P : Program} {ρ : Rho} {H : Heap} {w : World} (hr : Rel NG base ρ H w) {b o k : Nat} {cs : List Value} {el : TypeId} {rig wr : Bool} {esz root : Nat}
    (hl : look H b = some (.cells cs el rig esz root wr)) (hk : o + k ≤ cs.length) :
    ∃ arr : Array Value, (loadCells ⟨ρ.blk b, ρ.off b + o, none⟩ k).run P w = .ok arr w ∧ VRs ρ ((cs.drop o).take k) arr.toList := by
  obtain ⟨ccs, fr, h0, hc⟩ := hr.obj b _ hl
  have hlen := hc.len
  refine ⟨_, run_loadRow h0 (ρ.off b + o) k (by omega), ?_⟩
  have := (hc.vrs.drop o).take k
  have e : ((((ccs.toList.drop (ρ.off b)).take cs.length).drop o).take k) = (ccs.toList.drop (ρ.off b + o)).take k := by
    rw [List.drop_take, List.drop_drop, List.take_take, Nat.min_eq_left (by omega)]
  rw [e] at this
  exact this

theorem srcCells_ok {NG base : Nat} {P : Program} {ρ : Rho} {H : Heap} {w : World} (hr : Rel NG base ρ H w) {size m : Nat} {x x' : Value} {l : List Value} (h : srcCells H size x = some (m, l)) (hx : VR ρ x x') :
    (∀ w, (Builtin.lenOf x').run P w = .ok m w) ∧ (∀ k, k ≤ m → ∃ arr : Array Value, (Builtin.firstCells size k x').run P w = .ok arr w ∧ VRs ρ (l.take (k * size)) arr.toList) ∧ l.length = m * size := by
  unfold srcCells at h
  split at h
  · simp only [Option.some.injEq, Prod.mk.injEq] at h
    obtain ⟨rfl, rfl⟩ := h
    cases hx
    exact ⟨fun w => rfl, fun k hk => ⟨#[], rfl, by simpa using VRs.nil ρ⟩, by simp⟩
  · rename_i b o m' c
    cases hm : Nat.beq m' 0 with
    | true =>
      simp only [hm, cond_true, Option.some.injEq, Prod.mk.injEq] at h
      obtain ⟨rfl, rfl⟩ := h
      have e := Nat.eq_of_beq_eq_true hm
      subst e
      refine ⟨fun w => by cases hx <;> rfl, fun k hk => ⟨#[], ?_, by simpa using VRs.nil ρ⟩, by simp⟩
      have : k = 0 := by omega
      subst this
      cases hx <;> simp [Builtin.firstCells, loadCells, loadCellsFrom]
    | false =>
      simp only [hm, cond_false] at h
      split at h
      · rename_i cs el rig esz root wr hl
        cases hb : Nat.ble (o + m' * size) cs.length with
        | false => simp [hb] at h
        | true =>
          simp only [hb, cond_true, Option.some.injEq, Prod.mk.injEq] at h
          obtain ⟨rfl, rfl⟩ := h
          have hle := Nat.le_of_ble_eq_true hb
          cases hx with
          | slice _ _ _ _ c' hd =>
            refine ⟨fun w => rfl, fun k hk => ?_, by simp; omega⟩
            have hks : k * size ≤ m' * size := Nat.mul_le_mul_right size hk
            obtain ⟨arr, h1, h2⟩ := row_take (P := P) hr hl (o := o) (k := k * size) (by omega)
            refine ⟨arr, h1, ?_⟩
            rw [List.take_take, Nat.min_eq_left hks]
            exact h2
          | sliceE => simp at hm
      · cases h
  · rename_i s
    cases hb : Nat.beq size 1 with
    | false => simp [hb] at h
    | true =>
      have e := Nat.eq_of_beq_eq_true hb
      subst e
      simp only [hb, cond_true, Option.some.injEq, Prod.mk.injEq] at h
      obtain ⟨rfl, rfl⟩ := h
      cases hx
      refine ⟨fun w => by simp [Builtin.lenOf], fun k hk => ?_, by simp⟩
      refine ⟨(s.extract 0 k).data.map fun b => .int .u8 b.toNat, rfl, ?_⟩
      have e2 : ((s.extract 0 k).data.map fun b => Value.int .u8 b.toNat).toList = (s.data.toList.map fun b => Value.int .u8 b.toNat).take (k * 1) := by
        rw [bext_eq]
        simp [bext]
      rw [e2]
      exact VRs.refl fun y hy => by
        obtain ⟨b, _, rfl⟩ := List.mem_map.1 (List.mem_of_mem_take hy)
        exact .int _ _
  · cases h

/-- append where there is room. -/
theorem run_append_fit {P : Program} {st xt e ty : TypeId} {ie : TypeInfo} {ts : Array TypeId} {w w' : World} {n m c' : Nat} {a : Addr} {x' : Value} {news : Array Value} (ht0 : ts[0]? = some st) (ht1 : ts[1]? = some xt)
    (hu : P.underlying st = some (.slice e)) (hi : P.info? e = some ie) {dx : TypeDesc} (hx : P.underlying xt = some dx) (hxi : ∀ k, dx ≠ .int k) (hlen : (Builtin.lenOf x').run P w = .ok m w) (hfit : n + m ≤ c')
    (hsrc : (Builtin.firstCells ie.size m x').run P w = .ok news w) (hst : (storeCells (a.add (n * ie.size)) news.toList).run P w = .ok () w') :
    (Builtin.append_ ts ty #[.slice (some a) n c', x']).run P w = .ok (.slice (some a) (n + m) c') w' := by
  have hz : (match dx with | .int _ => true | _ => false) = false := by cases dx <;> first | rfl | exact absurd rfl (hxi _)
  simp only [Builtin.append_, ht0, ht1, List.getElem?_toArray, List.getElem?_cons_zero, List.getElem?_cons_succ, Sem.run_bind, run_underlying hu, run_underlying hx, Result.andThen_ok, sizeOf, typeInfo, program, Sem.run, hi, Sem.run_pure]
  simp [hlen, hfit, hsrc, hst]

/-- append where it must grow. -/
theorem run_append_grow {P : Program} {st xt e ty : TypeId} {ie : TypeInfo} {z : Value} {ts : Array TypeId} {w : World} {n m c' : Nat} {base : Option Addr} {x' : Value} {old news : Array Value} (ht0 : ts[0]? = some st) (ht1 : ts[1]? = some xt)
    (hu : P.underlying st = some (.slice e)) (hi : P.info? e = some ie) (hz : ie.zero = some z) {dx : TypeDesc} (hx : P.underlying xt = some dx) (hxi : ∀ k, dx ≠ .int k) (hlen : (Builtin.lenOf x').run P w = .ok m w) (hfit : c' < n + m)
    (hbig : (n + m) * ie.bytes ≤ 140737488355328) (hmax : n + m ≤ 9223372036854775807)
    (hold : (Builtin.firstCells ie.size n (.slice base n c')).run P w.drew = .ok old w.drew)
    (hsrc : (Builtin.firstCells ie.size m x').run P w.drew = .ok news w.drew) :
    (Builtin.append_ ts ty #[.slice base n c', x']).run P w =
      .ok (.slice (some ⟨w.heap.size, 0, none⟩) (n + m) (grownCap w (n + m) c' e))
        (w.drew.alloc (.cells (old ++ news ++ Builtin.zeroCells z.cells (grownCap w (n + m) c' e - (n + m))) e)) := by
  have hzz : (match dx with | .int _ => true | _ => false) = false := by cases dx <;> first | rfl | exact absurd rfl (hxi _)
  have hg : ¬ (Builtin.nextslicecap (n + m) c' * ie.bytes > 2 ^ 48) := by
    have := growslice_fits (bytes := ie.bytes) hfit hbig
    omega
  have hm : ¬ (((n + m : Nat) : Int) > IntKind.i64.max) := by
    have : IntKind.i64.max = 9223372036854775807 := by decide
    rw [this]; omega
  have hno : ¬ (n + m ≤ c') := by omega
  have hroom : ∀ k w, (askRoom k).run P w = .ok () w := fun k w => by unfold askRoom; split <;> rfl
  have h1 : ∀ w, (typeInfo e).run P w = .ok ie w := fun w => run_typeInfo w hi
  have h2 : ∀ w, (sizeOf e).run P w = .ok ie.size w := fun w => by simp [sizeOf, h1]
  have h3 : ∀ w, (zeroValue e).run P w = .ok z w := fun w => by simp [zeroValue, h1, hz]
  have hch : (choose (.appendCap (n + m) c' e)).run P w = .ok (grownCap w (n + m) c' e) w.drew := by
    rfl
  unfold Builtin.append_
  simp only [ht0, ht1, List.getElem?_toArray, List.getElem?_cons_zero, List.getElem?_cons_succ, Sem.run_bind, run_underlying hu, run_underlying hx, Result.andThen_ok, h2, Sem.run_pure, Bool.false_eq_true, if_false, hlen, if_neg hno, h1, hm, false_and, if_neg hg, hch, hroom, Bool.not_false, if_true, hold, hsrc, h3, newRow, newObj, Sem.run, false_or]
  rfl

def isSrc (P : Program) (t : TypeId) : Bool := match P.underlying t with
  | some (.slice _) => true
  | some .string => true
  | _ => false

/-- The block to which something may have been appended in place: what may lie in the same memory goes, and the block itself if what it holds may have been written over. -/
def afterAppend (H : Heap) (b root at_ len : Nat) : Heap := H.only root (cond (Nat.ble len at_) [b] [])

theorem look_after {H : Heap} {b root at_ len : Nat} {cs : List Value} {el : TypeId} {rig wr : Bool} {esz : Nat} (hb : look H b = some (.cells cs el rig esz root wr)) {x : Nat} {y : AObj} (h : look (afterAppend H b root at_ len) x = some y) :
    look H x = some y ∧ (x ≠ b → rootOf y ≠ some root) ∧ (x = b → rootOf y = some root → len ≤ at_) := by
  have hm : ∀ z, memb (cond (Nat.ble len at_) [b] []) z = true → z = b ∧ len ≤ at_ := by
    intro z hz
    cases hl : Nat.ble len at_ with
    | false => rw [hl] at hz; cases hz
    | true =>
      rw [hl] at hz
      simp only [cond_true, memb] at hz
      cases hbz : Nat.beq b z with
      | true => exact ⟨(Nat.eq_of_beq_eq_true hbz).symm, Nat.le_of_ble_eq_true hl⟩
      | false => rw [hbz] at hz; cases hz
  obtain ⟨h1, h2⟩ := look_only (fun z hz => by
    obtain ⟨rfl, _⟩ := hm z hz
    exact (look_some hb).2.2 root rfl) h
  exact ⟨h1, fun hx hr => hx (hm x (h2 hr)).1, fun _ hr => (hm x (h2 hr)).2⟩

def aappend (P : Program) (H : Heap) (ts : List TypeId) (vs : List Value) : Option (Value × Heap) :=
  match ts, vs with
  | st :: xt :: _, [s, x] => match P.underlying st with
    | some (.slice e) => match P.info? e, zeroOf P e with
      | some ie, some z => cond (isSrc P xt && Nat.ble 1 ie.size && Nat.beq z.cells.toList.length ie.size && Nat.ble ie.bytes 65536)
        (match srcCells H ie.size x with
         | some (m, news) => cond (Nat.ble m 16777216 && news.all oneC)
           (match s with
            | .slice none 0 0 => cond (Nat.beq m 0) (some (s, H)) (some (.slice (some ⟨H.next, 0, none⟩) m m, H.push (.cells news e false ie.size H.next true)))
            | .slice (some ⟨b, o, none⟩) n c => cond (Nat.beq m 0) (some (s, H))
              (match look H b with
               | some (.cells cs el rig esz root wr) => cond (Nat.ble (o + n * ie.size) cs.length && Nat.ble n 16777216)
                 (cond (rig && Nat.ble c n)
                   (some (.slice (some ⟨H.next, 0, none⟩) (n + m) (n + m), H.push (.cells ((cs.drop o).take (n * ie.size) ++ news) e false ie.size H.next true)))
                   (cond (wr && Nat.ble H.wmin b && Nat.beq el e && (cond rig (Nat.ble (o + c * ie.size) cs.length) (Nat.beq esz ie.size)))
                     (some (.slice (some ⟨H.next, 0, none⟩) (n + m) (n + m),
                       (afterAppend H b root (o + n * ie.size) cs.length).push (.cells ((cs.drop o).take (n * ie.size) ++ news) e false ie.size root true))) none)) none
               | _ => none)
            | _ => none) none
         | none => none) none
      | _, _ => none
    | _ => none
  | _, _ => none

/-- A new row with room behind it. -/
theorem new_rubber {NG base : Nat} {ρ : Rho} {H : Heap} {w w' : World} (hr : Rel NG base ρ H w) (hf : ¬ ρ.dom H.next) (cs : List Value) (ccs : Array Value) (el : TypeId) (esz n c root : Nat) (fr : Nat × Nat)
    (hw' : w'.heap = w.heap.push (.cells ccs el fr)) (hos : w'.os = w.os) (htape : w'.tape = w.tape) (hout : w'.output = w.output)
    (hv : VRs ρ cs (ccs.toList.take cs.length)) (hlen : cs.length ≤ ccs.size) (hcap : c * esz = ccs.size) (hn : n ≤ c) (hfr : ∀ k, k < ccs.size → ¬ (fr.1 ≤ k ∧ k < fr.2)) :
    ∃ ρ', VR ρ' (.slice (some ⟨H.next, 0, none⟩) n n) (.slice (some ⟨w.heap.size, 0, none⟩) n c) ∧ Post NG base ρ H (H.push (.cells cs el false esz root true)) w w' ρ' := by
  have e := Rho.ext_new (ρ := ρ) hf w.heap.size 0 ccs.size esz false
  refine ⟨ρ.new H.next w.heap.size 0 ccs.size esz false, ?_, Post.alloc' hr hf 0 ccs.size esz false hw' hos htape hout ⟨ccs, fr, ?_, ?_⟩⟩
  · have := VR.slice (ρ := ρ.new H.next w.heap.size 0 ccs.size esz false) H.next 0 n n c (.inl rfl) (Nat.le_refl _) hn
      (fun h => by rw [show (ρ.new H.next w.heap.size 0 ccs.size esz false).rig H.next = false from if_pos rfl] at h; cases h)
      (fun _ => by
        rw [show (ρ.new H.next w.heap.size 0 ccs.size esz false).off H.next = 0 from if_pos rfl, show (ρ.new H.next w.heap.size 0 ccs.size esz false).esz H.next = esz from if_pos rfl,
          show (ρ.new H.next w.heap.size 0 ccs.size esz false).tot H.next = ccs.size from if_pos rfl]
        omega)
    rw [show (ρ.new H.next w.heap.size 0 ccs.size esz false).blk H.next = w.heap.size from if_pos rfl, show (ρ.new H.next w.heap.size 0 ccs.size esz false).off H.next = 0 from if_pos rfl] at this
    exact this
  · rw [show (ρ.new H.next w.heap.size 0 ccs.size esz false).blk H.next = w.heap.size from if_pos rfl, hw']
    simp
  · refine ⟨if_pos rfl, if_pos rfl, if_pos rfl, ?_, (fun h => by cases h), fun i v hi => ?_, fun _ k h1 h2 => hfr k h2⟩
    · rw [show (ρ.new H.next w.heap.size 0 ccs.size esz false).off H.next = 0 from if_pos rfl]; omega
    · obtain ⟨y, hy, hxy⟩ := hv.get hi
      refine ⟨y, ?_, hxy.mono e⟩
      rw [show (ρ.new H.next w.heap.size 0 ccs.size esz false).off H.next = 0 from if_pos rfl]
      rw [List.getElem?_take] at hy
      split at hy
      · simpa using hy
      · cases hy

theorem Post.inplace {NG base : Nat} {ρ : Rho} {H : Heap} {w w' : World} {b : Nat} {cs : List Value} {el : TypeId} {rig : Bool} {esz root : Nat} (hr : Rel NG base ρ H w) (hf : ¬ ρ.dom H.next)
    (hb : look H b = some (.cells cs el rig esz root true)) (hm : H.wmin ≤ b)
    {ccs ccs' : Array Value} {fr : Nat × Nat} (h0 : w.heap[ρ.blk b]? = some (.cells ccs el fr)) (hc : CellsR ρ b cs rig esz true ccs fr) (h1 : w'.heap[ρ.blk b]? = some (.cells ccs' el fr)) (hs : ccs'.size = ccs.size)
    (hother : ∀ k, k ≠ ρ.blk b → w'.heap[k]? = w.heap[k]?) (hsize : w'.heap.size = w.heap.size) (hos : w'.os = w.os) (htape : w'.tape = w.tape) (hout : w'.output = w.output)
    (at_ o2 : Nat) (hkeep : ∀ k, k < ρ.off b + at_ → ccs'[k]? = ccs[k]?) (cs2 : List Value) (esz' n c c' : Nat) (hv : VRs ρ cs2 ((ccs'.toList.drop (ρ.off b + o2)).take cs2.length)) (hl2 : ρ.off b + o2 + cs2.length ≤ ccs.size)
    (hn : n ≤ c) (hcc : c ≤ c') (hcap : ρ.off b + o2 + c' * esz' ≤ ccs.size) :
    ∃ ρ', VR ρ' (.slice (some ⟨H.next, 0, none⟩) n c) (.slice (some ⟨ρ.blk b, ρ.off b + o2, none⟩) n c') ∧
      Post NG base ρ H ((afterAppend H b root at_ cs.length).push (.cells cs2 el false esz' root true)) w w' ρ' := by
  have e := Rho.ext_new (ρ := ρ) hf (ρ.blk b) (ρ.off b + o2) ccs.size esz' false
  have nb : (ρ.new H.next (ρ.blk b) (ρ.off b + o2) ccs.size esz' false).blk H.next = ρ.blk b := if_pos rfl
  have no : (ρ.new H.next (ρ.blk b) (ρ.off b + o2) ccs.size esz' false).off H.next = ρ.off b + o2 := if_pos rfl
  have nr : (ρ.new H.next (ρ.blk b) (ρ.off b + o2) ccs.size esz' false).rig H.next = false := if_pos rfl
  have nt : (ρ.new H.next (ρ.blk b) (ρ.off b + o2) ccs.size esz' false).tot H.next = ccs.size := if_pos rfl
  have ne : (ρ.new H.next (ρ.blk b) (ρ.off b + o2) ccs.size esz' false).esz H.next = esz' := if_pos rfl
  have hbase := hr.own b _ hb rfl
  refine ⟨ρ.new H.next (ρ.blk b) (ρ.off b + o2) ccs.size esz' false, ?_, ?_⟩
  · have := VR.slice (ρ := ρ.new H.next (ρ.blk b) (ρ.off b + o2) ccs.size esz' false) H.next 0 n c c' (.inl rfl) hn hcc (fun h => by rw [nr] at h; cases h) (fun _ => by rw [no, nt, ne]; omega)
    rw [nb, no] at this
    exact this
  · -- what is left of the old blocks
    obtain ⟨L, hL⟩ : ∃ L, L = afterAppend H b root at_ cs.length := ⟨_, rfl⟩
    have hLn : L.next = H.next ∧ L.wmin = H.wmin ∧ L.hide = H.hide := by rw [hL]; exact ⟨rfl, rfl, rfl⟩
    have hin : ∀ x y, look L x = some y → look H x = some y ∧ (x ≠ b → ρ.blk x ≠ ρ.blk b) ∧ (x = b → cs.length ≤ at_) := by
      intro x y hy
      rw [hL] at hy
      obtain ⟨q1, q2, q3⟩ := look_after hb hy
      refine ⟨q1, fun hx he => ?_, fun hx => ?_⟩
      · have := hr.sep b x _ y hb q1 (fun e => hx e.symm) rfl he.symm
        obtain ⟨r, r1, r2⟩ := (sameRoot_eq _ _).1 this
        simp only [rootOf, Option.some.injEq] at r1
        subst r1
        exact q2 hx r2
      · subst hx
        have : y = .cells cs el rig esz root true := Option.some.inj (q1.symm.trans hb)
        subst this
        exact q3 rfl rfl
    have hLh : ∀ p ∈ L.hide, p.2 ≤ L.next := by rw [hLn.2.2, hLn.1]; exact hr.hide
    have hp : ∀ x, look ((afterAppend H b root at_ cs.length).push (.cells cs2 el false esz' root true)) x = if x = H.next then some (.cells cs2 el false esz' root true) else look L x := by
      intro x
      rw [← hL, look_push hLh, hLn.1]
    have hlt : ∀ x y, look L x = some y → x ≠ H.next := fun x y hy he => by
      have := hr.lt x y (hin x y hy).1
      omega
    have hobjb : ObjRel ρ w' b (.cells cs el rig esz root true) ∨ ¬ cs.length ≤ at_ := by
      by_cases hle : cs.length ≤ at_
      · left
        refine ⟨ccs', fr, h1, ⟨by rw [hs]; exact hc.tot, hc.rig, hc.esz, by rw [hs]; exact hc.len, fun h => by rw [hs]; exact hc.full h, fun i v hi => ?_, fun h k k1 k2 => hc.free h k k1 (by omega)⟩⟩
        obtain ⟨v', q1, q2⟩ := hc.cell i v hi
        have hi' := (List.getElem?_eq_some_iff.1 hi).1
        exact ⟨v', by rw [hkeep _ (by omega)]; exact q1, q2⟩
      · exact .inr hle
    have hbel : Go.RowKit.Below base w w' := ⟨hos, htape, hout, by omega, fun k hk => hother k (by omega)⟩
    refine ⟨e, ⟨hr.glob.mono e, ?_, ?_, ?_, ?_, ?_, ?_, by rw [hsize]; exact hr.hb⟩, ?_, Nat.le_succ _, rfl, hbel, fun k _ hno => hother k (fun e => hno b _ hb rfl hm e.symm), ?_, ?_⟩
    · intro p hpp
      exact Nat.le_succ_of_le (hr.hide p hpp)
    · intro x y hy
      rw [hp] at hy
      by_cases hx : x = H.next
      · subst hx; exact Nat.lt_succ_self _
      · rw [if_neg hx] at hy; exact Nat.lt_succ_of_lt (hr.lt x y (hin x y hy).1)
    · intro x y hy
      rw [hp] at hy
      by_cases hx : x = H.next
      · exact .inl hx
      · rw [if_neg hx] at hy; exact .inr (hr.dom x y (hin x y hy).1)
    · intro x y hy
      rw [hp] at hy
      by_cases hx : x = H.next
      · subst hx
        rw [if_pos rfl] at hy
        cases hy
        refine ⟨ccs', fr, by rw [nb]; exact h1, ⟨by rw [nt]; exact hs.symm, nr, ne, by rw [no]; omega, (fun h => by cases h), fun i v hi => ?_, fun _ k k1 k2 => hc.free rfl k (by rw [no] at k1; omega) (by omega)⟩⟩
        obtain ⟨y, hy, hxy⟩ := hv.get hi
        refine ⟨y, ?_, hxy.mono e⟩
        rw [no]
        rw [List.getElem?_take] at hy
        split at hy
        · rw [List.getElem?_drop] at hy; simpa using hy
        · cases hy
      · rw [if_neg hx] at hy
        obtain ⟨q1, q2, q3⟩ := hin x y hy
        have hd := hr.dom x y q1
        by_cases hxb : x = b
        · subst hxb
          have hy' : y = .cells cs el rig esz root true := Option.some.inj (q1.symm.trans hb)
          subst hy'
          exact (hobjb.resolve_right (fun h => h (q3 rfl))).mono hd e
        · exact ((hr.obj x y q1).congr (hother _ (q2 hxb))).mono hd e
    · intro x y hy hw
      rw [hp] at hy
      by_cases hx : x = H.next
      · subst hx; rw [nb]; exact hbase
      · rw [if_neg hx] at hy
        have q1 := (hin x y hy).1
        rw [e.blk x (hr.dom x y q1)]
        exact hr.own x y q1 hw
    · intro x x' y y' hy hy' hne hw he
      rw [hp] at hy hy'
      by_cases hx : x = H.next
      · subst hx
        rw [if_pos rfl] at hy
        cases hy
        rw [if_neg (fun h => hne h.symm)] at hy'
        obtain ⟨q1, q2, q3⟩ := hin x' y' hy'
        rw [nb, e.blk x' (hr.dom x' y' q1)] at he
        by_cases hxb : x' = b
        · subst hxb
          have hy2 : y' = .cells cs el rig esz root true := Option.some.inj (q1.symm.trans hb)
          subst hy2
          exact Nat.beq_refl root
        · exact absurd he.symm (q2 hxb)
      · rw [if_neg hx] at hy
        obtain ⟨q1, q2, q3⟩ := hin x y hy
        by_cases hx' : x' = H.next
        · subst hx'
          rw [if_pos rfl] at hy'
          cases hy'
          rw [nb, e.blk x (hr.dom x y q1)] at he
          by_cases hxb : x = b
          · subst hxb
            have hy2 : y = .cells cs el rig esz root true := Option.some.inj (q1.symm.trans hb)
            subst hy2
            exact Nat.beq_refl root
          · exact absurd he (q2 hxb)
        · rw [if_neg hx'] at hy'
          obtain ⟨q1', _, _⟩ := hin x' y' hy'
          rw [e.blk x (hr.dom x y q1), e.blk x' (hr.dom x' y' q1')] at he
          exact hr.sep x x' y y' q1 q1' hne hw he
    · intro x hx
      rcases hx with hx | hx
      · exact .inr ⟨by omega, by simp [Heap.push, afterAppend, Heap.only]; omega⟩
      · exact .inl hx
    · intro x y hy hd
      rw [hp] at hy
      by_cases hx : x = H.next
      · subst hx; exact .inr ⟨b, _, hb, rfl, hm, nb⟩
      · rw [if_neg hx] at hy; exact absurd (hr.dom x y (hin x y hy).1) hd
    · intro x y hy hd
      rw [hp] at hy
      by_cases hx : x = H.next
      · exact absurd (hx ▸ hd) hf
      · rw [if_neg hx] at hy; exact ⟨y, (hin x y hy).1, id⟩

theorem isSrc_spec {P : Program} {t : TypeId} (h : isSrc P t = true) : ∃ d, P.underlying t = some d ∧ ∀ k, d ≠ .int k := by
  unfold isSrc at h
  split at h
  · rename_i e he; exact ⟨_, he, fun k e => by cases e⟩
  · rename_i he; exact ⟨_, he, fun k e => by cases e⟩
  · cases h

theorem zeroCells_size (z : Array Value) (n : Nat) : (Builtin.zeroCells z n).size = n * z.size := by simp [Builtin.zeroCells]

theorem aappend_ok {P : Program} {NG base : Nat} {ρ : Rho} {H H' : Heap} {w : World} {ts : Array TypeId} {ty : TypeId} {vs : List Value} {args : Array Value} {v : Value} (hr : Rel NG base ρ H w) (hf : ¬ ρ.dom H.next)
    (h : aappend P H ts.toList vs = some (v, H')) (hv : VRs ρ vs args.toList) : ∃ v' w' ρ', (Builtin.append_ ts ty args).run P w = .ok v' w' ∧ VR ρ' v v' ∧ Post NG base ρ H H' w w' ρ' := by
  unfold aappend at h
  split at h
  · rename_i st xt rest s x hts
    have ht0 : ts[0]? = some st := by
      have : ts.toList[0]? = some st := by rw [hts]; rfl
      simpa using this
    have ht1 : ts[1]? = some xt := by
      have : ts.toList[1]? = some xt := by rw [hts]; rfl
      simpa using this
    obtain ⟨s', r1, e1, hs, hr1⟩ := hv.cons_inv
    obtain ⟨x', r2, rfl, hx, hr2⟩ := hr1.cons_inv
    have := hr2.nil_inv
    subst this
    have ea : args = #[s', x'] := by apply Array.ext'; simpa using e1
    subst ea
    split at h
    · rename_i e hu
      split at h
      · rename_i ie z hi hz
        obtain ⟨⟨ie', hie', hzz⟩, _⟩ := zeroOf_spec hz
        have : ie' = ie := Option.some.inj (hie'.symm.trans hi)
        subst this
        cases hcond : (isSrc P xt && Nat.ble 1 ie'.size && Nat.beq z.cells.toList.length ie'.size && Nat.ble ie'.bytes 65536) with
        | false => rw [hcond] at h; cases h
        | true =>
          simp only [hcond, cond_true] at h
          simp only [Bool.and_eq_true] at hcond
          obtain ⟨⟨⟨c1, c2⟩, c3⟩, c4⟩ := hcond
          obtain ⟨dx, hux, hxi⟩ := isSrc_spec c1
          have hsz1 := Nat.le_of_ble_eq_true c2
          have hzs : z.cells.size = ie'.size := by have := Nat.eq_of_beq_eq_true c3; simpa using this
          have hby := Nat.le_of_ble_eq_true c4
          split at h
          · rename_i m news hsrc
            cases hc2 : (Nat.ble m 16777216 && news.all oneC) with
            | false => rw [hc2] at h; cases h
            | true =>
              simp only [hc2, cond_true] at h
              simp only [Bool.and_eq_true] at hc2
              have hm := Nat.le_of_ble_eq_true hc2.1
              obtain ⟨hlen, hfirst, hnl⟩ := srcCells_ok (P := P) hr hsrc hx
              obtain ⟨_, hfirstD, _⟩ := srcCells_ok (P := P) (Rel.drew hr) hsrc hx
              obtain ⟨arr, ha, hva⟩ := hfirst m (Nat.le_refl m)
              obtain ⟨arrD, haD, hvaD⟩ := hfirstD m (Nat.le_refl m)
              rw [List.take_of_length_le (by omega)] at hva hvaD
              split at h
              · -- a nil slice
                have es : s' = .slice none 0 0 := by cases hs; rfl
                subst es
                cases hm0 : Nat.beq m 0 with
                | true =>
                  simp only [hm0, cond_true, Option.some.injEq, Prod.mk.injEq] at h
                  obtain ⟨rfl, rfl⟩ := h
                  have e0 := Nat.eq_of_beq_eq_true hm0
                  subst e0
                  refine ⟨.slice none 0 0, w, ρ, ?_, .snil _ _, Post.refl hr⟩
                  have hzz2 : (match dx with | .int _ => true | _ => false) = false := by cases dx <;> first | rfl | exact absurd rfl (hxi _)
                  have q1 : ∀ w, (sizeOf e).run P w = .ok ie'.size w := fun w => by simp [sizeOf, run_typeInfo w hi]
                  unfold Builtin.append_
                  simp only [ht0, ht1, List.getElem?_toArray, List.getElem?_cons_zero, List.getElem?_cons_succ, Sem.run_bind, run_underlying hu, run_underlying hux, Result.andThen_ok, q1, Sem.run_pure, Bool.false_eq_true, if_false, hlen, Nat.add_zero, Nat.le_refl, if_true, Bool.not_false, ha]
                | false =>
                  simp only [hm0, cond_false, Option.some.injEq, Prod.mk.injEq] at h
                  obtain ⟨rfl, rfl⟩ := h
                  have e0 := Nat.ne_of_beq_eq_false hm0
                  have hrun := run_append_grow (P := P) (ty := ty) (w := w) (n := 0) (c' := 0) (base := none) (old := #[]) ht0 ht1 hu hi hzz hux hxi (hlen w) (by omega)
                    (by have := Nat.mul_le_mul (show 0 + m ≤ 16777216 by omega) hby; omega) (by omega) rfl haD
                  have hge := grownCap_ge w (0 + m) 0 e
                  have hal : arrD.size = m * ie'.size := by have := hvaD.1; simp at this; omega
                  obtain ⟨ρ', p1, p2⟩ := new_rubber (w' := w.drew.alloc (.cells (#[] ++ arrD ++ Builtin.zeroCells z.cells (grownCap w (0 + m) 0 e - (0 + m))) e)) hr hf news _ e ie'.size m (grownCap w (0 + m) 0 e) H.next (0, 0) rfl rfl rfl rfl
                    (by
                      have : (#[] ++ arrD ++ Builtin.zeroCells z.cells (grownCap w (0 + m) 0 e - (0 + m))).toList.take news.length = arrD.toList := by
                        simp only [Array.toList_append, List.nil_append]
                        rw [List.take_append_of_le_length (by simp; omega), List.take_of_length_le (by simp; omega)]
                      rw [this]; exact hvaD)
                    (by simp; omega)
                    (by
                      have hh : m * ie'.size + (grownCap w (0 + m) 0 e - m) * ie'.size = grownCap w (0 + m) 0 e * ie'.size := by rw [← Nat.add_mul]; congr 1; omega
                      simp only [Array.size_append, zeroCells_size, hal, hzs, Array.size_empty]
                      rw [← hh, Nat.zero_add, Nat.zero_add])
                    (by omega) (by intro k _ hk; omega)
                  simp only [Nat.zero_add] at hrun p1 p2
                  exact ⟨_, _, ρ', hrun, p1, p2⟩
              · rename_i b o n c
                cases hm0 : Nat.beq m 0 with
                | true =>
                  simp only [hm0, cond_true, Option.some.injEq, Prod.mk.injEq] at h
                  obtain ⟨rfl, rfl⟩ := h
                  have e0 := Nat.eq_of_beq_eq_true hm0
                  subst e0
                  have hal : arr.toList = [] := by
                    have := hva.1
                    apply List.length_eq_zero_iff.1
                    omega
                  refine ⟨s', w, ρ, ?_, hs, Post.refl hr⟩
                  have key : ∀ (a : Addr) (n' c' : Nat), n' ≤ c' → (Builtin.append_ ts ty #[.slice (some a) n' c', x']).run P w = .ok (.slice (some a) n' c') w := fun a n' c' hn' =>
                    run_append_fit (P := P) (ty := ty) (n := n') (m := 0) ht0 ht1 hu hi hux hxi (hlen w) (by omega) ha (by rw [hal]; rfl)
                  cases hs with
                  | slice _ _ _ _ c' _ q1 q2 => exact key _ _ _ (by omega)
                  | sliceE => exact key _ _ _ (by omega)
                | false =>
                  simp only [hm0, cond_false] at h
                  have e0 := Nat.ne_of_beq_eq_false hm0
                  split at h
                  · rename_i cs el rig esz root wr hl
                    cases hc3 : (Nat.ble (o + n * ie'.size) cs.length && Nat.ble n 16777216) with
                    | false => rw [hc3] at h; cases h
                    | true =>
                      simp only [hc3, cond_true] at h
                      simp only [Bool.and_eq_true] at hc3
                      have hb1 := Nat.le_of_ble_eq_true hc3.1
                      have hb2 := Nat.le_of_ble_eq_true hc3.2
                      obtain ⟨ccs, fr, g0, gc⟩ := hr.obj b _ hl
                      have hlenb := gc.len
                      -- what the slice really is: where it lies, and its capacity
                      obtain ⟨o', c', hs', hnc, hadr⟩ : ∃ o' c', s' = .slice (some ⟨ρ.blk b, o', none⟩) n c' ∧ n ≤ c' ∧
                          ((o' = ρ.off b + o ∧ c ≤ c' ∧ (rig = true → c' = c) ∧ (rig = false → ρ.off b + o + c' * esz ≤ ccs.size)) ∨ (n = 0 ∧ c' = 0)) := by
                        cases hs with
                        | slice _ _ _ _ c' hd q1 q2 q3 q4 =>
                          exact ⟨_, c', rfl, by omega, .inl ⟨rfl, q2, fun h => q3 (by rw [gc.rig]; exact h), fun h => by have := q4 (by rw [gc.rig]; exact h); rw [gc.esz, gc.tot] at this; exact this⟩⟩
                        | sliceE _ _ o' hd => exact ⟨o', 0, rfl, Nat.le_refl 0, .inr ⟨rfl, rfl⟩⟩
                      subst hs'
                      -- the old cells
                      have hold : ∃ oldD : Array Value, (Builtin.firstCells ie'.size n (.slice (some ⟨ρ.blk b, o', none⟩) n c')).run P w.drew = .ok oldD w.drew ∧ VRs ρ ((cs.drop o).take (n * ie'.size)) oldD.toList := by
                        rcases hadr with ⟨rfl, _⟩ | ⟨rfl, _⟩
                        · obtain ⟨oldD, q1, q2⟩ := row_take (P := P) (Rel.drew hr) hl (o := o) (k := n * ie'.size) hb1
                          exact ⟨oldD, q1, q2⟩
                        · exact ⟨#[], by simp [Builtin.firstCells, loadCells, loadCellsFrom], by simpa using VRs.nil ρ⟩
                      obtain ⟨oldD, hoD, hvoD⟩ := hold
                      have hol : oldD.size = n * ie'.size := by have := hvoD.1; simp at this; omega
                      have hal : arrD.size = m * ie'.size := by have := hvaD.1; simp at this; omega
                      have hfl : ((cs.drop o).take (n * ie'.size)).length = n * ie'.size := by simp; omega
                      -- where it grows
                      have grow : ∀ rt, c' < n + m → ∃ ρ' w', (Builtin.append_ ts ty #[.slice (some ⟨ρ.blk b, o', none⟩) n c', x']).run P w = .ok (.slice (some ⟨w.heap.size, 0, none⟩) (n + m) (grownCap w (n + m) c' e)) w' ∧
                          VR ρ' (.slice (some ⟨H.next, 0, none⟩) (n + m) (n + m)) (.slice (some ⟨w.heap.size, 0, none⟩) (n + m) (grownCap w (n + m) c' e)) ∧
                          Post NG base ρ H (H.push (.cells ((cs.drop o).take (n * ie'.size) ++ news) e false ie'.size rt true)) w w' ρ' := by
                        intro rt hgt
                        have hrun := run_append_grow (P := P) (ty := ty) (w := w) (n := n) (c' := c') (base := some ⟨ρ.blk b, o', none⟩) (old := oldD) ht0 ht1 hu hi hzz hux hxi (hlen w) hgt
                          (by have := Nat.mul_le_mul (show n + m ≤ 33554432 by omega) hby; omega) (by omega) hoD haD
                        have hge := grownCap_ge w (n + m) c' e
                        obtain ⟨ρ', p1, p2⟩ := new_rubber (w' := w.drew.alloc (.cells (oldD ++ arrD ++ Builtin.zeroCells z.cells (grownCap w (n + m) c' e - (n + m))) e)) hr hf ((cs.drop o).take (n * ie'.size) ++ news) _ e ie'.size (n + m)
                          (grownCap w (n + m) c' e) rt (0, 0) rfl rfl rfl rfl
                          (by
                            have : (oldD ++ arrD ++ Builtin.zeroCells z.cells (grownCap w (n + m) c' e - (n + m))).toList.take ((cs.drop o).take (n * ie'.size) ++ news).length = oldD.toList ++ arrD.toList := by
                              simp only [Array.toList_append, List.length_append, hfl]
                              rw [List.take_append_of_le_length (by simp; omega), List.take_of_length_le (by simp; omega)]
                            rw [this]; exact hvoD.append hvaD)
                          (by simp only [List.length_append, hfl, Array.size_append]; omega)
                          (by
                            have hh : n * ie'.size + m * ie'.size + (grownCap w (n + m) c' e - (n + m)) * ie'.size = grownCap w (n + m) c' e * ie'.size := by rw [← Nat.add_mul, ← Nat.add_mul]; congr 1; omega
                            simp only [Array.size_append, zeroCells_size, hal, hol, hzs]
                            rw [← hh])
                          hge (by intro k _ hk; omega)
                        exact ⟨ρ', _, hrun, p1, p2⟩
                      cases hroom : (rig && Nat.ble c n) with
                      | true =>
                        simp only [hroom, cond_true, Option.some.injEq, Prod.mk.injEq] at h
                        obtain ⟨rfl, rfl⟩ := h
                        simp only [Bool.and_eq_true] at hroom
                        have hcn := Nat.le_of_ble_eq_true hroom.2
                        obtain ⟨ρ', w', q1, q2, q3⟩ := grow H.next (by
                          rcases hadr with ⟨_, q1, q2, _⟩ | ⟨q1, q2⟩
                          · have := q2 hroom.1; omega
                          · omega)
                        exact ⟨_, w', ρ', q1, q2, q3⟩
                      | false =>
                        simp only [hroom, cond_false] at h
                        cases hc4 : (wr && Nat.ble H.wmin b && Nat.beq el e && (cond rig (Nat.ble (o + c * ie'.size) cs.length) (Nat.beq esz ie'.size))) with
                        | false => rw [hc4] at h; cases h
                        | true =>
                          simp only [hc4, cond_true, Option.some.injEq, Prod.mk.injEq] at h
                          obtain ⟨rfl, rfl⟩ := h
                          simp only [Bool.and_eq_true] at hc4
                          obtain ⟨⟨⟨d1, d2⟩, d3⟩, d4⟩ := hc4
                          subst d1
                          have hmin := Nat.le_of_ble_eq_true d2
                          have hel := Nat.eq_of_beq_eq_true d3
                          subst hel
                          by_cases hgt : c' < n + m
                          · obtain ⟨ρ', w', q1, q2, q3⟩ := grow root hgt
                            refine ⟨_, w', ρ', q1, q2, q3.forget (fun x y hy => ?_) (Nat.le_refl _) rfl (fun p hp => Nat.le_succ_of_le (hr.hide p hp))⟩
                            rw [look_push (H := afterAppend H b root (o + n * ie'.size) cs.length) hr.hide] at hy
                            rw [look_push hr.hide]
                            have hnn : (afterAppend H b root (o + n * ie'.size) cs.length).next = H.next := rfl
                            rw [hnn] at hy
                            by_cases hx : x = H.next
                            · rw [if_pos hx] at hy ⊢; exact hy
                            · rw [if_neg hx] at hy ⊢; exact (look_after hl hy).1
                          · -- in place
                            rcases hadr with ⟨rfl, q1, q2, q3⟩ | ⟨_, q2⟩
                            · have hfit : ρ.off b + o + c' * ie'.size ≤ ccs.size := by
                                cases rig with
                                | true =>
                                  have := q2 rfl
                                  subst this
                                  have := Nat.le_of_ble_eq_true d4
                                  omega
                                | false =>
                                  have hes := Nat.eq_of_beq_eq_true d4
                                  subst hes
                                  exact q3 rfl
                              have hmul : n * ie'.size + m * ie'.size ≤ c' * ie'.size := by rw [← Nat.add_mul]; exact Nat.mul_le_mul_right _ (by omega)
                              have harrl : arr.toList.length = m * ie'.size := by have := hva.1; omega
                              have harrs : arr.size = m * ie'.size := by simpa using harrl
                              obtain ⟨flo, fhi⟩ := fr
                              obtain ⟨ccs', s1, s2⟩ := heap_setCells arr.toList (ρ.off b + o + n * ie'.size) ccs w g0 (by omega)
                              have hst := run_storeCells_cells (P := P) (ρ.blk b) (ρ.off b + o + n * ie'.size) arr.toList 0 w (fun j hj => by
                                rw [cell_at g0]
                                have : ρ.off b + o + n * ie'.size + 0 + j < ccs.size := by omega
                                rw [Array.getElem?_eq_getElem this]; rfl) (fun j hj => by
                                rw [frozen_at g0]
                                have := gc.free rfl (ρ.off b + o + n * ie'.size + 0 + j) (by omega) (by omega)
                                simp only at this
                                rw [Bool.eq_false_iff]
                                intro hh
                                simp only [Bool.and_eq_true, decide_eq_true_eq] at hh
                                exact this hh) (fun u hu' => by
                                obtain ⟨i, hi'⟩ := List.getElem?_of_mem hu'
                                have hi2 : i < news.length := by rw [hva.1]; exact (List.getElem?_eq_some_iff.1 hi').1
                                have := hva.2 i news[i] u (List.getElem?_eq_getElem hi2) hi'
                                exact this.oneC (List.all_eq_true.1 hc2.2 _ (List.getElem_mem hi2)))
                              have hrun := run_append_fit (P := P) (ty := ty) (n := n) (m := m) (c' := c') (a := ⟨ρ.blk b, ρ.off b + o, none⟩) ht0 ht1 hu hi hux hxi (hlen w) (by omega) ha (by rw [add_none]; simpa using hst)
                              have hss := setCells_same (g := ρ.blk b) arr.toList (ρ.off b + o + n * ie'.size) w
                              have hsize : ccs'.size = ccs.size := by
                                have := congrArg List.length s2
                                simp only [Array.length_toList, List.length_append, List.length_take, List.length_drop, harrs] at this
                                omega
                              have hbefore : ∀ k, k < ρ.off b + o + n * ie'.size → ccs'[k]? = ccs[k]? := fun k hk => by
                                have e1 : ccs'[k]? = ccs'.toList[k]? := by simp
                                have e2 : ccs[k]? = ccs.toList[k]? := by simp
                                rw [e1, e2, s2, List.getElem?_append_left (by simp; omega), List.getElem?_take_of_lt hk]
                              have hnew : (ccs'.toList.drop (ρ.off b + o)).take (n * ie'.size + m * ie'.size) = (ccs.toList.drop (ρ.off b + o)).take (n * ie'.size) ++ arr.toList := by
                                rw [s2]
                                have la : (ccs.toList.take (ρ.off b + o + n * ie'.size)).length = ρ.off b + o + n * ie'.size := by simp; omega
                                rw [List.drop_append, la, show ρ.off b + o - (ρ.off b + o + n * ie'.size) = 0 by omega, List.drop_zero, List.drop_take, show ρ.off b + o + n * ie'.size - (ρ.off b + o) = n * ie'.size by omega]
                                have lb : ((ccs.toList.drop (ρ.off b + o)).take (n * ie'.size)).length = n * ie'.size := by simp; omega
                                rw [List.take_append, lb, List.take_of_length_le (by rw [lb]; omega), show n * ie'.size + m * ie'.size - n * ie'.size = m * ie'.size by omega,
                                  List.take_append_of_le_length (Nat.le_of_eq harrl.symm), List.take_of_length_le (Nat.le_of_eq harrl)]
                              have hcl2 : ((cs.drop o).take (n * ie'.size) ++ news).length = n * ie'.size + m * ie'.size := by rw [List.length_append, hfl, hnl]
                              obtain ⟨ρ', p1, p2⟩ := Post.inplace (n := n + m) (c := n + m) (c' := c') hr hf hl hmin g0 gc s1 hsize (fun k hk => setCells_other arr.toList _ w k hk) hss.1 hss.2.1 hss.2.2.1 hss.2.2.2 (o + n * ie'.size) o
                                (fun k hk => hbefore k (by omega)) ((cs.drop o).take (n * ie'.size) ++ news) ie'.size
                                (by
                                  rw [hcl2, hnew]
                                  obtain ⟨oldA, q5, q6⟩ := row_take (P := P) hr hl (o := o) (k := n * ie'.size) hb1
                                  have q7 := run_loadRow (P := P) g0 (ρ.off b + o) (n * ie'.size) (by omega)
                                  rw [q7] at q5
                                  have q8 : ((ccs.toList.drop (ρ.off b + o)).take (n * ie'.size)).toArray = oldA := by injection q5
                                  rw [← q8] at q6
                                  exact VRs.append (by simpa using q6) hva)
                                (by rw [hcl2]; omega) (Nat.le_refl _) (by omega) hfit
                              exact ⟨_, _, ρ', hrun, p1, p2⟩
                            · omega
                  · cases h
              · cases h
          · cases h
      · cases h
    · cases h
  · cases h

end Go.Ev
