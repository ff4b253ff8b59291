/- What the evaluator never does to an abstract heap: names only grow; behind the barrier nothing is written. -/
import Derived.Test.YthcfhmdoelpbdaaGreatDoorEvZ
namespace Go.Ev
set_option linter.unusedVariables false
set_option linter.unusedSimpArgs false
open Go

theorem cond_some {α : Type} {b : Bool} {x : Option α} {y : α} (h : cond b x none = some y) : b = true ∧ x = some y := by
  cases b with
  | true => exact ⟨rfl, h⟩
  | false => cases h

/-- A look that sees what is hidden too. -/
def look0 (H : Heap) (b : Nat) : Option AObj := look { H with hide := [] } b

theorem look0_of {H : Heap} {b : Nat} {o : AObj} (h : look H b = some o) : look0 H b = some o := by
  obtain ⟨_, h2, h3⟩ := look_some h
  exact look_of (H := { H with hide := [] }) rfl h2 h3
theorem look_of0 {H : Heap} {b : Nat} {o : AObj} (hh : hidden H.hide b = false) (h : look0 H b = some o) : look H b = some o := by
  obtain ⟨_, h2, h3⟩ := look_some h
  exact look_of hh h2 h3

structure Keep (H H' : Heap) : Prop where
  next : H.next ≤ H'.next
  wmin : H'.wmin = H.wmin
  hide : H'.hide = H.hide
  keep : H.wmin ≤ H.next → ∀ b o, b < H.wmin → look0 H' b = some o → look0 H b = some o
  top : ∀ b o, H'.next ≤ b → look0 H' b = some o → ∃ o', look0 H b = some o'

theorem Keep.refl (H : Heap) : Keep H H := ⟨Nat.le_refl _, rfl, rfl, fun _ _ _ _ h => h, fun _ o _ h => ⟨o, h⟩⟩
theorem Keep.trans {A B C : Heap} (h : Keep A B) (k : Keep B C) : Keep A C :=
  ⟨Nat.le_trans h.next k.next, k.wmin.trans h.wmin, k.hide.trans h.hide, fun hw b o hb hl =>
    h.keep hw b o hb (k.keep (by rw [h.wmin]; exact Nat.le_trans hw h.next) b o (by rw [h.wmin]; exact hb) hl),
    fun b o hb hl => let ⟨o1, h1⟩ := k.top b o hb hl; h.top b o1 (Nat.le_trans k.next hb) h1⟩

theorem look_push_old {H : Heap} {o : AObj} {b : Nat} (hb : b ≠ H.next) : look (H.push o) b = look H b := by
  have hal : ∀ r x, x ≠ H.next → (H.push o).alive r x = H.alive r x := by
    intro r x hx
    unfold Heap.alive Heap.push setGrp
    simp only
    cases hro : rootOf o with
    | none => rfl
    | some r0 =>
      simp only [HT.get_set]
      by_cases hr : r = r0
      · subst hr
        rw [if_pos rfl]
        simp only [grpOf, hro]
        rw [memb_ne hx]
        cases H.grp.get r <;> rfl
      · rw [if_neg hr]
  unfold look
  have h1 : (H.push o).hide = H.hide := rfl
  have h2 : (H.push o).tab.get b = H.tab.get b := by
    show (H.tab.set H.next o).get b = _
    rw [HT.get_set, if_neg hb]
  rw [h1, h2]
  congr 1
  split
  · rw [hal _ _ hb]
  · rfl

theorem Keep.push (H : Heap) (o : AObj) : Keep H (H.push o) :=
  ⟨Nat.le_succ _, rfl, rfl, fun hw b x hb hl => (look_push_old (H := { H with hide := [] }) (o := o) (b := b) (by simp only; omega)).symm.trans hl, fun b x hb hl => ⟨x, by
    have hb' : H.next + 1 ≤ b := hb
    exact (look_push_old (H := { H with hide := [] }) (o := o) (b := b) (by simp only; omega)).symm.trans hl⟩⟩
theorem Keep.put {H : Heap} {b : Nat} (o o' : AObj) (hl0 : look H b = some o) (hb : H.wmin ≤ b) : Keep H (H.put b o o') :=
  ⟨Nat.le_refl _, rfl, rfl, fun _ x y hx hl => (look_put_other (H := { H with hide := [] }) (by omega) hl).1, fun x y _ hl => by
    by_cases hx : x = b
    · subst hx; exact ⟨o, look0_of hl0⟩
    · exact ⟨y, (look_put_other (H := { H with hide := [] }) hx hl).1⟩⟩
theorem Keep.after {H : Heap} {b root at_ len : Nat} {cs : List Value} {el : TypeId} {rig wr : Bool} {esz : Nat} (hb : look H b = some (.cells cs el rig esz root wr)) : Keep H (afterAppend H b root at_ len) :=
  ⟨Nat.le_refl _, rfl, rfl, fun _ x y _ hl => (look_after (H := { H with hide := [] }) (look0_of hb) hl).1, fun x y _ hl => ⟨y, (look_after (H := { H with hide := [] }) (look0_of hb) hl).1⟩⟩

theorem keep_put {H H' : Heap} {b o : Nat} {vc : List Value} (h : aput H b o vc = some H') : Keep H H' := by
  obtain ⟨cs, el, rig, esz, root, _, hm, _, _, rfl⟩ := aput_spec h
  exact Keep.put _ _ (by assumption) hm

theorem keep_store {P : Program} {t : TypeId} {H H' : Heap} {x v : Value} (h : astore P t H x v = some H') : Keep H H' := by
  unfold astore at h
  split at h
  · split at h
    · rename_i n _
      cases hb : Nat.beq v.cells.toList.length n with
      | false => rw [hb] at h; cases h
      | true => rw [hb] at h; exact keep_put h
    · cases h
  · cases h

theorem keep_buildSlice {P : Program} {t : TypeId} {H H' : Heap} {n : Nat} {ps : List (Nat × Value)} {v : Value} (h : abuildSlice P H t n ps = some (v, H')) : Keep H H' := by
  unfold abuildSlice at h
  split at h
  · split at h
    · rename_i e hu ie z _ _
      cases hc : (Nat.ble 1 (n * ie.size) && Nat.ble (n * ie.size) 16777216) with
      | false => rw [hc] at h; cases h
      | true =>
        rw [hc] at h
        simp only [cond_true] at h
        split at h
        · simp only [Option.some.injEq, Prod.mk.injEq] at h
          obtain ⟨_, rfl⟩ := h
          exact Keep.push _ _
        · cases h
    · cases h
  · cases h

theorem keep_makeSlice {P : Program} {t : TypeId} {H H' : Heap} {l c v : Value} (h : amakeSlice P H t l c = some (v, H')) : Keep H H' := by
  unfold amakeSlice at h
  split at h
  · split at h
    · obtain ⟨_, h⟩ := cond_some h
      simp only [Option.some.injEq, Prod.mk.injEq] at h
      obtain ⟨_, rfl⟩ := h
      exact Keep.push _ _
    · cases h
  · cases h

theorem keep_makeMap {P : Program} {t : TypeId} {H H' : Heap} {r : Option Value} {v : Value} (h : amakeMap P H t r = some (v, H')) : Keep H H' := by
  unfold amakeMap at h
  split at h
  · simp only [Option.some.injEq, Prod.mk.injEq] at h; obtain ⟨_, rfl⟩ := h; exact Keep.push _ _
  · split at h
    · simp only [Option.some.injEq, Prod.mk.injEq] at h; obtain ⟨_, rfl⟩ := h; exact Keep.push _ _
    · cases h
  · cases h

theorem keep_mapUpdate {P : Program} {t : TypeId} {H H' : Heap} {m k v : Value} (h : amapUpdate P H t m k v = some H') : Keep H H' := by
  unfold amapUpdate at h
  split at h
  · rename_i kt et r hu
    split at h
    · rename_i es clock d hl hd
      cases hc : (Nat.ble H.wmin r && akeyOk P false kt k) with
      | false => rw [hc] at h; cases h
      | true =>
        simp only [hc, cond_true] at h
        simp only [Bool.and_eq_true] at hc
        have hmin := Nat.le_of_ble_eq_true hc.1
        split at h
        · split at h
          · rename_i i hi e he
            cases hsb : (flat 40 e.key && Instr.sameBits 10000 e.key k) with
            | false => rw [hsb] at h; cases h
            | true =>
              simp only [hsb, cond_true, Option.some.injEq] at h
              subst h
              exact Keep.put _ _ (by assumption) hmin
          · cases h
        · simp only [Option.some.injEq] at h; subst h; exact Keep.put _ _ (by assumption) hmin
        · cases h
    · cases h
  · cases h

theorem keep_mapEntry {P : Program} {t : TypeId} {H H' : Heap} {m k v : Value} (h : amapEntry P H t m k = some (v, H')) : Keep H H' := by
  unfold amapEntry at h
  split at h
  · rename_i kt et r hu
    split at h
    · rename_i es clock d hl hd
      cases hc : (Nat.ble H.wmin r && akeyOk P false kt k) with
      | false => rw [hc] at h; cases h
      | true =>
        simp only [hc, cond_true] at h
        simp only [Bool.and_eq_true] at hc
        have hmin := Nat.le_of_ble_eq_true hc.1
        split at h
        · split at h
          · rename_i i hi e he
            cases hsb : (flat 40 e.key && Instr.sameBits 10000 e.key k) with
            | false => rw [hsb] at h; cases h
            | true =>
              simp only [hsb, cond_true, Option.some.injEq, Prod.mk.injEq] at h
              obtain ⟨_, rfl⟩ := h
              exact Keep.put _ _ (by assumption) hmin
          · cases h
        · split at h
          · simp only [Option.some.injEq, Prod.mk.injEq] at h; obtain ⟨_, rfl⟩ := h; exact Keep.put _ _ (by assumption) hmin
          · cases h
        · cases h
    · cases h
  · cases h

theorem keep_entryStore {H H' : Heap} {m s v : Value} (h : aentryStore H m s v = some H') : Keep H H' := by
  unfold aentryStore at h
  split at h
  · rename_i r k b
    split at h
    · rename_i es clock hl
      cases hc : Nat.ble H.wmin r with
      | false => rw [hc] at h; cases h
      | true =>
        simp only [hc, cond_true] at h
        split at h
        · simp only [Option.some.injEq] at h; subst h; exact Keep.put _ _ (by assumption) (Nat.le_of_ble_eq_true hc)
        · cases h
    · cases h
  · cases h

theorem keep_delete {P : Program} {H H' : Heap} {ts : List TypeId} {vs : List Value} {v : Value} (h : adelete P H ts vs = some (v, H')) : Keep H H' := by
  unfold adelete at h
  split at h
  · rename_i t rest r k
    split at h
    · rename_i kt et hu
      split at h
      · rename_i es clock d hl hd
        cases hc : (Nat.ble H.wmin r && akeyOk P es.isEmpty kt k) with
        | false => rw [hc] at h; cases h
        | true =>
          simp only [hc, cond_true] at h
          simp only [Bool.and_eq_true] at hc
          have hmin := Nat.le_of_ble_eq_true hc.1
          split at h
          · simp only [Option.some.injEq, Prod.mk.injEq] at h; obtain ⟨_, rfl⟩ := h; exact Keep.put _ _ (by assumption) hmin
          · simp only [Option.some.injEq, Prod.mk.injEq] at h; obtain ⟨_, rfl⟩ := h; exact Keep.put _ _ (by assumption) hmin
          · cases h
      · cases h
    · cases h
  · cases h

theorem keep_copy {P : Program} {H H' : Heap} {ts : List TypeId} {vs : List Value} {v : Value} (h : acopy P H ts vs = some (v, H')) : Keep H H' := by
  unfold acopy at h
  split at h
  · split at h
    · split at h
      · split at h
        · split at h
          · rename_i dn c
            cases hdn : Nat.beq dn 0 with
            | false => rw [hdn] at h; cases h
            | true => rw [hdn] at h; simp only [cond_true, Option.some.injEq, Prod.mk.injEq] at h; obtain ⟨_, rfl⟩ := h; exact Keep.refl _
          · generalize hq : Nat.beq _ 0 = q at h
            cases q with
            | true => simp only [cond_true, Option.some.injEq, Prod.mk.injEq] at h; obtain ⟨_, rfl⟩ := h; exact Keep.refl _
            | false =>
              simp only [cond_false] at h
              split at h
              · rename_i H2 hp
                simp only [Option.some.injEq, Prod.mk.injEq] at h
                obtain ⟨_, rfl⟩ := h
                exact keep_put hp
              · cases h
          · cases h
        · cases h
      · cases h
    · cases h
  · cases h

theorem keep_append {P : Program} {H H' : Heap} {ts : List TypeId} {vs : List Value} {v : Value} (h : aappend P H ts vs = some (v, H')) : Keep H H' := by
  unfold aappend at h
  split at h
  · split at h
    · split at h
      · obtain ⟨_, h⟩ := cond_some h
        split at h
        · obtain ⟨_, h⟩ := cond_some h
          split at h
          · generalize hq : Nat.beq _ 0 = q at h
            cases q with
            | true => simp only [cond_true, Option.some.injEq, Prod.mk.injEq] at h; obtain ⟨_, rfl⟩ := h; exact Keep.refl _
            | false => simp only [cond_false, Option.some.injEq, Prod.mk.injEq] at h; obtain ⟨_, rfl⟩ := h; exact Keep.push _ _
          · generalize hq : Nat.beq _ 0 = q at h
            cases q with
            | true => simp only [cond_true, Option.some.injEq, Prod.mk.injEq] at h; obtain ⟨_, rfl⟩ := h; exact Keep.refl _
            | false =>
              simp only [cond_false] at h
              split at h
              · rename_i hl
                obtain ⟨_, h⟩ := cond_some h
                generalize hroom : (_ && Nat.ble _ _) = q at h
                cases q with
                | true => simp only [cond_true, Option.some.injEq, Prod.mk.injEq] at h; obtain ⟨_, rfl⟩ := h; exact Keep.push _ _
                | false =>
                  simp only [cond_false] at h
                  obtain ⟨_, h⟩ := cond_some h
                  simp only [Option.some.injEq, Prod.mk.injEq] at h
                  obtain ⟨_, rfl⟩ := h
                  exact (Keep.after hl).trans (Keep.push _ _)
              · cases h
          · cases h
        · cases h
      · cases h
    · cases h
  · cases h

theorem keep_conv {P : Program} {H H' : Heap} {s d : TypeId} {x v : Value} (h : aconv P H s d x = some (v, H')) : Keep H H' := by
  unfold aconv at h
  split at h
  · rename_i e u hs hd
    split at h
    · simp only [Option.some.injEq, Prod.mk.injEq] at h; obtain ⟨_, rfl⟩ := h; exact Keep.push _ _
    · cases hfl : ((Conv.runesFrom u u.size 0 #[]).toList.all (flat 40)) with
      | false => simp only [hfl, cond_false] at h; cases h
      | true => simp only [hfl, cond_true, Option.some.injEq, Prod.mk.injEq] at h; obtain ⟨_, rfl⟩ := h; exact Keep.push _ _
    · cases h
  · split at h
    · simp only [Option.some.injEq, Prod.mk.injEq] at h; obtain ⟨_, rfl⟩ := h; exact Keep.refl _
    · simp only [Option.some.injEq, Prod.mk.injEq] at h; obtain ⟨_, rfl⟩ := h; exact Keep.refl _
    · cases h
  · rename_i e b o n c hs hd
    split at h
    all_goals first
      | (cases h; done)
      | (cases hn : Nat.beq n 0 with
         | true => rw [hn] at h; simp only [cond_true, Option.some.injEq, Prod.mk.injEq] at h; obtain ⟨_, rfl⟩ := h; exact Keep.refl _
         | false =>
           rw [hn] at h
           simp only [cond_false] at h
           split at h
           · rename_i cs el rig esz root wr hl
             cases hb : Nat.ble (o + n) cs.length with
             | false => rw [hb] at h; cases h
             | true =>
               rw [hb] at h
               simp only [cond_true] at h
               split at h
               · simp only [Option.some.injEq, Prod.mk.injEq] at h; obtain ⟨_, rfl⟩ := h; exact Keep.refl _
               · cases h
           · cases h)
  · cases h

theorem keep_range {P : Program} {H H' : Heap} {t : TypeId} {x v : Value} (h : arange P H t x = some (v, H')) : Keep H H' := by
  unfold arange at h
  split at h
  · simp only [Option.some.injEq, Prod.mk.injEq] at h; obtain ⟨_, rfl⟩ := h; exact Keep.push _ _
  · cases h

theorem keep_next {H H' : Heap} {x v : Value} {isS : Bool} (h : anext H x isS = some (v, H')) : Keep H H' := by
  unfold anext at h
  split at h
  · rename_i r
    split at h
    · rename_i s pos hl
      cases hm : Nat.ble H.wmin r with
      | false => rw [hm] at h; cases h
      | true =>
        simp only [hm, cond_true] at h
        cases hp : Nat.blt pos s.data.toList.length with
        | true => simp only [hp, cond_true, Option.some.injEq, Prod.mk.injEq] at h; obtain ⟨_, rfl⟩ := h; exact Keep.put _ _ (by assumption) (Nat.le_of_ble_eq_true hm)
        | false => simp only [hp, cond_false, Option.some.injEq, Prod.mk.injEq] at h; obtain ⟨_, rfl⟩ := h; exact Keep.refl _
    · cases h
  · cases h

theorem keep_heap {P : Program} {ev : Operand → Option Value} {H : Heap} {op : Op} {r : Value × Heap} (h : aheap P ev H op = some r) : Keep H r.2 := by
  obtain ⟨v, H'⟩ := r
  unfold aheap at h
  split at h
  case h_1 => 
    split at h
    · split at h
      · simp only [Option.some.injEq, Prod.mk.injEq] at h; obtain ⟨_, rfl⟩ := h; exact Keep.refl _
      · cases h
    · cases h
  case h_2 =>
    split at h
    · split at h
      · rename_i hs; simp only [Option.some.injEq, Prod.mk.injEq] at h; obtain ⟨_, rfl⟩ := h; exact keep_store hs
      · cases h
    · cases h
  case h_3 =>
    split at h
    · simp only [Option.some.injEq, abox, Prod.mk.injEq] at h; obtain ⟨_, rfl⟩ := h; exact Keep.push _ _
    · cases h
  case h_4 =>
    split at h
    · simp only [Option.some.injEq, abox, Prod.mk.injEq] at h; obtain ⟨_, rfl⟩ := h; exact Keep.push _ _
    · cases h
  case h_5 =>
    split at h
    · exact keep_buildSlice h
    · cases h
  case h_6 =>
    split at h
    · exact keep_makeMap h
    · cases h
  case h_7 =>
    split at h
    · exact keep_makeSlice h
    · cases h
  case h_8 =>
    split at h
    · split at h
      · simp only [Option.some.injEq, Prod.mk.injEq] at h; obtain ⟨_, rfl⟩ := h; exact Keep.refl _
      · cases h
    · cases h
  case h_9 =>
    split at h
    · split at h
      · simp only [Option.some.injEq, Prod.mk.injEq] at h; obtain ⟨_, rfl⟩ := h; exact Keep.refl _
      · cases h
    · cases h
  case h_10 =>
    split at h
    · split at h
      · rename_i hs; simp only [Option.some.injEq, Prod.mk.injEq] at h; obtain ⟨_, rfl⟩ := h; exact keep_mapUpdate hs
      · cases h
    · cases h
  case h_11 =>
    split at h
    · split at h
      · rename_i hs; simp only [Option.some.injEq, Prod.mk.injEq] at h; obtain ⟨_, rfl⟩ := h; exact keep_mapUpdate hs
      · cases h
    · cases h
  case h_12 =>
    split at h
    · exact keep_mapEntry h
    · cases h
  case h_13 =>
    split at h
    · split at h
      · rename_i hs; simp only [Option.some.injEq, Prod.mk.injEq] at h; obtain ⟨_, rfl⟩ := h; exact keep_entryStore hs
      · cases h
    · cases h
  case h_14 =>
    split at h
    · exact keep_range h
    · cases h
  case h_15 =>
    split at h
    · exact keep_next h
    · cases h
  case h_16 =>
    split at h
    · exact keep_conv h
    · cases h
  case h_17 =>
    split at h
    · split at h
      · unfold abuiltinH at h
        split at h
        · exact keep_append h
        · exact keep_copy h
        · exact keep_delete h
        · split at h
          · simp only [Option.some.injEq, Prod.mk.injEq] at h; obtain ⟨_, rfl⟩ := h; exact Keep.refl _
          · cases h
        · split at h
          · simp only [Option.some.injEq, Prod.mk.injEq] at h; obtain ⟨_, rfl⟩ := h; exact Keep.refl _
          · cases h
        · cases h
      · cases h
    · cases h
  case h_18 => cases h

end Go.Ev
