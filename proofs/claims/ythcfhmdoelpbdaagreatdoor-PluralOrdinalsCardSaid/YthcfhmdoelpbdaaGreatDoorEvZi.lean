/- Regions whose order is open: the whole. -/
import Derived.Test.YthcfhmdoelpbdaaGreatDoorEvZh
namespace Go.Ev
set_option linter.unusedVariables false
set_option linter.unusedSimpArgs false
open Go Go.RowKit

theorem count_set : ∀ {l : List Bool} {i : Nat}, l[i]? = some false → (l.set i true).count false + 1 = l.count false := by
  intro l
  induction l with
  | nil => intro i h; simp at h
  | cons x r ih =>
    intro i h
    cases i with
    | zero =>
      simp only [List.getElem?_cons_zero, Option.some.injEq] at h
      subst h
      simp [List.set, List.count_cons]
    | succ i =>
      have := ih (i := i) (by simpa using h)
      simp only [List.set, List.count_cons]
      omega

section
variable {C : Cfg} {K : World → Prop} {base n lim : Nat} {self : Self} {ops : Array Oper} {bs : List Nat} {S : Nat → St} {v : Nat → Value} {ρ0 : Rho} {w0 : World}

theorem ready_nil (d : Walked C self ops bs S v) {listed : Array Bool} (hsz : listed.size = ops.size) (h : Region.ready .any ops listed = []) : ∀ k, k < ops.size → listed.getD k false = true := by
  intro k
  induction k using Nat.strongRecOn with
  | _ k ih =>
    intro hk
    cases hq : listed.getD k false with
    | true => rfl
    | false =>
      have : k ∈ Region.ready .any ops listed := by
        rw [mem_ready]
        refine ⟨?_, ops[k], Array.getElem?_eq_getElem hk, fun e he hb => ?_⟩
        · rw [Array.getD_eq_getD_getElem?, Array.getElem?_eq_getElem (by omega)] at hq ⊢
          exact hq
        · have := d.edge k _ (Array.getElem?_eq_getElem hk) e he hb
          exact ih e.on this (by omega)
      rw [h] at this
      cases this

theorem draw_any (ho : Ok C K base) (hs : SndSelf C K base self) (d : Walked C self ops bs S v) (rel0 : Rel C.NG base ρ0 (S 0).H w0) (hK0 : K w0) (hsm : (S 0).fr.n ≤ 1000000) (hroom : Room (S 0).H lim ρ0) (hlim : (S ops.size).H.next < lim) {ρr : Rho} {rd : Option Nat}
    {Q : Exit → Act → World → Prop} (hq : ∀ ρ' a' w', FrRel ρ' (S ops.size).fr a' → Post C.NG base ρ0 (S 0).H (S ops.size).H w0 w' ρ' → Q .normal a' w') :
    ∀ (fuel : Nat) (listed : Array Bool) (s : Nat) (ρ : Rho) (a : Act) (w : World), listed.toList.count false ≤ fuel → listed.size = ops.size → Inv C.NG base ops S v ρ0 w0 (fun k => listed.getD k false) s ρ a w →
      wpAnyIn (fenceOf ρr rd) n C.P .any ops Q fuel listed a w := by
  have fin : ∀ (listed : Array Bool) (s : Nat) (ρ : Rho) (a : Act) (w : World), listed.size = ops.size → Inv C.NG base ops S v ρ0 w0 (fun k => listed.getD k false) s ρ a w → Region.ready .any ops listed = [] → Q .normal a w := by
    intro listed s ρ a w hsz inv hr
    have hall := ready_nil d hsz hr
    refine hq ρ a w ?_ ?_
    · rw [← walked_fr d ops.size (Nat.le_refl _), ← frD_congr (D := fun k => listed.getD k false) (D' := fun _ => true) ops.size hall]
      exact inv.fr
    · obtain ⟨hkeep, _⟩ := d.keeps ops.size (Nat.le_refl _)
      have hno : ∀ k, s ≤ k → k < ops.size → ¬ RecAt S k true := fun k h1 h2 h3 => inv.later k true (hall k h2) h3 h1 h2 k h1 (Nat.le_refl _) h3
      have hh : ∀ b o, look (S ops.size).H b = some o → hidden (S 0).H.hide b = false := fun b o h => by rw [← hkeep.hide]; exact (look_some h).1
      refine inv.post.post (fun b o h => inv.see d rel0 (Nat.le_refl _) inv.hs hno (look0_of h) (hh b o h) fun j _ h2 _ _ => hall j h2) (fun b o h => d.low rel0 (Nat.le_refl _) (look0_of h) (hh b o h)) (fun x hx => ?_)
        hkeep.next hkeep.wmin fun b hb => ?_
      · rw [hkeep.hide] at hx
        exact Nat.le_trans (rel0.hide x hx) hkeep.next
      · rcases inv.names b hb with h | ⟨h0, h | ⟨j, _, _, h3, _, h5⟩⟩
        · exact .inl h
        · have := d.mono inv.hs (Nat.le_refl _)
          exact .inr ⟨h0, by omega⟩
        · have := d.mono (i := j + 1) (j := ops.size) (by omega) (Nat.le_refl _)
          exact .inr ⟨h0, by omega⟩
  intro fuel
  induction fuel with
  | zero =>
    intro listed s ρ a w hc hsz inv
    have hr : Region.ready .any ops listed = [] := by
      cases hr : Region.ready .any ops listed with
      | nil => rfl
      | cons i r =>
        have hm : i ∈ Region.ready .any ops listed := by rw [hr]; exact List.mem_cons_self
        obtain ⟨h1, o, h2, _⟩ := mem_ready.1 hm
        have hi := (Array.getElem?_eq_some_iff.1 h2).1
        have h3 : listed.toList[i]? = some false := by
          rw [Array.getElem?_toList]
          rw [Array.getD_eq_getD_getElem?, Array.getElem?_eq_getElem (by omega)] at h1
          rw [Array.getElem?_eq_getElem (by omega)]
          exact congrArg some h1
        have := count_set h3
        omega
    exact ⟨hr, fin listed s ρ a w hsz inv hr⟩
  | succ fuel ih =>
    intro listed s ρ a w hc hsz inv
    refine ⟨fin listed s ρ a w hsz inv, fun i hm => ?_⟩
    obtain ⟨h1, o, h2, h4⟩ := mem_ready.1 hm
    have hi := (Array.getElem?_eq_some_iff.1 h2).1
    have h5 : listed[i]? = some false := by
      rw [Array.getD_eq_getD_getElem?, Array.getElem?_eq_getElem (by omega)] at h1
      rw [Array.getElem?_eq_getElem (by omega)]
      exact congrArg some h1
    have h3 : listed.toList[i]? = some false := by rw [Array.getElem?_toList]; exact h5
    refine inv_step ho hs d rel0 hK0 hsm inv h2 (by rw [Array.getD_eq_getD_getElem?, h5]; rfl) h4 hroom hlim fun a' w' s' ρ' inv' => ih _ s' ρ' a' w' ?_ (by simpa using hsz) ?_
    · have := count_set h3
      rw [Array.toList_setIfInBounds]
      omega
    · have : also (fun k => listed.getD k false) i = fun k => (listed.setIfInBounds i true).getD k false := by
        funext k
        by_cases hk : k = i
        · subst hk
          rw [also_self, Array.getD_eq_getD_getElem?, Array.getElem?_setIfInBounds_self_of_lt (by omega)]
          rfl
        · rw [also_ne hk, getD_set_ne false (Ne.symm hk)]
      rw [← this]
      exact inv'

end

theorem adraw_ok {C : Cfg} {K : World → Prop} {base n lim : Nat} {self : Self} (ho : Ok C K base) (hs : SndSelf C K base self) (hsk : SelfKeep self) {ρr : Rho} {rd : Option Nat} {ops : Array Oper} {bs : List Nat} {r : AFr × Heap} {Q : Exit → Act → World → Prop}
    {fr : AFr} {H : Heap} {ρ : Rho} {a : Act} {w : World} (hb : befores ops.toList [] = some bs) (hap : apartAll ops.toList ops bs = true) (h : adraw C self ops.toList ops bs ops.toList 0 fr H [] = some r) (hr : Rel C.NG base ρ H w) (hK : K w) (hf : FrRel ρ fr a) (hroom : Room H lim ρ)
    (hlim : r.2.next < lim) (hq : ∀ ρ' a' w', FrRel ρ' r.1 a' → Post C.NG base ρ H r.2 w w' ρ' → Q .normal a' w') :
    wpAnyIn (fenceOf ρr rd) n C.P .any ops Q ops.size (Array.replicate ops.size false) a w := by
  obtain ⟨S, v, h1, h2, h3, h4⟩ := draw_chain h
  rw [Nat.zero_add, Array.length_toList] at h2 h3
  obtain ⟨_, hb2⟩ := befores_spec hb
  have e0 : (S 0).H = H := by rw [h1]
  have d : Walked C self ops bs S v := by
    refine ⟨by rw [h1], by rw [e0]; exact hroom.le, hsk, fun k o hk => ?_, fun k o hk => ?_, fun k o hk => ?_, fun k o b hk hbk => ?_, fun i j oi oj hij hi hj => apartAll_spec hap hij (by rw [Array.getElem?_toList]; exact hi) (by rw [Array.getElem?_toList]; exact hj)⟩
    · have := (h4 k o (by rw [Array.getElem?_toList]; exact hk)).1
      simpa only [Nat.zero_add] using this
    · have := (h4 k o (by rw [Array.getElem?_toList]; exact hk)).2
      simpa only [Nat.zero_add] using this
    · obtain ⟨b, g1, g2, g3⟩ := hb2 k o (by rw [Array.getElem?_toList]; exact hk)
      simpa only [List.length_nil, Nat.zero_add] using g2
    · obtain ⟨b', g1, g2, g3⟩ := hb2 k o (by rw [Array.getElem?_toList]; exact hk)
      simp only [List.length_nil, Nat.zero_add] at g1
      rw [hbk] at g1
      cases g1
      exact g3
  have rel0 : Rel C.NG base ρ (S 0).H w := by rw [e0]; exact hr
  have hDf : ∀ k, (Array.replicate ops.size false).getD k false = false := fun k => by
    rw [Array.getD_eq_getD_getElem?, Array.getElem?_replicate]
    split <;> rfl
  refine draw_any ho hs d rel0 hK (by rw [h1]; exact hf.small) (by rw [e0]; exact hroom) (by rw [h3]; exact hlim) (fun ρ' a' w' g1 g2 => hq ρ' a' w' (by rw [← h2]; exact g1) (by rw [e0, h3] at g2; exact g2)) ops.size _ 0 ρ a w ?_ (by simp) ?_
  · rw [Array.toList_replicate, List.count_replicate_self]
    exact Nat.le_refl _
  · refine ⟨Nat.zero_le _, fun k o _ hD => ?_, fun j wr hj => absurd hj (Nat.not_lt_zero _), fun j wr hD => ?_, (PostL.of (Post.refl rel0)).sub ?_, fun b hb => .inl hb, ?_⟩
    · have := hDf k
      first | (rw [show (Array.replicate ops.size false).getD k false = true from hD] at this; cases this) | (rw [show (Array.replicate ops.size false).getD j false = true from hD] at this; cases this)
    · have := hDf j
      first | (rw [show (Array.replicate ops.size false).getD k false = true from hD] at this; cases this) | (rw [show (Array.replicate ops.size false).getD j false = true from hD] at this; cases this)
    · rintro b o (⟨_, h⟩ | ⟨j, _, _, hD, _⟩)
      · exact h
      · have := hDf j
        rw [show (Array.replicate ops.size false).getD j false = true from hD] at this; cases this
    · have : frD ops v (fun k => (Array.replicate ops.size false).getD k false) (S 0).fr ops.size = (S 0).fr := by
        have : ∀ k, frD ops v (fun k => (Array.replicate ops.size false).getD k false) (S 0).fr k = (S 0).fr := by
          intro k
          induction k with
          | zero => rfl
          | succ k ih =>
            simp only [frD]
            rw [ih]
            split
            · rw [if_neg (by rw [hDf]; simp)]
            · rfl
        exact this _
      rw [this, h1]
      exact hf

end Go.Ev
