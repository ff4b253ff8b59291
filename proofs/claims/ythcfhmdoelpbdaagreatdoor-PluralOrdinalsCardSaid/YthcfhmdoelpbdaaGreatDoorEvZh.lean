/- Regions whose order is open: soundness. -/
import Derived.Test.YthcfhmdoelpbdaaGreatDoorEvZg
namespace Go.Ev
set_option linter.unusedVariables false
set_option linter.unusedSimpArgs false
open Go Go.RowKit

section
variable {C : Cfg} {K : World → Prop} {base n lim : Nat} {self : Self} {ops : Array Oper} {bs : List Nat} {S : Nat → St} {v : Nat → Value} {D : Nat → Bool} {ρ0 ρ : Rho} {w0 w : World} {a : Act} {s i : Nat}

theorem Walked.low (d : Walked C self ops bs S v) (rel0 : Rel C.NG base ρ0 (S 0).H w0) (hi : i ≤ ops.size) {b : Nat} {o : AObj} (h : look0 (S i).H b = some o) (hh : hidden (S 0).H.hide b = false) : b < (S i).H.next := by
  rcases Nat.lt_or_ge b (S i).H.next with h' | h'
  · exact h'
  · obtain ⟨o1, h1⟩ := (d.keeps i hi).1.top b o h' h
    have := rel0.lt b o1 (look_of0 hh h1)
    have := d.mono (Nat.zero_le i) hi
    omega

theorem Inv.see (d : Walked C self ops bs S v) (rel0 : Rel C.NG base ρ0 (S 0).H w0) (inv : Inv C.NG base ops S v ρ0 w0 D s ρ a w) (hi : i ≤ ops.size) (hsi : s ≤ i) (hno : ∀ k, s ≤ k → k < i → ¬ RecAt S k true) {b : Nat} {o : AObj} (h : look0 (S i).H b = some o)
    (hh : hidden (S 0).H.hide b = false) (hD : ∀ j, s ≤ j → j < i → (S j).H.next ≤ b → b < (S (j + 1)).H.next → D j = true) : Lk S ops.size D s b o := by
  rcases d.find hi hno hsi h (d.low rel0 hi h hh) with ⟨h1, h2⟩ | ⟨j, h1, h2, h3, h4, h5⟩
  · refine .inl ⟨h1, look_of0 ?_ h2⟩
    rw [(d.keeps s inv.hs).1.hide]; exact hh
  · refine .inr ⟨j, h1, by omega, hD j h1 h2 h3 h4, h3, h4, look_of0 ?_ h5⟩
    rw [(d.keeps (j + 1) (by omega)).1.hide]; exact hh

theorem Inv.bit (d : Walked C self ops bs S v) (inv : Inv C.NG base ops S v ρ0 w0 D s ρ a w) {k j b : Nat} (hk : k < ops.size) (hD : D k = true) (hb : bs[k]? = some b) (hj : b.testBit j = true) : D j = true :=
  d.bits inv.closed k _ b j (Array.getElem?_eq_getElem hk) (inv.closed k _ (Array.getElem?_eq_getElem hk) hD) hb hj

theorem inv_step (ho : Ok C K base) (hs : SndSelf C K base self) (d : Walked C self ops bs S v) (rel0 : Rel C.NG base ρ0 (S 0).H w0) (hK0 : K w0) (hsm : (S 0).fr.n ≤ 1000000) (inv : Inv C.NG base ops S v ρ0 w0 D s ρ a w) {o : Oper} (hoi : ops[i]? = some o)
    (hDi : D i = false) (hE : ∀ e ∈ o.after, Region.binds .any e = true → D e.on = true) (hroom : Room (S 0).H lim ρ0) (hlim : (S ops.size).H.next < lim) {ρr : Rho} {rd : Option Nat} {Q : Exit → Act → World → Prop} {Kn : Act → World → Prop}
    (hk : ∀ a' w' s' ρ', Inv C.NG base ops S v ρ0 w0 (also D i) s' ρ' a' w' → Kn a' w') : wpOpIn (fenceOf ρr rd) n C.P ops Q i Kn a w := by
  have hi : i < ops.size := (Array.getElem?_eq_some_iff.1 hoi).1
  have hKw : K w := ho.keep _ _ hK0 inv.post.below
  have hsee : ∀ t ∈ o.looksAt ops, VR ρ ((S i).fr.tr.get t) (a.tmps.getD t undef) := fun t ht => by
    rw [d.sees inv.closed hsm hoi hDi hE ht]
    exact inv.fr.get t
  have hev : EvR ρ ((S i).fr.evalM C.NG (looksOf ops o)) a := evalM_ok hsee inv.fr inv.post.glob
  have hwant : ∀ {b}, awanted ops.toList (S i).fr o = some b → Region.wanted o (yielded ops a.tmps) = b := fun h =>
    awanted_ok h fun g want og t h1 h2 h3 => hsee t (List.mem_append_right _ (by rw [h1]; simp [h2, h3]))
  have hclosed : ∀ (k : Nat) (o : Oper), ops[k]? = some o → also D i k = true → ∀ e ∈ o.after, Region.binds .any e = true → also D i e.on = true := by
    intro k o' hk' hD' e he hb
    rcases also_inv hD' with rfl | hD'
    · rw [hoi] at hk'; cases hk'; exact also_of (hE e he hb)
    · exact also_of (inv.closed k o' hk' hD' e he hb)
  have quiet : (S (i + 1)).H = (S i).H → (S (i + 1)).rc = (S i).rc → ∀ v', VR ρ (v i) v' → Inv C.NG base ops S v ρ0 w0 (also D i) s ρ (a.put o.dst v') w := by
    intro hH hrc v' hv
    have hnr : ∀ wr, ¬ RecAt S i wr := fun wr h => by
      unfold RecAt at h
      rw [hrc] at h
      have := congrArg List.length h
      simp at this
    refine ⟨inv.hs, hclosed, fun j wr h1 h2 => also_of (inv.all j wr h1 h2), fun j wr hD' hr h1 h2 => ?_, ?_, fun b hb => ?_, d.sets inv.closed hsm hoi hDi (inv.fr.put hv _)⟩
    · rcases also_inv hD' with rfl | hD'
      · exact absurd hr (hnr wr)
      · exact inv.later j wr hD' hr h1 h2
    · refine inv.post.sub ?_
      rintro b x (h | ⟨j, h1, h2, h3, h4, h5, h6⟩)
      · exact .inl h
      · rcases also_inv h3 with rfl | h3
        · rw [hH] at h5; omega
        · exact .inr ⟨j, h1, h2, h3, h4, h5, h6⟩
    · rcases inv.names b hb with h | ⟨h0, h | ⟨j, h1, h2⟩⟩
      · exact .inl h
      · exact .inr ⟨h0, .inl h⟩
      · exact .inr ⟨h0, .inr ⟨j, also_of h1, h2⟩⟩
  have start : ∀ wr, RecAt S i wr → s ≤ i ∧ (∀ k, s ≤ k → k < i → ¬ RecAt S k true) := fun wr hr => by
    refine ⟨?_, fun k h1 h2 h3 => ?_⟩
    · rcases Nat.lt_or_ge i s with h | h
      · have := inv.all i wr h hr
        rw [hDi] at this; cases this
      · exact h
    · obtain ⟨b, hb, hbit⟩ := d.order h2 hi h3 hr (.inl rfl)
      have hD := d.bits inv.closed i o b k hoi hE hb hbit
      exact inv.later k true hD h3 h1 (by omega) k h1 (Nat.le_refl _) h3
  have names' : ∀ b, (S i).H.next ≤ b → b < (S (i + 1)).H.next → s ≤ i → ¬ ρ.dom b := by
    intro b h1 h2 hsi h3
    have m0 := d.mono (Nat.zero_le i) (by omega)
    rcases inv.names b h3 with h | ⟨_, h | ⟨j, h4, h5, h6, h7, h8⟩⟩
    · have := d.mono (i := i + 1) (j := ops.size) (by omega) (Nat.le_refl _)
      exact hroom.free b (by omega) (by omega) h
    · have := d.mono hsi (by omega)
      omega
    · rcases Nat.lt_trichotomy j i with h | h | h
      · have := d.mono (i := j + 1) (j := i) (by omega) (by omega)
        omega
      · subst h; rw [hDi] at h4; cases h4
      · have := d.mono (i := i + 1) (j := j) (by omega) (by omega)
        omega
  obtain ⟨hkeep, hrecs⟩ := d.keeps i (by omega)
  have hhide : ∀ x ∈ (S i).H.hide, x.2 ≤ (S i).H.next := fun x hx => by
    rw [hkeep.hide] at hx
    exact Nat.le_trans (rel0.hide x hx) (d.mono (Nat.zero_le i) (by omega))
  unfold wpOpIn
  simp only [hoi]
  rcases astep_inv (d.st i o hoi) with ⟨h1, h2, h3, h4⟩ | ⟨h1, h2, h3, h4⟩ | ⟨b, H1, h1, h2, h3, h4, h5, h6⟩ | ⟨b, H1, h1, h2, h3, h4, h5, h6⟩
  · rw [if_neg (by rw [hwant h1]; simp)]
    exact ⟨about_ok, hk _ _ s ρ (quiet h3 h4 undef (by rw [h2]; exact VR.undef ρ))⟩
  · rw [if_pos (hwant h1)]
    exact apure_wp hev h2 fun v' hv => hk _ _ s ρ (quiet h3 h4 v' hv)
  · -- a writer
    rw [if_pos (hwant h1)]
    have hrec : RecAt S i true := by unfold RecAt; rw [h6, h5]; rfl
    obtain ⟨hsi, hno⟩ := start true hrec
    have hsub : ∀ x y, look (S i).H x = some y → Lk S ops.size D s x y := fun x y hx => by
      have hh : hidden (S 0).H.hide x = false := by rw [← hkeep.hide]; exact (look_some hx).1
      refine inv.see d rel0 (by omega) hsi hno (look0_of hx) hh fun j h7 h8 h9 h10 => ?_
      obtain ⟨wr, hr⟩ := d.recd (k := j) (by omega) (by omega)
      obtain ⟨b', hb', hbit⟩ := d.order h8 hi hr hrec (.inr rfl)
      exact d.bits inv.closed i o b' j hoi hE hb' hbit
    have hrel : Rel C.NG base ρ (S i).H w := inv.post.rel hsub (fun x y hx => d.low rel0 (by omega) (look0_of hx) (by rw [← hkeep.hide]; exact (look_some hx).1)) hhide
    have hnext : (S (i + 1)).H.next = H1.next + 1 := by rw [h5]; rfl
    refine aoper_wp (lim := (S (i + 1)).H.next) ho hs d.keep hrel hKw hev ⟨fun b h1 h2 => names' b h1 h2 hsi, hkeep.le d.le⟩ h4 (by rw [hnext]; exact Nat.lt_succ_self _) fun v' w' ρ' hv q => ?_
    have far : ∀ j wr, also D i j = true → RecAt S j wr → i + 1 ≤ j → j < ops.size → False := fun j wr h1 h2 h3 h4 => by
      have hD : D j = true := (also_inv h1).resolve_left (by omega)
      obtain ⟨b', hb', hbit⟩ := d.order (j := i) (k := j) (by omega) h4 hrec h2 (.inl rfl)
      have := inv.bit d h4 hD hb' hbit
      rw [hDi] at this; cases this
    have farn : ∀ j b, also D i j = true → i + 1 ≤ j → j < ops.size → (S j).H.next ≤ b → b < (S (j + 1)).H.next → False := fun j b h1 h2 h3 h4 h5 => by
      obtain ⟨wr, hr⟩ := d.recd h3 (by omega)
      exact far j wr h1 hr h2 h3
    refine hk _ _ (i + 1) ρ' ⟨by omega, hclosed, fun j wr h7 h8 => ?_, fun j wr h7 h8 h9 h10 => (far j wr h7 h8 h9 h10).elim, ?_, fun b hb => ?_, d.sets inv.closed hsm hoi hDi ((inv.fr.mono q.ext).put hv _)⟩
    · by_cases hj : j = i
      · subst hj; exact also_self D j
      · obtain ⟨b', hb', hbit⟩ := d.order (j := j) (k := i) (by omega) hi h8 hrec (.inr rfl)
        exact also_of (d.bits inv.closed i o b' j hoi hE hb' hbit)
    · refine (inv.post.trans hsub hkeep.wmin q).sub ?_
      rintro x y (⟨_, h⟩ | ⟨j, h7, h8, h9, h10, h11, _⟩)
      · rw [h5] at h; exact h
      · exact (farn j x h9 h7 h8 h10 h11).elim
    · have m0 := d.mono (Nat.zero_le i) (by omega)
      rcases q.ndom b hb with h | ⟨h7, h8⟩
      · rcases inv.names b h with h | ⟨h0, h | ⟨j, g1, g2, g3, g4, g5⟩⟩
        · exact .inl h
        · have := d.mono (i := s) (j := i + 1) (by omega) (by omega)
          exact .inr ⟨h0, .inl (by omega)⟩
        · by_cases hj : j ≤ i
          · have := d.mono (i := j + 1) (j := i + 1) (by omega) (by omega)
            exact .inr ⟨h0, .inl (by omega)⟩
          · exact (farn j b (also_of g1) (by omega) g3 g4 g5).elim
      · have h8' : b < H1.next := h8
        exact .inr ⟨by omega, .inl (by omega)⟩
  · -- one that looks
    rw [if_pos (hwant h1)]
    have hrec : RecAt S i false := by unfold RecAt; rw [h6, h5]
    obtain ⟨hsi, hno⟩ := start false hrec
    have hnext : (S (i + 1)).H.next = H1.next + 1 := by rw [h5]
    have k0 := keep_oper d.keep (H := { (S i).H with wmin := (S i).H.next, hide := (unordered b (S i).rc).map (fun r => (r.lo, r.hi)) ++ (S i).H.hide }) (Nat.le_refl _) h4
    have hlow : ∀ x y, look { (S i).H with wmin := (S i).H.next, hide := (unordered b (S i).rc).map (fun r => (r.lo, r.hi)) ++ (S i).H.hide } x = some y →
        look0 (S i).H x = some y ∧ hidden ((unordered b (S i).rc).map (fun r => (r.lo, r.hi))) x = false ∧ hidden (S 0).H.hide x = false := fun x y hx => by
      obtain ⟨g1, g2, g3⟩ := look_some hx
      obtain ⟨g4, g5⟩ := hidden_append g1
      exact ⟨look_of (H := { (S i).H with hide := [] }) rfl g2 g3, g4, by rw [← hkeep.hide]; exact g5⟩
    have hsub : ∀ x y, look { (S i).H with wmin := (S i).H.next, hide := (unordered b (S i).rc).map (fun r => (r.lo, r.hi)) ++ (S i).H.hide } x = some y → Lk S ops.size D s x y := fun x y hx => by
      obtain ⟨g1, g2, g3⟩ := hlow x y hx
      refine inv.see d rel0 (by omega) hsi hno g1 g3 fun j h7 h8 h9 h10 => ?_
      obtain ⟨wr, hr⟩ := d.recd (k := j) (by omega) (by omega)
      have hx : (⟨j, (S j).H.next, (S (j + 1)).H.next, wr⟩ : Rec) ∈ (S i).rc := d.rc_mono h8 (by omega) (by rw [hr]; exact List.mem_cons_self)
      cases hbit : b.testBit j with
      | true => exact d.bits inv.closed i o b j hoi hE h2 hbit
      | false =>
        have hm := mem_unordered (b := b) hx hbit
        have := hidden_mem (List.mem_map.2 ⟨_, hm, rfl⟩ : ((S j).H.next, (S (j + 1)).H.next) ∈ (unordered b (S i).rc).map (fun r => (r.lo, r.hi))) h9 h10
        rw [g2] at this; cases this
    have hrel : Rel C.NG base ρ { (S i).H with wmin := (S i).H.next, hide := (unordered b (S i).rc).map (fun r => (r.lo, r.hi)) ++ (S i).H.hide } w := by
      refine inv.post.rel hsub (fun x y hx => ?_) fun x hx => ?_
      · obtain ⟨g1, _, g3⟩ := hlow x y hx
        exact d.low rel0 (by omega) g1 g3
      · rcases List.mem_append.1 hx with hx | hx
        · obtain ⟨r, hr, rfl⟩ := List.mem_map.1 hx
          exact (hrecs r (unordered_sub hr)).2
        · exact hhide x hx
    refine aoper_wp (lim := (S (i + 1)).H.next) ho hs d.keep hrel hKw hev ⟨fun b h1 h2 => names' b h1 h2 hsi, Nat.le_refl _⟩ h4 (by rw [hnext]; exact Nat.lt_succ_self _) fun v' w' ρ' hv q => ?_
    refine hk _ _ s ρ' ⟨inv.hs, hclosed, fun j wr h7 h8 => also_of (inv.all j wr h7 h8), fun j wr h7 h8 h9 h10 k h11 h12 h13 => ?_, ?_, fun x hx => ?_, d.sets inv.closed hsm hoi hDi ((inv.fr.mono q.ext).put hv _)⟩
    · rcases also_inv h7 with rfl | h7
      · by_cases hkj : k = j
        · subst hkj; exact RecAt.not_both h13 hrec
        · exact hno k h11 (by omega) h13
      · exact inv.later j wr h7 h8 h9 h10 k h11 h12 h13
    · refine (inv.post.add rfl hrel q).sub ?_
      rintro x y (h | ⟨j, h7, h8, h9, h10, h11, h12⟩)
      · exact .inl (.inl h)
      · rcases also_inv h9 with rfl | h9
        · refine .inr ⟨h10, ?_⟩
          rw [h5] at h12
          obtain ⟨g1, g2, g3⟩ := look_some h12
          refine look_of ?_ g2 g3
          rw [k0.hide]
          refine (hidden_app (hidden_above fun p hp => ?_)).trans g1
          obtain ⟨r, hr, rfl⟩ := List.mem_map.1 hp
          exact Nat.le_trans (hrecs r (unordered_sub hr)).2 h10
        · exact .inl (.inr ⟨j, h7, h8, h9, h10, h11, h12⟩)
    · have m0 := d.mono (Nat.zero_le i) (by omega)
      rcases q.ndom x hx with h | ⟨h7, h8⟩
      · rcases inv.names x h with h | ⟨h0, h | ⟨j, g1, g2⟩⟩
        · exact .inl h
        · exact .inr ⟨h0, .inl h⟩
        · exact .inr ⟨h0, .inr ⟨j, also_of g1, g2⟩⟩
      · have h7' : (S i).H.next ≤ x := h7
        have h8' : x < H1.next := h8
        exact .inr ⟨by omega, .inr ⟨i, also_self D i, hsi, hi, h7', by omega⟩⟩

end

end Go.Ev
