/- From a row's conditions to what the chapters' walks ask of a world. -/
import Derived.Test.YtebkccfnilcfpaaGreatDoorRowKit
import Derived.Test.YtebkccfnilcfpaaGreatDoorSyCtr
import Derived.HandedShaped
import Derived.Lib.LaidU8
namespace Go.Proofs.YtebkccfnilcfpaaGreatDoor
set_option linter.unusedVariables false
set_option linter.unusedSimpArgs false
open Go.ChangeShapes Go.WideShapes Go.ChangeAt Go.RowKit

section
variable {H : Type} {enc : TypeId × Value → H}

/-- The wrap of a row without a stop: what holds of the world's variables AND the world's shape go to the contract. -/
theorem handed_all {a : Assume} {C : Checked} {os : Os} {f : FuncId} {fn : Func} {s : ChangeSpec} {conds : List PathCond} {apart fresh handsOn again : Bool} {X : World → Array Value → Prop}
    (hX : ∀ (w w' : World) (args : Array Value), w.heap = w'.heap → X w args → X w' args)
    (own : ownKnob C.prog.godebug = none) (started : os.Started) (noInit : C.prog.inits.idxOf? f = none) (hfn : C.prog.funcs[f]? = some fn)
    (witness : ∃ (w : World) (tape : Tape) (i : Input), w.os = os ∧ (w.forCall tape i).Shaped C.prog ∧ i.vars = [] ∧ Input.okWide C.prog (w.forCall tape i) .any w.heap.size f i ∧
      ((s.pre enc C.prog fn conds apart (w.forCall tape i).memory i.args ∧ X (w.forCall tape i).memory i.args) ∧ sizedMet enc C.prog fn (OpenSpec.ofChange s) apart (w.forCall tape i).memory i.args) ∧ a.holds C.prog (lone (Frame.enter C.prog f i.args .normal) [] (w.forCall tape i)))
    (contract : ∀ (W : World) (base : Nat) (args : Array Value) (ds gs : List (DataW H)) (before : List MemPlace),
      (∀ (j : Nat) t v, fn.params[j]? = some t → args[j]? = some v → Value.okWide C.prog W .any base t v) →
      DataW.Whole enc C.prog fn.params.toList s.vars apart W args.toList ds gs before → X W args → W.ShapedOpen C.prog →
      Calls C.prog f args W fun e W' => ∃ v, e = .returned v ∧ s.post enc C.prog fn apart fresh handsOn again W args v W') :
    ReturnsInHanded a C os f .any (fun w args => (s.pre enc C.prog fn conds apart w args ∧ X w args) ∧ sizedMet enc C.prog fn (OpenSpec.ofChange s) apart w args) (s.post enc C.prog fn apart fresh handsOn again) := by
  refine returnsInHanded_of_calls own started noInit witness fun w tape i _ hsh _ hok hpre _ => ?_
  have hok' := hok
  obtain ⟨_, _, _, fn', hfn', _, _, _, _, hval⟩ := hok'
  rw [hfn] at hfn'
  cases hfn'
  obtain ⟨⟨⟨ds, gs, before, hw, _⟩, hx⟩, _⟩ := hpre
  refine Calls.mono (contract (w.forCall tape i) w.heap.size i.args ds gs before hval (DataW.Whole.of_heap (w' := w.forCall tape i) (by rfl) hw) (hX _ _ _ (by rfl) hx) hsh) ?_
  rintro e W' ⟨v, rfl, hp⟩
  exact ChangeSpec.post_blind hp
end

/-- The array of texts as a row lists it. -/
def strsData {H : Type} (l : List (List UInt8)) : DataW H := .agg (l.map fun s => .lit (.string s))

theorem cells_of_strs {H : Type} {enc : TypeId × Value → H} {P : Program} {w : World} {base : Nat} {sp : Nat → Bool} {held : Bool} {fuel : Nat} {t e : TypeId} {n : Nat} {cs : List Value} {zs : List (List UInt8)} {p : List MemPlace}
    (ht : P.underlying t = some (.array n e)) (he : P.underlying e = some .string) (hce : P.cellsOf e = 1) (hct : P.cellsOf t = n)
    (h : DataW.trod enc P w base sp held fuel t cs = some (strsData zs, p)) : cs = zs.map fun z => Value.string ⟨z.toArray⟩ := by
  cases fuel with
  | zero => simp [DataW.trod] at h
  | succ fuel =>
    simp only [DataW.trod, ht, hce, hct, Nat.mul_one] at h
    split at h
    · rename_i hl
      obtain ⟨xs, hm, hx⟩ := Option.map_eq_some_iff.1 h
      have hxs : xs.map (·.1) = zs.map fun z => (DataW.lit (.string z) : DataW H) := by
        have := congrArg Prod.fst hx
        simpa [strsData] using this
      have hxl : xs.length = n := by simpa using Lib.mapM_length hm
      have hzl : zs.length = n := by
        have := congrArg List.length hxs
        simp at this
        omega
      apply List.ext_getElem?
      intro i
      by_cases hi : i < n
      · obtain ⟨b, hb, hf⟩ := Lib.mapM_at hm i i (by simp [hi])
        obtain ⟨z, hc, rfl, _⟩ := DataW.trod_string he hf
        have h1 : cs[i]? = some (.string z) := by
          have := congrArg (·[0]?) hc
          simpa [List.getElem?_take, List.getElem?_drop] using this
        have h2 : (xs.map (·.1))[i]? = some (DataW.lit (.string z.data.toList) : DataW H) := by simp [hb]
        rw [hxs] at h2
        simp only [List.getElem?_map, Option.map_eq_some_iff, DataW.lit.injEq, Lit.string.injEq] at h2
        obtain ⟨z', hz', rfl⟩ := h2
        simp [h1, hz']
      · rw [List.getElem?_eq_none (by omega), List.getElem?_eq_none (by simp; omega)]
    · cases h

theorem var_of {W : World} {name : String} {g : Nat} {cs : Array Value} (hg : Tryz.prog.globalNamed name = some g) (h : W.var? Tryz.prog name = some cs) : VarIs W g cs.toList := by
  unfold World.var? at h
  rw [hg] at h
  simp only [Option.bind_some] at h
  split at h
  · rename_i c t fr hb
    cases h
    exact ⟨t, fr, by simpa using hb⟩
  · cases h

/-- A table of texts among the listed variables. -/
theorem strs_of_laid {W : World} {l : List (String × DataW Unit)} {name : String} {zs : List (List UInt8)} {g : Nat} {t e : TypeId} {n : Nat}
    (h : laidMet Tryz.prog l W) (hm : (name, strsData zs) ∈ l) (hg : Tryz.prog.globalNamed name = some g) (hty : (Tryz.prog.globals[g]?).map (·.type) = some t)
    (ht : Tryz.prog.underlying t = some (.array n e)) (he : Tryz.prog.underlying e = some .string) (hce : Tryz.prog.cellsOf e = 1) (hct : Tryz.prog.cellsOf t = n) : VarIs W g (zs.map fun z => Value.string ⟨z.toArray⟩) := by
  obtain ⟨ps, hv, _⟩ := h
  obtain ⟨g', t', cs, fuel, p, hg', ht', hvar, hd⟩ := laidVars_mem hv hm
  obtain rfl := Option.some.inj (hg.symm.trans hg')
  obtain rfl := Option.some.inj (hty.symm.trans ht')
  rw [← cells_of_strs ht he hce hct hd]
  exact var_of hg hvar

set_option maxRecDepth 1000000 in
theorem u8_of_laid {W : World} {l : List (String × DataW Unit)} (h : laidMet Tryz.prog l W) (h8 : ("unicode/utf8.first", Rows.laid_unicode_utf8_first) ∈ l) (h9 : ("unicode/utf8.acceptRanges", Rows.laid_unicode_utf8_acceptRanges) ∈ l) :
    Lib.Utf8Tabs 1 2 W :=
  utf8Tabs_of_reads (ρ := Tryz.lays260_ren) Tryz.lays260 ⟨by kernel_rfl, by kernel_rfl, by kernel_rfl, by kernel_rfl, by kernel_rfl, by kernel_rfl, by kernel_rfl⟩ (Lib.laidMet.reads h h8) (Lib.laidMet.reads h h9)

theorem many_of_laid {W : World} {l : List (String × DataW Unit)} (h : laidMet Tryz.prog l W) (h7 : ("kalends/table.many", Rows.laid_kalends_table_many) ∈ l) : VarIs W 0 vMany := by
  have m := tab_of_laid (k := .i64) (zs := [1, 1, 4, 4, 4, 1, 1, 1, 1, 1, 1, 1, 1, 12, 7, 0, 0, 0, 0]) (g := 0) (t := 70) (e := 3) (n := 19) h h7 (by kernel_rfl) (by kernel_rfl) (by kernel_rfl) (by kernel_rfl) (by kernel_rfl) (by kernel_rfl)
  have v := var_of (show Tryz.prog.globalNamed "kalends/table.many" = some 0 by kernel_rfl) m
  simpa [vMany] using v

theorem wld_of_laid {W : World} {l : List (String × DataW Unit)} (h : laidMet Tryz.prog l W) (hsh : W.ShapedOpen Tryz.prog) (h1 : ("kalends/civil.months", Rows.laid_kalends_civil_months) ∈ l)
    (h2 : ("internal/strconv.uint64pow10", Rows.laid_internal_strconv_uint64pow10) ∈ l) (h3 : ("kalends/rfc.freqs", Rows.laid_kalends_rfc_freqs) ∈ l) (h4 : ("kalends/rfc.weekdays", Rows.laid_kalends_rfc_weekdays) ∈ l)
    (h5 : ("strconv.ErrSyntax", Rows.laid_strconv_ErrSyntax) ∈ l) (h6 : ("strconv.ErrRange", Rows.laid_strconv_ErrRange) ∈ l)
    (h7 : ("kalends/table.many", Rows.laid_kalends_table_many) ∈ l) (h8 : ("unicode/utf8.first", Rows.laid_unicode_utf8_first) ∈ l) (h9 : ("unicode/utf8.acceptRanges", Rows.laid_unicode_utf8_acceptRanges) ∈ l)
    : Wld W := by
  have s := std_of_laid h h1 h2
  have v1 := var_of months_global' s.months
  have v2 := var_of pow_global s.pow
  refine ⟨?_, ?_, ?_, ?_, Tryz.laysM219.s1_3 W hsh, ?_, ?_, many_of_laid h h7, u8_of_laid h h8 h9⟩
  · simpa [vMonths] using v1
  · simpa [vPow] using v2
  · exact strs_of_laid (zs := [[68,65,73,76,89], [87,69,69,75,76,89], [77,79,78,84,72,76,89], [89,69,65,82,76,89]]) (t := 178) (e := 9) (n := 4) h h3 (by kernel_rfl) (by kernel_rfl) (by kernel_rfl) (by kernel_rfl) (by kernel_rfl) (by kernel_rfl)
  · exact strs_of_laid (zs := [[77,79], [84,85], [87,69], [84,72], [70,82], [83,65], [83,85]]) (t := 202) (e := 9) (n := 7) h h4 (by kernel_rfl) (by kernel_rfl) (by kernel_rfl) (by kernel_rfl) (by kernel_rfl) (by kernel_rfl)
  · obtain ⟨ps, hv, _⟩ := h
    obtain ⟨g, t, cs, fuel, p, hg, ht, hvar, hd⟩ := laidVars_mem hv h5
    have hg' : Tryz.prog.globalNamed "strconv.ErrSyntax" = some 10 := by kernel_rfl
    have ht' : (Tryz.prog.globals[10]?).map (·.type) = some 64 := by kernel_rfl
    obtain rfl := Option.some.inj (hg'.symm.trans hg)
    obtain rfl := Option.some.inj (ht'.symm.trans ht)
    obtain ⟨_, u, v, hcs, _, _⟩ := iface_of_trod Tryz.underlying64 hd
    have hc := World.var?_cell hg' hvar 0
    rw [Array.eq_one_of_toList hcs] at hc
    exact ⟨u, v, by simpa using hc⟩
  · obtain ⟨ps, hv, _⟩ := h
    obtain ⟨g, t, cs, fuel, p, hg, ht, hvar, hd⟩ := laidVars_mem hv h6
    have hg' : Tryz.prog.globalNamed "strconv.ErrRange" = some 11 := by kernel_rfl
    have ht' : (Tryz.prog.globals[11]?).map (·.type) = some 64 := by kernel_rfl
    obtain rfl := Option.some.inj (hg'.symm.trans hg)
    obtain rfl := Option.some.inj (ht'.symm.trans ht)
    obtain ⟨_, u, v, hcs, _, _⟩ := iface_of_trod Tryz.underlying64 hd
    have hc := World.var?_cell hg' hvar 0
    rw [Array.eq_one_of_toList hcs] at hc
    exact ⟨u, v, by simpa using hc⟩

end Go.Proofs.YtebkccfnilcfpaaGreatDoor
