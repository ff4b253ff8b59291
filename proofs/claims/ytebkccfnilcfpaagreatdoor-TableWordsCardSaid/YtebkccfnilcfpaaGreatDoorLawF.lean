/- The walk of chapter 7's own Form: by the digits (printed by gen_lawf.py). -/
import Derived.Test.YtebkccfnilcfpaaGreatDoorPlu
namespace Go.Proofs.YtebkccfnilcfpaaGreatDoor
set_option linter.unusedVariables false
set_option linter.unusedSimpArgs false
open Go.RowKit Go.Proofs

/-- A text's ends, told. -/
def Suf (S p : ByteArray) (b : Bool) : Prop := ∀ w, Calls Tryz.prog 37 #[.string S, .string p] w fun e w' => e = .returned (.bool b) ∧ w = w'

theorem suf_of {S p : ByteArray} {b : Bool} (hs : S.size ≤ 9223372036854775807) (h : Lib.hasSuffix S.data.toList p.data.toList = b) : Suf S p b := fun w =>
  (Tryz.strings_HasSuffix S p w hs).mono fun e w' ⟨h1, h2⟩ => ⟨by rw [h1, h], h2.symm⟩

/-- The number's text, told. -/
def Dig (n : Int) (S : ByteArray) (w : World) : Prop := Calls Tryz.prog 36 #[.int .i64 n] w fun e w' => e = .returned (.string S) ∧ Below w.heap.size w w'

theorem lawform_a12_two (n : Int) (S : ByteArray) (w : World) (HI : Dig n S w) (h0 : Suf S ⟨#[50]⟩ true) (h1 : Suf S ⟨#[49, 50]⟩ true) (c1 : ¬ S.toList = [49]) (c0 : ¬ S.toList = [48]) :
    Calls Tryz.prog 18 #[.int .i64 (2 : Int), .int .i64 n] w fun e w' => e = .returned (.int .i64 2) ∧ Below w.heap.size w w' := by
  have d1 : (S.toList == [49]) = false := beq_eq_false_iff_ne.2 c1
  have d0 : (S.toList == [48]) = false := beq_eq_false_iff_ne.2 c0
  go_enter Tryz.func18, Tryz.ntmps18
  go_wp2_with (go_at_call 36; refine HI.mono ?_; rintro e w1 ⟨rfl, hb⟩)
  refine (h0 _).mono ?_
  rintro e w2 ⟨rfl, rfl⟩
  go_wp2_with fail
  refine (h1 _).mono ?_
  rintro e w2 ⟨rfl, rfl⟩
  go_wp2
  go_ret
  exact ⟨rfl, hb⟩

theorem lawform_a12_no (k n : Int) (S : ByteArray) (w : World) (HI : Dig n S w) (h0 : Suf S ⟨#[50]⟩ true) (h1 : Suf S ⟨#[49, 50]⟩ true) (c1 : ¬ S.toList = [49]) (c0 : ¬ S.toList = [48]) (k2 : ¬ k = 2) :
    Calls Tryz.prog 18 #[.int .i64 k, .int .i64 n] w fun e w' => e = .returned (.int .i64 1) ∧ Below w.heap.size w w' := by
  have d1 : (S.toList == [49]) = false := beq_eq_false_iff_ne.2 c1
  have d0 : (S.toList == [48]) = false := beq_eq_false_iff_ne.2 c0
  have e2 : (k == 2) = false := beq_eq_false_iff_ne.2 k2
  go_enter Tryz.func18, Tryz.ntmps18
  go_wp2_with (go_at_call 36; refine HI.mono ?_; rintro e w1 ⟨rfl, hb⟩)
  refine (h0 _).mono ?_
  rintro e w2 ⟨rfl, rfl⟩
  go_wp2_with fail
  refine (h1 _).mono ?_
  rintro e w2 ⟨rfl, rfl⟩
  go_wp2
  go_ret
  exact ⟨rfl, hb⟩

theorem lawform_b2_two (n : Int) (S : ByteArray) (w : World) (HI : Dig n S w) (h0 : Suf S ⟨#[50]⟩ true) (h1 : Suf S ⟨#[49, 50]⟩ false) (h2 : Suf S ⟨#[49, 51]⟩ false) (h3 : Suf S ⟨#[49, 52]⟩ false) (c1 : ¬ S.toList = [49]) (c0 : ¬ S.toList = [48]) :
    Calls Tryz.prog 18 #[.int .i64 (2 : Int), .int .i64 n] w fun e w' => e = .returned (.int .i64 1) ∧ Below w.heap.size w w' := by
  have d1 : (S.toList == [49]) = false := beq_eq_false_iff_ne.2 c1
  have d0 : (S.toList == [48]) = false := beq_eq_false_iff_ne.2 c0
  go_enter Tryz.func18, Tryz.ntmps18
  go_wp2_with (go_at_call 36; refine HI.mono ?_; rintro e w1 ⟨rfl, hb⟩)
  refine (h0 _).mono ?_
  rintro e w2 ⟨rfl, rfl⟩
  go_wp2_with fail
  refine (h1 _).mono ?_
  rintro e w2 ⟨rfl, rfl⟩
  go_wp2_with fail
  refine (h2 _).mono ?_
  rintro e w2 ⟨rfl, rfl⟩
  go_wp2_with fail
  refine (h3 _).mono ?_
  rintro e w2 ⟨rfl, rfl⟩
  go_wp2
  go_ret
  exact ⟨rfl, hb⟩

theorem lawform_b2_no (k n : Int) (S : ByteArray) (w : World) (HI : Dig n S w) (h0 : Suf S ⟨#[50]⟩ true) (h1 : Suf S ⟨#[49, 50]⟩ false) (h2 : Suf S ⟨#[49, 51]⟩ false) (h3 : Suf S ⟨#[49, 52]⟩ false) (c1 : ¬ S.toList = [49]) (c0 : ¬ S.toList = [48]) (k2 : ¬ k = 2) :
    Calls Tryz.prog 18 #[.int .i64 k, .int .i64 n] w fun e w' => e = .returned (.int .i64 1) ∧ Below w.heap.size w w' := by
  have d1 : (S.toList == [49]) = false := beq_eq_false_iff_ne.2 c1
  have d0 : (S.toList == [48]) = false := beq_eq_false_iff_ne.2 c0
  have e2 : (k == 2) = false := beq_eq_false_iff_ne.2 k2
  go_enter Tryz.func18, Tryz.ntmps18
  go_wp2_with (go_at_call 36; refine HI.mono ?_; rintro e w1 ⟨rfl, hb⟩)
  refine (h0 _).mono ?_
  rintro e w2 ⟨rfl, rfl⟩
  go_wp2_with fail
  refine (h1 _).mono ?_
  rintro e w2 ⟨rfl, rfl⟩
  go_wp2_with fail
  refine (h2 _).mono ?_
  rintro e w2 ⟨rfl, rfl⟩
  go_wp2_with fail
  refine (h3 _).mono ?_
  rintro e w2 ⟨rfl, rfl⟩
  go_wp2
  go_ret
  exact ⟨rfl, hb⟩

theorem lawform_a13_two (n : Int) (S : ByteArray) (w : World) (HI : Dig n S w) (h0 : Suf S ⟨#[50]⟩ false) (h1 : Suf S ⟨#[51]⟩ true) (h2 : Suf S ⟨#[49, 50]⟩ false) (h3 : Suf S ⟨#[49, 51]⟩ true) (c1 : ¬ S.toList = [49]) (c0 : ¬ S.toList = [48]) :
    Calls Tryz.prog 18 #[.int .i64 (2 : Int), .int .i64 n] w fun e w' => e = .returned (.int .i64 2) ∧ Below w.heap.size w w' := by
  have d1 : (S.toList == [49]) = false := beq_eq_false_iff_ne.2 c1
  have d0 : (S.toList == [48]) = false := beq_eq_false_iff_ne.2 c0
  go_enter Tryz.func18, Tryz.ntmps18
  go_wp2_with (go_at_call 36; refine HI.mono ?_; rintro e w1 ⟨rfl, hb⟩)
  refine (h0 _).mono ?_
  rintro e w2 ⟨rfl, rfl⟩
  go_wp2_with fail
  refine (h1 _).mono ?_
  rintro e w2 ⟨rfl, rfl⟩
  go_wp2_with fail
  refine (h2 _).mono ?_
  rintro e w2 ⟨rfl, rfl⟩
  go_wp2_with fail
  refine (h3 _).mono ?_
  rintro e w2 ⟨rfl, rfl⟩
  go_wp2
  go_ret
  exact ⟨rfl, hb⟩

theorem lawform_a13_no (k n : Int) (S : ByteArray) (w : World) (HI : Dig n S w) (h0 : Suf S ⟨#[50]⟩ false) (h1 : Suf S ⟨#[51]⟩ true) (h2 : Suf S ⟨#[49, 50]⟩ false) (h3 : Suf S ⟨#[49, 51]⟩ true) (c1 : ¬ S.toList = [49]) (c0 : ¬ S.toList = [48]) (k2 : ¬ k = 2) :
    Calls Tryz.prog 18 #[.int .i64 k, .int .i64 n] w fun e w' => e = .returned (.int .i64 1) ∧ Below w.heap.size w w' := by
  have d1 : (S.toList == [49]) = false := beq_eq_false_iff_ne.2 c1
  have d0 : (S.toList == [48]) = false := beq_eq_false_iff_ne.2 c0
  have e2 : (k == 2) = false := beq_eq_false_iff_ne.2 k2
  go_enter Tryz.func18, Tryz.ntmps18
  go_wp2_with (go_at_call 36; refine HI.mono ?_; rintro e w1 ⟨rfl, hb⟩)
  refine (h0 _).mono ?_
  rintro e w2 ⟨rfl, rfl⟩
  go_wp2_with fail
  refine (h1 _).mono ?_
  rintro e w2 ⟨rfl, rfl⟩
  go_wp2_with fail
  refine (h2 _).mono ?_
  rintro e w2 ⟨rfl, rfl⟩
  go_wp2_with fail
  refine (h3 _).mono ?_
  rintro e w2 ⟨rfl, rfl⟩
  go_wp2
  go_ret
  exact ⟨rfl, hb⟩

theorem lawform_b3_two (n : Int) (S : ByteArray) (w : World) (HI : Dig n S w) (h0 : Suf S ⟨#[50]⟩ false) (h1 : Suf S ⟨#[51]⟩ true) (h2 : Suf S ⟨#[49, 50]⟩ false) (h3 : Suf S ⟨#[49, 51]⟩ false) (h4 : Suf S ⟨#[49, 52]⟩ false) (c1 : ¬ S.toList = [49]) (c0 : ¬ S.toList = [48]) :
    Calls Tryz.prog 18 #[.int .i64 (2 : Int), .int .i64 n] w fun e w' => e = .returned (.int .i64 1) ∧ Below w.heap.size w w' := by
  have d1 : (S.toList == [49]) = false := beq_eq_false_iff_ne.2 c1
  have d0 : (S.toList == [48]) = false := beq_eq_false_iff_ne.2 c0
  go_enter Tryz.func18, Tryz.ntmps18
  go_wp2_with (go_at_call 36; refine HI.mono ?_; rintro e w1 ⟨rfl, hb⟩)
  refine (h0 _).mono ?_
  rintro e w2 ⟨rfl, rfl⟩
  go_wp2_with fail
  refine (h1 _).mono ?_
  rintro e w2 ⟨rfl, rfl⟩
  go_wp2_with fail
  refine (h2 _).mono ?_
  rintro e w2 ⟨rfl, rfl⟩
  go_wp2_with fail
  refine (h3 _).mono ?_
  rintro e w2 ⟨rfl, rfl⟩
  go_wp2_with fail
  refine (h4 _).mono ?_
  rintro e w2 ⟨rfl, rfl⟩
  go_wp2
  go_ret
  exact ⟨rfl, hb⟩

theorem lawform_b3_no (k n : Int) (S : ByteArray) (w : World) (HI : Dig n S w) (h0 : Suf S ⟨#[50]⟩ false) (h1 : Suf S ⟨#[51]⟩ true) (h2 : Suf S ⟨#[49, 50]⟩ false) (h3 : Suf S ⟨#[49, 51]⟩ false) (h4 : Suf S ⟨#[49, 52]⟩ false) (c1 : ¬ S.toList = [49]) (c0 : ¬ S.toList = [48]) (k2 : ¬ k = 2) :
    Calls Tryz.prog 18 #[.int .i64 k, .int .i64 n] w fun e w' => e = .returned (.int .i64 1) ∧ Below w.heap.size w w' := by
  have d1 : (S.toList == [49]) = false := beq_eq_false_iff_ne.2 c1
  have d0 : (S.toList == [48]) = false := beq_eq_false_iff_ne.2 c0
  have e2 : (k == 2) = false := beq_eq_false_iff_ne.2 k2
  go_enter Tryz.func18, Tryz.ntmps18
  go_wp2_with (go_at_call 36; refine HI.mono ?_; rintro e w1 ⟨rfl, hb⟩)
  refine (h0 _).mono ?_
  rintro e w2 ⟨rfl, rfl⟩
  go_wp2_with fail
  refine (h1 _).mono ?_
  rintro e w2 ⟨rfl, rfl⟩
  go_wp2_with fail
  refine (h2 _).mono ?_
  rintro e w2 ⟨rfl, rfl⟩
  go_wp2_with fail
  refine (h3 _).mono ?_
  rintro e w2 ⟨rfl, rfl⟩
  go_wp2_with fail
  refine (h4 _).mono ?_
  rintro e w2 ⟨rfl, rfl⟩
  go_wp2
  go_ret
  exact ⟨rfl, hb⟩

theorem lawform_a14_two (n : Int) (S : ByteArray) (w : World) (HI : Dig n S w) (h0 : Suf S ⟨#[50]⟩ false) (h1 : Suf S ⟨#[51]⟩ false) (h2 : Suf S ⟨#[52]⟩ true) (h3 : Suf S ⟨#[49, 50]⟩ false) (h4 : Suf S ⟨#[49, 51]⟩ false) (h5 : Suf S ⟨#[49, 52]⟩ true) (c1 : ¬ S.toList = [49]) (c0 : ¬ S.toList = [48]) :
    Calls Tryz.prog 18 #[.int .i64 (2 : Int), .int .i64 n] w fun e w' => e = .returned (.int .i64 2) ∧ Below w.heap.size w w' := by
  have d1 : (S.toList == [49]) = false := beq_eq_false_iff_ne.2 c1
  have d0 : (S.toList == [48]) = false := beq_eq_false_iff_ne.2 c0
  go_enter Tryz.func18, Tryz.ntmps18
  go_wp2_with (go_at_call 36; refine HI.mono ?_; rintro e w1 ⟨rfl, hb⟩)
  refine (h0 _).mono ?_
  rintro e w2 ⟨rfl, rfl⟩
  go_wp2_with fail
  refine (h1 _).mono ?_
  rintro e w2 ⟨rfl, rfl⟩
  go_wp2_with fail
  refine (h2 _).mono ?_
  rintro e w2 ⟨rfl, rfl⟩
  go_wp2_with fail
  refine (h3 _).mono ?_
  rintro e w2 ⟨rfl, rfl⟩
  go_wp2_with fail
  refine (h4 _).mono ?_
  rintro e w2 ⟨rfl, rfl⟩
  go_wp2_with fail
  refine (h5 _).mono ?_
  rintro e w2 ⟨rfl, rfl⟩
  go_wp2
  go_ret
  exact ⟨rfl, hb⟩

theorem lawform_a14_no (k n : Int) (S : ByteArray) (w : World) (HI : Dig n S w) (h0 : Suf S ⟨#[50]⟩ false) (h1 : Suf S ⟨#[51]⟩ false) (h2 : Suf S ⟨#[52]⟩ true) (h3 : Suf S ⟨#[49, 50]⟩ false) (h4 : Suf S ⟨#[49, 51]⟩ false) (h5 : Suf S ⟨#[49, 52]⟩ true) (c1 : ¬ S.toList = [49]) (c0 : ¬ S.toList = [48]) (k2 : ¬ k = 2) :
    Calls Tryz.prog 18 #[.int .i64 k, .int .i64 n] w fun e w' => e = .returned (.int .i64 1) ∧ Below w.heap.size w w' := by
  have d1 : (S.toList == [49]) = false := beq_eq_false_iff_ne.2 c1
  have d0 : (S.toList == [48]) = false := beq_eq_false_iff_ne.2 c0
  have e2 : (k == 2) = false := beq_eq_false_iff_ne.2 k2
  go_enter Tryz.func18, Tryz.ntmps18
  go_wp2_with (go_at_call 36; refine HI.mono ?_; rintro e w1 ⟨rfl, hb⟩)
  refine (h0 _).mono ?_
  rintro e w2 ⟨rfl, rfl⟩
  go_wp2_with fail
  refine (h1 _).mono ?_
  rintro e w2 ⟨rfl, rfl⟩
  go_wp2_with fail
  refine (h2 _).mono ?_
  rintro e w2 ⟨rfl, rfl⟩
  go_wp2_with fail
  refine (h3 _).mono ?_
  rintro e w2 ⟨rfl, rfl⟩
  go_wp2_with fail
  refine (h4 _).mono ?_
  rintro e w2 ⟨rfl, rfl⟩
  go_wp2_with fail
  refine (h5 _).mono ?_
  rintro e w2 ⟨rfl, rfl⟩
  go_wp2
  go_ret
  exact ⟨rfl, hb⟩

theorem lawform_b4_two (n : Int) (S : ByteArray) (w : World) (HI : Dig n S w) (h0 : Suf S ⟨#[50]⟩ false) (h1 : Suf S ⟨#[51]⟩ false) (h2 : Suf S ⟨#[52]⟩ true) (h3 : Suf S ⟨#[49, 50]⟩ false) (h4 : Suf S ⟨#[49, 51]⟩ false) (h5 : Suf S ⟨#[49, 52]⟩ false) (c1 : ¬ S.toList = [49]) (c0 : ¬ S.toList = [48]) :
    Calls Tryz.prog 18 #[.int .i64 (2 : Int), .int .i64 n] w fun e w' => e = .returned (.int .i64 1) ∧ Below w.heap.size w w' := by
  have d1 : (S.toList == [49]) = false := beq_eq_false_iff_ne.2 c1
  have d0 : (S.toList == [48]) = false := beq_eq_false_iff_ne.2 c0
  go_enter Tryz.func18, Tryz.ntmps18
  go_wp2_with (go_at_call 36; refine HI.mono ?_; rintro e w1 ⟨rfl, hb⟩)
  refine (h0 _).mono ?_
  rintro e w2 ⟨rfl, rfl⟩
  go_wp2_with fail
  refine (h1 _).mono ?_
  rintro e w2 ⟨rfl, rfl⟩
  go_wp2_with fail
  refine (h2 _).mono ?_
  rintro e w2 ⟨rfl, rfl⟩
  go_wp2_with fail
  refine (h3 _).mono ?_
  rintro e w2 ⟨rfl, rfl⟩
  go_wp2_with fail
  refine (h4 _).mono ?_
  rintro e w2 ⟨rfl, rfl⟩
  go_wp2_with fail
  refine (h5 _).mono ?_
  rintro e w2 ⟨rfl, rfl⟩
  go_wp2
  go_ret
  exact ⟨rfl, hb⟩

theorem lawform_b4_no (k n : Int) (S : ByteArray) (w : World) (HI : Dig n S w) (h0 : Suf S ⟨#[50]⟩ false) (h1 : Suf S ⟨#[51]⟩ false) (h2 : Suf S ⟨#[52]⟩ true) (h3 : Suf S ⟨#[49, 50]⟩ false) (h4 : Suf S ⟨#[49, 51]⟩ false) (h5 : Suf S ⟨#[49, 52]⟩ false) (c1 : ¬ S.toList = [49]) (c0 : ¬ S.toList = [48]) (k2 : ¬ k = 2) :
    Calls Tryz.prog 18 #[.int .i64 k, .int .i64 n] w fun e w' => e = .returned (.int .i64 1) ∧ Below w.heap.size w w' := by
  have d1 : (S.toList == [49]) = false := beq_eq_false_iff_ne.2 c1
  have d0 : (S.toList == [48]) = false := beq_eq_false_iff_ne.2 c0
  have e2 : (k == 2) = false := beq_eq_false_iff_ne.2 k2
  go_enter Tryz.func18, Tryz.ntmps18
  go_wp2_with (go_at_call 36; refine HI.mono ?_; rintro e w1 ⟨rfl, hb⟩)
  refine (h0 _).mono ?_
  rintro e w2 ⟨rfl, rfl⟩
  go_wp2_with fail
  refine (h1 _).mono ?_
  rintro e w2 ⟨rfl, rfl⟩
  go_wp2_with fail
  refine (h2 _).mono ?_
  rintro e w2 ⟨rfl, rfl⟩
  go_wp2_with fail
  refine (h3 _).mono ?_
  rintro e w2 ⟨rfl, rfl⟩
  go_wp2_with fail
  refine (h4 _).mono ?_
  rintro e w2 ⟨rfl, rfl⟩
  go_wp2_with fail
  refine (h5 _).mono ?_
  rintro e w2 ⟨rfl, rfl⟩
  go_wp2
  go_ret
  exact ⟨rfl, hb⟩

theorem lawform_g_two (n : Int) (S : ByteArray) (w : World) (HI : Dig n S w) (h0 : Suf S ⟨#[50]⟩ false) (h1 : Suf S ⟨#[51]⟩ false) (h2 : Suf S ⟨#[52]⟩ false) (c1 : ¬ S.toList = [49]) (c0 : ¬ S.toList = [48]) :
    Calls Tryz.prog 18 #[.int .i64 (2 : Int), .int .i64 n] w fun e w' => e = .returned (.int .i64 2) ∧ Below w.heap.size w w' := by
  have d1 : (S.toList == [49]) = false := beq_eq_false_iff_ne.2 c1
  have d0 : (S.toList == [48]) = false := beq_eq_false_iff_ne.2 c0
  go_enter Tryz.func18, Tryz.ntmps18
  go_wp2_with (go_at_call 36; refine HI.mono ?_; rintro e w1 ⟨rfl, hb⟩)
  refine (h0 _).mono ?_
  rintro e w2 ⟨rfl, rfl⟩
  go_wp2_with fail
  refine (h1 _).mono ?_
  rintro e w2 ⟨rfl, rfl⟩
  go_wp2_with fail
  refine (h2 _).mono ?_
  rintro e w2 ⟨rfl, rfl⟩
  go_wp2
  go_ret
  exact ⟨rfl, hb⟩

theorem lawform_g_no (k n : Int) (S : ByteArray) (w : World) (HI : Dig n S w) (h0 : Suf S ⟨#[50]⟩ false) (h1 : Suf S ⟨#[51]⟩ false) (h2 : Suf S ⟨#[52]⟩ false) (c1 : ¬ S.toList = [49]) (c0 : ¬ S.toList = [48]) (k2 : ¬ k = 2) :
    Calls Tryz.prog 18 #[.int .i64 k, .int .i64 n] w fun e w' => e = .returned (.int .i64 1) ∧ Below w.heap.size w w' := by
  have d1 : (S.toList == [49]) = false := beq_eq_false_iff_ne.2 c1
  have d0 : (S.toList == [48]) = false := beq_eq_false_iff_ne.2 c0
  have e2 : (k == 2) = false := beq_eq_false_iff_ne.2 k2
  go_enter Tryz.func18, Tryz.ntmps18
  go_wp2_with (go_at_call 36; refine HI.mono ?_; rintro e w1 ⟨rfl, hb⟩)
  refine (h0 _).mono ?_
  rintro e w2 ⟨rfl, rfl⟩
  go_wp2_with fail
  refine (h1 _).mono ?_
  rintro e w2 ⟨rfl, rfl⟩
  go_wp2_with fail
  refine (h2 _).mono ?_
  rintro e w2 ⟨rfl, rfl⟩
  go_wp2
  go_ret
  exact ⟨rfl, hb⟩

theorem lawform_one (k n : Int) (S : ByteArray) (w : World) (HI : Dig n S w) (h0 : Suf S ⟨#[50]⟩ false) (h1 : Suf S ⟨#[51]⟩ false) (h2 : Suf S ⟨#[52]⟩ false) (c1 : S.toList = [49]) :
    Calls Tryz.prog 18 #[.int .i64 k, .int .i64 n] w fun e w' => e = .returned (.int .i64 0) ∧ Below w.heap.size w w' := by
  have d1 : (S.toList == [49]) = true := by rw [c1]; rfl
  go_enter Tryz.func18, Tryz.ntmps18
  go_wp2_with (go_at_call 36; refine HI.mono ?_; rintro e w1 ⟨rfl, hb⟩)
  refine (h0 _).mono ?_
  rintro e w2 ⟨rfl, rfl⟩
  go_wp2_with fail
  refine (h1 _).mono ?_
  rintro e w2 ⟨rfl, rfl⟩
  go_wp2_with fail
  refine (h2 _).mono ?_
  rintro e w2 ⟨rfl, rfl⟩
  go_wp2
  go_ret
  exact ⟨rfl, hb⟩

theorem lawform_nought_fr (n : Int) (S : ByteArray) (w : World) (HI : Dig n S w) (h0 : Suf S ⟨#[50]⟩ false) (h1 : Suf S ⟨#[51]⟩ false) (h2 : Suf S ⟨#[52]⟩ false) (c1 : ¬ S.toList = [49]) (c0 : S.toList = [48]) :
    Calls Tryz.prog 18 #[.int .i64 (1 : Int), .int .i64 n] w fun e w' => e = .returned (.int .i64 0) ∧ Below w.heap.size w w' := by
  have d1 : (S.toList == [49]) = false := by rw [c0]; rfl
  have d0 : (S.toList == [48]) = true := by rw [c0]; rfl
  go_enter Tryz.func18, Tryz.ntmps18
  go_wp2_with (go_at_call 36; refine HI.mono ?_; rintro e w1 ⟨rfl, hb⟩)
  refine (h0 _).mono ?_
  rintro e w2 ⟨rfl, rfl⟩
  go_wp2_with fail
  refine (h1 _).mono ?_
  rintro e w2 ⟨rfl, rfl⟩
  go_wp2_with fail
  refine (h2 _).mono ?_
  rintro e w2 ⟨rfl, rfl⟩
  go_wp2
  go_ret
  exact ⟨rfl, hb⟩

theorem lawform_nought_two (n : Int) (S : ByteArray) (w : World) (HI : Dig n S w) (h0 : Suf S ⟨#[50]⟩ false) (h1 : Suf S ⟨#[51]⟩ false) (h2 : Suf S ⟨#[52]⟩ false) (c1 : ¬ S.toList = [49]) (c0 : S.toList = [48]) :
    Calls Tryz.prog 18 #[.int .i64 (2 : Int), .int .i64 n] w fun e w' => e = .returned (.int .i64 2) ∧ Below w.heap.size w w' := by
  have d1 : (S.toList == [49]) = false := by rw [c0]; rfl
  have d0 : (S.toList == [48]) = true := by rw [c0]; rfl
  go_enter Tryz.func18, Tryz.ntmps18
  go_wp2_with (go_at_call 36; refine HI.mono ?_; rintro e w1 ⟨rfl, hb⟩)
  refine (h0 _).mono ?_
  rintro e w2 ⟨rfl, rfl⟩
  go_wp2_with fail
  refine (h1 _).mono ?_
  rintro e w2 ⟨rfl, rfl⟩
  go_wp2_with fail
  refine (h2 _).mono ?_
  rintro e w2 ⟨rfl, rfl⟩
  go_wp2
  go_ret
  exact ⟨rfl, hb⟩

theorem lawform_nought_no (k n : Int) (S : ByteArray) (w : World) (HI : Dig n S w) (h0 : Suf S ⟨#[50]⟩ false) (h1 : Suf S ⟨#[51]⟩ false) (h2 : Suf S ⟨#[52]⟩ false) (c1 : ¬ S.toList = [49]) (c0 : S.toList = [48]) (k1 : ¬ k = 1) (k2 : ¬ k = 2) :
    Calls Tryz.prog 18 #[.int .i64 k, .int .i64 n] w fun e w' => e = .returned (.int .i64 1) ∧ Below w.heap.size w w' := by
  have d1 : (S.toList == [49]) = false := by rw [c0]; rfl
  have d0 : (S.toList == [48]) = true := by rw [c0]; rfl
  have e2 : (k == 2) = false := beq_eq_false_iff_ne.2 k2
  have e1 : (k == 1) = false := beq_eq_false_iff_ne.2 k1
  go_enter Tryz.func18, Tryz.ntmps18
  go_wp2_with (go_at_call 36; refine HI.mono ?_; rintro e w1 ⟨rfl, hb⟩)
  refine (h0 _).mono ?_
  rintro e w2 ⟨rfl, rfl⟩
  go_wp2_with fail
  refine (h1 _).mono ?_
  rintro e w2 ⟨rfl, rfl⟩
  go_wp2_with fail
  refine (h2 _).mono ?_
  rintro e w2 ⟨rfl, rfl⟩
  go_wp2
  go_ret
  exact ⟨rfl, hb⟩

end Go.Proofs.YtebkccfnilcfpaaGreatDoor
