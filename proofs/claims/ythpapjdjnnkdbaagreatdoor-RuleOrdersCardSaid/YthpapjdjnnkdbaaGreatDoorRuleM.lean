/- The plain meaning of chapter 2: which error a rule's fields have; no program in sight. -/
import Derived.Test.YthpapjdjnnkdbaaGreatDoorCal
import Derived.Lib.MinMax
namespace Go.Proofs.YthpapjdjnnkdbaaGreatDoor

/-- three ways: below, same, above -/
def cmpI (a b : Int) : Int := if a < b then -1 else if b < a then 1 else 0
def cmpN (a b : Int × Int) : Int := if cmpI a.1 b.1 ≠ 0 then cmpI a.1 b.1 else cmpI a.2 b.2

/-- is an element not above the one ahead? -/
def lateB {α : Type} (ord : α → α → Int) (p : Option α) (x : α) : Bool := match p with | some q => decide (0 ≤ ord q x) | none => false
theorem lateB_none {α : Type} (ord : α → α → Int) (x : α) : lateB ord none x = false := rfl
theorem lateB_some {α : Type} (ord : α → α → Int) (q x : α) : lateB ord (some q) x = decide (0 ≤ ord q x) := rfl
/-- what a list's elements say, from one element on -/
def chkFrom {α : Type} (may : α → Bool) (ord : α → α → Int) : Option α → List α → Int
  | _, [] => 0
  | p, x :: r => if may x = false then 3 else if lateB ord p x = true then 4 else chkFrom may ord (some x) r

def chkList {α : Type} (may : α → Bool) (ord : α → α → Int) (l : List α) : Int := if 64 < l.length then 2 else chkFrom may ord none l

def mayMonth (n : Int) : Bool := decide (1 ≤ n ∧ n ≤ 12)
def mayNear (most n : Int) : Bool := decide (n ≠ 0 ∧ -most ≤ n ∧ n ≤ most)
def mayNth (most : Int) (x : Int × Int) : Bool := decide (0 ≤ x.2 ∧ x.2 ≤ 6 ∧ -most ≤ x.1 ∧ x.1 ≤ most)
def mostOf (f : Int) : Int := if f = 2 then 5 else if f = 3 then 53 else 0

def or4 (a b c d : Int) : Int := if a ≠ 0 then a else if b ≠ 0 then b else if c ≠ 0 then c else d

structure RuleD where
  freq : Int
  itv : Int
  cnt : Int
  untl : Int
  months : List Int
  days : List Int
  wds : List (Int × Int)
  pos : List Int
deriving DecidableEq

def lstOf (r : RuleD) : Int :=
  or4 (chkList mayMonth cmpI r.months) (chkList (mayNear 31) cmpI r.days) (chkList (mayNth (mostOf r.freq)) cmpN r.wds) (chkList (mayNear 366) cmpI r.pos)

/-- a rule's error: 0 of none -/
def chkOf (r : RuleD) : Int :=
  if r.freq < 0 ∨ 4 ≤ r.freq then 6
  else if r.itv < 1 ∨ 999 < r.itv ∨ r.cnt < 0 ∨ 9999 < r.cnt ∨ (r.untl ≠ 0 ∧ isDay r.untl = false) then 3
  else if 0 < r.cnt ∧ 0 < r.untl then 7
  else if lstOf r ≠ 0 then lstOf r
  else if (r.freq = 1 ∧ r.days ≠ []) ∨ (r.pos ≠ [] ∧ r.months = [] ∧ r.days = [] ∧ r.wds = []) then 6 else 0

theorem chkFrom_bd {α : Type} (may : α → Bool) (ord : α → α → Int) (l : List α) : ∀ p, chkFrom may ord p l = 0 ∨ chkFrom may ord p l = 3 ∨ chkFrom may ord p l = 4 := by
  induction l with
  | nil => intro p; exact .inl rfl
  | cons x r ih =>
    intro p
    simp only [chkFrom]
    split
    · exact .inr (.inl rfl)
    · split
      · exact .inr (.inr rfl)
      · exact ih _

theorem chkList_bd {α : Type} (may : α → Bool) (ord : α → α → Int) (l : List α) : 0 ≤ chkList may ord l ∧ chkList may ord l ≤ 4 := by
  unfold chkList
  split
  · omega
  · have := chkFrom_bd may ord l none; omega

/-- the element ahead of the k-th -/
def ahead? {α : Type} (l : List α) (k : Nat) : Option α := if k = 0 then none else l[k - 1]?

theorem ahead?_zero {α : Type} (l : List α) : ahead? l 0 = none := rfl
theorem ahead?_succ {α : Type} (l : List α) (k : Nat) : ahead? l (k + 1) = l[k]? := rfl

theorem chk_range {α : Type} {may : α → Bool} {ord : α → α → Int} {l : List α} {k : Nat} {x : α} (h : l[k]? = some x) (hm : may x = false) :
    chkFrom may ord (ahead? l k) (l.drop k) = 3 := by
  obtain ⟨hk, hx⟩ := List.getElem?_eq_some_iff.1 h
  rw [List.drop_eq_getElem_cons hk, hx]; simp only [chkFrom]; rw [if_pos hm]
theorem chk_first {α : Type} {may : α → Bool} {ord : α → α → Int} {l : List α} {x : α} (h : l[0]? = some x) (hm : may x = true) :
    chkFrom may ord (ahead? l 0) (l.drop 0) = chkFrom may ord (ahead? l 1) (l.drop 1) := by
  obtain ⟨hk, hx⟩ := List.getElem?_eq_some_iff.1 h
  rw [List.drop_eq_getElem_cons hk, hx]; simp only [chkFrom]
  rw [if_neg (by rw [hm]; simp), ahead?_zero, ahead?_succ, h, lateB_none]
  simp
theorem chk_order {α : Type} {may : α → Bool} {ord : α → α → Int} {l : List α} {k : Nat} {p x : α} (h : l[k + 1]? = some x) (hp : l[k]? = some p) (hm : may x = true) (ho : 0 ≤ ord p x) :
    chkFrom may ord (ahead? l (k + 1)) (l.drop (k + 1)) = 4 := by
  obtain ⟨hk, hx⟩ := List.getElem?_eq_some_iff.1 h
  rw [List.drop_eq_getElem_cons hk, hx]; simp only [chkFrom]
  rw [if_neg (by rw [hm]; simp), ahead?_succ, hp, lateB_some]
  simp [ho]
theorem chk_next {α : Type} {may : α → Bool} {ord : α → α → Int} {l : List α} {k : Nat} {p x : α} (h : l[k + 1]? = some x) (hp : l[k]? = some p) (hm : may x = true) (ho : ord p x < 0) :
    chkFrom may ord (ahead? l (k + 1)) (l.drop (k + 1)) = chkFrom may ord (ahead? l (k + 1 + 1)) (l.drop (k + 1 + 1)) := by
  obtain ⟨hk, hx⟩ := List.getElem?_eq_some_iff.1 h
  rw [List.drop_eq_getElem_cons hk, hx]; simp only [chkFrom]
  have h0 : ¬ (0 ≤ ord p x) := by omega
  rw [if_neg (by rw [hm]; simp), ahead?_succ, ahead?_succ, hp, h, lateB_some, if_neg (by simpa using ho)]
theorem chk_end {α : Type} {may : α → Bool} {ord : α → α → Int} {l : List α} {k : Nat} {p : Option α} (h : l.length ≤ k) : chkFrom may ord p (l.drop k) = 0 := by
  rw [List.drop_eq_nil_of_le h]; simp only [chkFrom]

theorem chk_first' {α : Type} {may : α → Bool} {ord : α → α → Int} {l : List α} {k : Nat} {x : α} (hk : k ≤ 0) (h : l[k]? = some x) (hm : may x = true) :
    chkFrom may ord (ahead? l k) (l.drop k) = chkFrom may ord (ahead? l (k + 1)) (l.drop (k + 1)) := by
  obtain rfl : k = 0 := by omega
  exact chk_first h hm
theorem chk_order' {α : Type} {may : α → Bool} {ord : α → α → Int} {l : List α} {k : Nat} {p x : α} (hk : 1 ≤ k) (h : l[k]? = some x) (hp : l[k - 1]? = some p) (hm : may x = true) (ho : 0 ≤ ord p x) :
    chkFrom may ord (ahead? l k) (l.drop k) = 4 := by
  obtain ⟨k, rfl⟩ : ∃ m, k = m + 1 := ⟨k - 1, by omega⟩
  exact chk_order h hp hm ho
theorem chk_next' {α : Type} {may : α → Bool} {ord : α → α → Int} {l : List α} {k : Nat} {p x : α} (hk : 1 ≤ k) (h : l[k]? = some x) (hp : l[k - 1]? = some p) (hm : may x = true) (ho : ord p x < 0) :
    chkFrom may ord (ahead? l k) (l.drop k) = chkFrom may ord (ahead? l (k + 1)) (l.drop (k + 1)) := by
  obtain ⟨k, rfl⟩ : ∃ m, k = m + 1 := ⟨k - 1, by omega⟩
  exact chk_next h hp hm ho

theorem cmpI_lt (a b : Int) : cmpI a b < 0 ↔ a < b := by unfold cmpI; split <;> (try split) <;> omega
theorem cmpI_bd (a b : Int) : -1 ≤ cmpI a b ∧ cmpI a b ≤ 1 := by unfold cmpI; split <;> (try split) <;> omega
theorem cmpI_ge (a b : Int) : 0 ≤ cmpI a b ↔ b ≤ a := by unfold cmpI; split <;> (try split) <;> omega
theorem cmpN_bd (a b : Int × Int) : -1 ≤ cmpN a b ∧ cmpN a b ≤ 1 := by unfold cmpN; split <;> exact cmpI_bd _ _
theorem cmpN_ge (a b : Int × Int) : 0 ≤ cmpN a b ↔ (b.1 < a.1 ∨ (a.1 = b.1 ∧ b.2 ≤ a.2)) := by
  unfold cmpN cmpI
  by_cases h1 : a.1 < b.1 <;> by_cases h2 : b.1 < a.1 <;> by_cases h3 : a.2 < b.2 <;> by_cases h4 : b.2 < a.2 <;> simp [h1, h2, h3, h4] <;> omega
theorem cmpN_lt (a b : Int × Int) : cmpN a b < 0 ↔ (a.1 < b.1 ∨ (a.1 = b.1 ∧ a.2 < b.2)) := by
  have := cmpN_ge a b
  constructor
  · intro h
    have : ¬ (b.1 < a.1 ∨ (a.1 = b.1 ∧ b.2 ≤ a.2)) := fun k => by have := this.2 k; omega
    omega
  · intro h
    apply Int.not_le.1
    intro k
    have := this.1 k
    omega
end Go.Proofs.YthpapjdjnnkdbaaGreatDoor
