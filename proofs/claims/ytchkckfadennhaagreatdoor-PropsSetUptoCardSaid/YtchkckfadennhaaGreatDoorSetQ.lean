/- Sets of code points that records tell: a category's, a script's; no code is walked here. -/
import Derived.Test.YtchkckfadennhaaGreatDoorSetP
import Derived.Test.YtchkckfadennhaaGreatDoorCatP
import Derived.Test.YtchkckfadennhaaGreatDoorAccM
namespace Go.Proofs.YtchkckfadennhaaGreatDoor
open Go.RowKit
set_option linter.unusedVariables false
set_option linter.unusedSimpArgs false

/-- A set's one list is no longer than any list of its ranges. -/
theorem can_len {L M : List Rg} (hL : CanL L) (h : ∀ r, inSet L r ↔ (0 ≤ r ∧ r ≤ 1114111) ∧ inSet M r) : L.length ≤ M.length := by
  have hs : ((clipped M).mergeSort (fun a b => decide (a.lo ≤ b.lo))).Pairwise (fun a b => a.lo ≤ b.lo) := by
    have h1 := List.pairwise_mergeSort (le := fun a b : Rg => decide (a.lo ≤ b.lo)) (fun a b c h1 h2 => by simp only [decide_eq_true_eq] at *; omega) (fun a b => by simp only [Bool.or_eq_true, decide_eq_true_eq]; omega) (clipped M)
    exact h1.imp fun h => by simpa using h
  have hp : ((clipped M).mergeSort (fun a b => decide (a.lo ≤ b.lo))).Perm (clipped M) := List.mergeSort_perm _ _
  obtain ⟨k1, k2⟩ := make_set hp hs
  have e := can_unique hL k1 fun r => (h r).trans (k2 r).symm
  rw [e]
  exact Nat.le_trans (joinAll_len _) (by rw [hp.length_eq]; exact clipped_len M)

/-! ### records that rise -/
def risesB : List Rec → Bool
  | x :: y :: l => decide (x.hi < y.lo) && risesB (y :: l)
  | _ => true
theorem rises_pair : ∀ {l : List Rec}, risesB l = true → (∀ x ∈ l, x.lo ≤ x.hi) → l.Pairwise fun x y => x.hi < y.lo
  | [], _, _ => List.Pairwise.nil
  | [x], _, _ => by simp
  | x :: y :: l, h, hl => by
    unfold risesB at h
    rw [Bool.and_eq_true, decide_eq_true_eq] at h
    have ih := rises_pair h.2 fun z hz => hl z (List.mem_cons_of_mem _ hz)
    refine List.Pairwise.cons ?_ ih
    intro z hz
    rcases List.mem_cons.1 hz with rfl | hz
    · exact h.1
    · have h1 := (List.pairwise_cons.1 ih).1 z hz
      have h2 := hl y (by simp)
      omega
theorem rises_one {l : List Rec} (h : l.Pairwise fun x y => x.hi < y.lo) (hl : ∀ x ∈ l, x.lo ≤ x.hi) {r : Int} {x : Rec} (hx : x ∈ l) (hr : inRec2 r x = true) : l.find? (inRec2 r) = some x := by
  induction l with
  | nil => cases hx
  | cons a l ih =>
    rw [List.pairwise_cons] at h
    rw [List.find?_cons]
    rcases List.mem_cons.1 hx with rfl | hx'
    · rw [hr]
    · have h1 := h.1 x hx'
      have h2 := hl x hx
      have : inRec2 r a = false := by
        unfold inRec2 at hr ⊢
        simp only [Bool.and_eq_true, decide_eq_true_eq, Bool.and_eq_false_iff, decide_eq_false_iff_not] at hr ⊢
        omega
      rw [this]
      exact ih h.2 (fun z hz => hl z (List.mem_cons_of_mem _ hz)) hx'
/-- What the records say of a code point, if anything. -/
def hitOf (rs : List Rec) (r : Int) : Option Sp.Str := (rs.find? (inRec2 r)).map fld0
theorem firstOf_hit (rs : List Rec) (r : Int) (other : Sp.Str) : firstOf rs r other = (hitOf rs r).getD other := by
  unfold firstOf hitOf
  cases rs.find? (inRec2 r) <;> rfl
theorem trie_hit {rs : List Rec} (h : ∀ x ∈ rs, x.hi ≤ 1114111) (r : Int) : trieGet (valsOf rs) (entCur (entsOf rs).reverse) r = hitOf rs r := by
  have h1 := txOf_first h r []
  have h2 := txOf_first h r [0]
  rw [firstOf_hit] at h1 h2
  unfold txOf at h1 h2
  generalize trieGet (valsOf rs) (entCur (entsOf rs).reverse) r = x at *
  generalize hitOf rs r = y at *
  cases x with
  | none => cases y with
    | none => rfl
    | some b =>
      have e1 : [] = b := h1
      have e2 : [0] = b := h2
      rw [← e1] at e2
      cases e2
  | some a => cases y with
    | none =>
      have e1 : a = [] := h1
      have e2 : a = [0] := h2
      rw [e1] at e2
      cases e2
    | some b =>
      have e1 : a = b := h1
      rw [e1]
/-- Where the records that are such lie. -/
def rgsIf (p : Sp.Str → Bool) (rs : List Rec) : List Rg := rgsOf (rs.filter fun x => p (fld0 x))
theorem rgsIf_len (p : Sp.Str → Bool) (rs : List Rec) : (rgsIf p rs).length ≤ rs.length := by
  unfold rgsIf
  rw [rgsOf_len]
  exact List.length_filter_le _ _
theorem rgsIf_in (p : Sp.Str → Bool) (rs : List Rec) (r : Int) : inSet (rgsIf p rs) r ↔ ∃ x ∈ rs, p (fld0 x) = true ∧ inRec2 r x = true := by
  unfold inSet rgsIf rgsOf inRec2
  constructor
  · rintro ⟨y, hy, h⟩
    obtain ⟨x, hx, rfl⟩ := List.mem_map.1 hy
    obtain ⟨h1, h2⟩ := List.mem_filter.1 hx
    exact ⟨x, h1, h2, by simpa using h⟩
  · rintro ⟨x, hx, hp, h⟩
    exact ⟨⟨x.lo, x.hi⟩, List.mem_map.2 ⟨x, List.mem_filter.2 ⟨hx, hp⟩, rfl⟩, by simpa using h⟩
/-- Records that rise say one thing of each code point. -/
structure Rises (rs : List Rec) : Prop where
  up : risesB rs = true
  ok : ∀ x ∈ rs, RecOk x
theorem Rises.find {rs : List Rec} (h : Rises rs) {r : Int} {x : Rec} (hx : x ∈ rs) (hr : inRec2 r x = true) : rs.find? (inRec2 r) = some x :=
  rises_one (rises_pair h.up fun x hx => (h.ok x hx).1) (fun x hx => (h.ok x hx).1) hx hr
theorem Rises.hit {rs : List Rec} (h : Rises rs) (p : Sp.Str → Bool) (r : Int) : inSet (rgsIf p rs) r ↔ ∃ c, hitOf rs r = some c ∧ p c = true := by
  rw [rgsIf_in]
  unfold hitOf
  constructor
  · rintro ⟨x, hx, hp, hr⟩
    rw [h.find hx hr]
    exact ⟨_, rfl, hp⟩
  · rintro ⟨c, hc, hp⟩
    obtain ⟨x, hx, rfl⟩ := Option.map_eq_some_iff.1 hc
    exact ⟨x, List.mem_of_find?_eq_some hx, hp, List.find?_some hx⟩
theorem hit_in {rs : List Rec} (h : ∀ x ∈ rs, x.hi ≤ 1114111) {r : Int} {c : Sp.Str} (hc : hitOf rs r = some c) : (0 ≤ r ∧ r ≤ 1114111) ∧ c ∈ valsOf rs := by
  unfold hitOf at hc
  obtain ⟨x, hx, rfl⟩ := Option.map_eq_some_iff.1 hc
  have h1 := List.find?_some hx
  have h2 := List.mem_of_find?_eq_some hx
  unfold inRec2 at h1
  simp only [Bool.and_eq_true, decide_eq_true_eq] at h1
  have h3 := h x h2
  refine ⟨by omega, ?_⟩
  obtain ⟨s, t, rfl⟩ := List.append_of_mem h2
  unfold valsOf
  rw [List.foldl_append, List.foldl_cons]
  have hm := addVal_mem (s.foldl (fun vs r => addVal vs (fld0 r)) []) (fld0 x)
  obtain ⟨k, hk, he⟩ := List.mem_iff_getElem.1 hm
  have := vals_keep t _ k (fld0 x) (by rw [List.getElem?_eq_getElem hk, he])
  exact List.mem_iff_getElem?.2 ⟨k, this⟩
theorem hit_none {rs : List Rec} {r : Int} : hitOf rs r = none ↔ ¬ inSet (rgsOf rs) r := by
  have e : rgsOf rs = rgsIf (fun _ => true) rs := by unfold rgsIf; rw [List.filter_eq_self.2 (fun _ _ => rfl)]
  rw [e, rgsIf_in]
  unfold hitOf
  rw [Option.map_eq_none_iff, List.find?_eq_none]
  constructor
  · rintro h ⟨x, hx, _, hr⟩
    exact h x hx hr
  · intro h x hx hr
    exact h ⟨x, hx, rfl, hr⟩

/-! ### a category's set -/
/-- Which categories v names. -/
def which (v c : Sp.Str) : Bool := c == v || (v.length == 1 && v.isPrefixOf c)
def Cn : Sp.Str := [67, 110]
/-- The set of a category, or of a letter's. -/
def catSet (rs : List Rec) (v : Sp.Str) (r : Int) : Prop := (0 ≤ r ∧ r ≤ 1114111) ∧ which v (firstOf rs r Cn) = true
theorem catSet_iff {rs : List Rec} (h : Rises rs) (v : Sp.Str) (r : Int) : catSet rs v r ↔ (0 ≤ r ∧ r ≤ 1114111) ∧ (inSet (rgsIf (which v) rs) r ∨ (which v Cn = true ∧ ¬ inSet (rgsOf rs) r)) := by
  unfold catSet
  rw [firstOf_hit, h.hit, ← hit_none]
  cases e : hitOf rs r with
  | none =>
    simp
  | some c =>
    simp
/-- The program's way: the kinds' sets, one by one, and what no record has. -/
theorem catSet_kinds {rs : List Rec} (h : Rises rs) (v : Sp.Str) (r : Int) : catSet rs v r ↔ (0 ≤ r ∧ r ≤ 1114111) ∧ ((∃ c ∈ valsOf rs, which v c = true ∧ hitOf rs r = some c) ∨ (which v Cn = true ∧ ¬ inSet (rgsOf rs) r)) := by
  rw [catSet_iff h, h.hit]
  have hhi : ∀ x ∈ rs, x.hi ≤ 1114111 := fun x hx => (h.ok x hx).2.1
  constructor
  · rintro ⟨h0, ⟨c, h1, h2⟩ | h1⟩
    · exact ⟨h0, .inl ⟨c, (hit_in hhi h1).2, h2, h1⟩⟩
    · exact ⟨h0, .inr h1⟩
  · rintro ⟨h0, ⟨c, _, h1, h2⟩ | h1⟩
    · exact ⟨h0, .inl ⟨c, h2, h1⟩⟩
    · exact ⟨h0, .inr h1⟩
/-- The reference's way to tell which. -/
def whichR (v c : Sp.Str) : Bool := c == v || (v.length == 1 && c.take 1 == v)
theorem whichR_eq (v c : Sp.Str) : whichR v c = which v c := by
  unfold whichR which
  congr 1
  cases v with
  | nil => rfl
  | cons a v =>
    cases v with
    | nil => cases c with
      | nil => rfl
      | cons b c =>
        simp [List.isPrefixOf]
        exact Bool.beq_comm ..
    | cons b v => simp
/-- A set of one text, by the records. -/
def textSet (rs : List Rec) (v : Sp.Str) (r : Int) : Prop := hitOf rs r = some v
theorem textSet_iff {rs : List Rec} (h : Rises rs) (v : Sp.Str) (r : Int) : textSet rs v r ↔ inSet (rgsIf (fun c => c == v) rs) r := by
  rw [h.hit]
  unfold textSet
  constructor
  · intro e
    exact ⟨v, e, by simp⟩
  · rintro ⟨c, e, hc⟩
    rw [e, beq_iff_eq.1 hc]
/-! ### how many sets have a code point -/
def two : List Sp.Str := [[67, 99], [67, 102], [67, 110], [76, 108], [76, 111], [76, 116], [76, 117], [77, 99], [77, 110], [78, 100], [78, 108], [78, 111], [80, 99], [80, 100], [80, 101], [80, 102], [80, 105], [80, 111], [80, 115], [83, 99], [83, 107], [83, 109], [83, 111], [90, 108], [90, 112], [90, 115]]
def one : List Sp.Str := [[67], [76], [77], [78], [80], [83], [90]]
def countB (l : List Sp.Str) (c : Sp.Str) : Nat := (l.filter fun v => which v c).length
def countsB (rs : List Rec) : Bool := (Cn :: valsOf rs).all fun c => countB two c == 1 && countB one c == 1
theorem counts {rs : List Rec} (h : ∀ x ∈ rs, x.hi ≤ 1114111) (hc : countsB rs = true) (r : Int) : countB two (firstOf rs r Cn) = 1 ∧ countB one (firstOf rs r Cn) = 1 := by
  have hm : firstOf rs r Cn ∈ Cn :: valsOf rs := by
    rw [firstOf_hit]
    cases e : hitOf rs r with
    | none => exact List.mem_cons_self
    | some c => exact List.mem_cons_of_mem _ (hit_in h e).2
  have := List.all_eq_true.1 hc _ hm
  simpa using this
set_option maxRecDepth 100000 in
theorem rises_cat : risesB (recsOf Tryz.f18) = true := by kernel_rfl
set_option maxRecDepth 100000 in
theorem rises_scr : risesB (recsOf Tryz.f20) = true := by kernel_rfl
set_option maxRecDepth 100000 in
theorem counts_cat : countsB (recsOf Tryz.f18) = true := by kernel_rfl
set_option maxRecDepth 100000 in
theorem files_counts : countsB files.cat = true := counts_cat
end Go.Proofs.YtchkckfadennhaaGreatDoor
