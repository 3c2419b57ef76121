/- props: the maps of texts (parts, folds); folding. -/
import Derived.Test.YtmdkjljcnegmeaaDoorPointsW
import Derived.Test.YtmdkjljcnegmeaaDoorDag2
namespace Go.Proofs.YtmdkjljcnegmeaaDoor
open Go.RowKit
set_option linter.unusedVariables false
set_option linter.unusedSimpArgs false

/-- A map from code points to rows of code points: m its block, c how often it was written, F what it holds. -/
def PtsAt (w : World) (B m c : Nat) (F : Int → Option (List Nat)) : Prop :=
  ∃ f, MapF w kInt m c f ∧ B ≤ m ∧ ∀ r, match F r with | none => f r = none | some l => ∃ v, f r = some v ∧ w.ownsRow B 3 1 v l.length (ints l)
section
variable {w w' : World} {B m c : Nat} {F : Int → Option (List Nat)}
theorem PtsAt.made (w : World) {B : Nat} (hB : B ≤ w.heap.size) : PtsAt (w.alloc (.map #[] 0)) B w.heap.size 0 (fun _ => none) := ⟨_, MapF.made w kInt, hB, fun r => rfl⟩
theorem PtsAt.lt (h : PtsAt w B m c F) : m < w.heap.size := by obtain ⟨f, h1, _⟩ := h; exact h1.lt
theorem PtsAt.below (h : PtsAt w B m c F) (hb : Below w.heap.size w w') : PtsAt w' B m c F := by
  obtain ⟨f, h1, h2, h3⟩ := h
  refine ⟨f, h1.below hb h1.lt, h2, fun r => ?_⟩
  have := h3 r
  cases hF : F r with
  | none => rw [hF] at this; exact this
  | some l => rw [hF] at this; obtain ⟨v, e, ho⟩ := this; exact ⟨v, e, own_below ho hb⟩
/-- What turns below the base and above nothing. -/
theorem PtsAt.above (h : PtsAt w B m c F) (ha : ∀ k, B ≤ k → k < w.heap.size → w'.heap[k]? = w.heap[k]?) : PtsAt w' B m c F := by
  obtain ⟨f, h1, h2, h3⟩ := h
  refine ⟨f, h1.block (ha m h2 h1.lt), h2, fun r => ?_⟩
  have := h3 r
  cases hF : F r with
  | none => rw [hF] at this; exact this
  | some l => rw [hF] at this; obtain ⟨v, e, ho⟩ := this; exact ⟨v, e, own_above ho ha⟩
theorem PtsAt.mono (h : PtsAt w B m c F) {c' : Nat} (hc : c ≤ c') : PtsAt w B m c' F := by
  obtain ⟨f, h1, h2, h3⟩ := h
  exact ⟨f, h1.mono hc, h2, h3⟩
def setP (F : Int → Option (List Nat)) (x : Int) (l : List Nat) : Int → Option (List Nat) := fun y => if y = x then some l else F y
/-- One more row. -/
theorem PtsAt.put (h : PtsAt w B m c F) {v : Value} {l : List Nat} (ho : w.ownsRow B 3 1 v l.length (ints l)) (x : Int) (hx : (Lit.int .i64 x).wf = true) (hc : c < maxLen) :
    ∃ w', (Instr.mapUpdate 36 (.map (some m)) (.int .i64 x) v).run Tryd.prog w = .ok () w' ∧ PtsAt w' B m (c + 1) (setP F x l) ∧ w.grownBy w' (some m) := by
  obtain ⟨f, h1, h2, h3⟩ := h
  obtain ⟨w', hrun, r1, r2⟩ := h1.update (t := 36) (e := 25) Tryd.underlying36 hc v x hx
  have key : ∀ (u : Value) (l : List Nat), w.ownsRow B 3 1 u l.length (ints l) → w'.ownsRow B 3 1 u l.length (ints l) := fun u l hu => hu.kept r2 (own_map_ne hu h1)
  refine ⟨w', hrun, ⟨_, r1, h2, fun r => ?_⟩, r2⟩
  unfold setP setF
  by_cases e : r = x
  · rw [if_pos e, if_pos e]
    exact ⟨v, rfl, key _ _ ho⟩
  · rw [if_neg e, if_neg e]
    have := h3 r
    cases hF : F r with
    | none => rw [hF] at this; exact this
    | some l => rw [hF] at this; obtain ⟨u, e, hu⟩ := this; exact ⟨u, e, key _ _ hu⟩
/-- Another map's turn. -/
theorem PtsAt.other (h : PtsAt w B m c F) {m' c' : Nat} {F' : Int → Option (List Nat)} (h' : PtsAt w B m' c' F') (hne : m ≠ m') (hg : w.grownBy w' (some m')) : PtsAt w' B m c F := by
  obtain ⟨f', g1, _⟩ := h'
  obtain ⟨f, h1, h2, h3⟩ := h
  refine ⟨f, h1.kept hg (by simpa using hne), h2, fun r => ?_⟩
  have := h3 r
  cases hF : F r with
  | none => rw [hF] at this; exact this
  | some l => rw [hF] at this; obtain ⟨v, e, ho⟩ := this; exact ⟨v, e, ho.kept hg (own_map_ne ho g1)⟩
theorem PtsAt.look (h : PtsAt w B m c F) (x : Int) (hx : (Lit.int .i64 x).wf = true) (com : Bool) :
    ∃ v, (Instr.lookup 36 (.map (some m)) (.int .i64 x) com).run Tryd.prog w = .ok (if com then .tuple #[v, .bool (F x).isSome] else v) w ∧ (match F x with | none => v = .slice none 0 0 | some l => w.ownsRow B 3 1 v l.length (ints l)) := by
  obtain ⟨f, h1, h2, h3⟩ := h
  have hz : (zeroValue 25).run Tryd.prog w = .ok (.slice none 0 0) w := Tryd.zeroValue25 w
  have hl := h1.look com (t := 36) (e := 25) Tryd.underlying36 hz x hx
  have := h3 x
  cases hF : F x with
  | none =>
    rw [hF] at this
    simp only at this
    rw [this] at hl
    exact ⟨_, hl, rfl⟩
  | some l =>
    rw [hF] at this
    obtain ⟨v, e, ho⟩ := this
    rw [e] at hl
    exact ⟨v, hl, ho⟩
end
/-- One record of the folding's file at one of the two maps (full or not). -/
def bump (l : List Nat) (d : Nat) : List Nat := match l with | [] => [] | n :: l => (n + d) :: l
def fld1 (r : Rec) : Sp.Str := (r.fields.drop 1).headD []
def skips (x : Rec) (full : Bool) : Bool := decide (fld0 x ≠ [67]) && ((fld0 x == [70]) != full)
def foldTo (x : Rec) (F : Int → Option (List Nat)) (r : Int) : Option (List Nat) :=
  match F r with | some l => some l | none => if (x.lo : Int) ≤ r ∧ r ≤ x.hi then some (bump (Sp.pts (fld1 x)) (r - x.lo).toNat) else none
def foldRec (x : Rec) (full : Bool) (F : Int → Option (List Nat)) : Int → Option (List Nat) := if skips x full then F else foldTo x F
structure FoldOk (x : Rec) : Prop where
  le : x.lo ≤ x.hi
  hi : x.hi ≤ 1114111
  two : ∃ a b l, x.fields = a :: b :: l
  ascii : ∀ b ∈ fld1 x, b.toNat < 128
  len : (fld1 x).length < 1000
  pts : Sp.pts (fld1 x) ≠ []
theorem pts_le (s : Sp.Str) : ∀ n ∈ Sp.pts s, n ≤ 1114111 := by
  intro n hn
  unfold Sp.pts at hn
  obtain ⟨f, _, hf⟩ := List.mem_filterMap.1 hn
  unfold Sp.hex at hf
  split at hf
  · cases hf
  · split at hf
    · split at hf
      · cases hf
      · cases hf; omega
    · cases hf
end Go.Proofs.YtmdkjljcnegmeaaDoor
