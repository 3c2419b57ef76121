/- rubricatorlaw09.awake. -/
import Derived.Test.YtkgomgfhfoomhaaGreatDoorClo
import Derived.Test.YtkgomgfhfoomhaaGreatDoorSetP
import Derived.Test.YtkgomgfhfoomhaaGreatDoorREq
import Derived.Test.YtkgomgfhfoomhaaGreatDoorFoldB
namespace Go.Proofs.YtkgomgfhfoomhaaGreatDoor
open Go.RowKit
set_option linter.unusedVariables false
set_option linter.unusedSimpArgs false

/-! ### what the folding's file says of k -/
def inRec (q : Nat) (x : Rec) : Bool := decide (x.lo ≤ q) && decide (q ≤ x.hi)
def toK (x : Rec) : Bool := skips x false || (match Sp.pts (fld1 x) with
  | [] => true
  | n :: _ => !(decide (n ≤ 107) && decide (107 ≤ n + (x.hi - x.lo))) || (Nat.beq (x.lo + (107 - n)) 75 || Nat.beq (x.lo + (107 - n)) 8490))
def foldsK (rs : List Rec) (q : Nat) : Bool := match foldsOf false rs q with
  | some [n] => Nat.beq n 107
  | _ => false
def awakeB (rs : List Rec) : Bool := rs.all (fun x => !inRec 107 x) && rs.all toK && foldsK rs 75 && foldsK rs 8490 && rs.any (inRec 75) && rs.any (inRec 8490) && decide (widthOf rs ≤ 100000)
theorem fol_awake : awakeB (recsOf Tryz.f52) = true := by kernel_rfl
set_option maxRecDepth 100000 in
theorem files_awake : awakeB files.fol = true := fol_awake
def domR (rs : List Rec) (q : Nat) : Prop := ∃ x ∈ rs, x.lo ≤ q ∧ q ≤ x.hi
structure AwakeK (Φ : Files) : Prop where
  k : ¬ domR Φ.fol 107
  tok : ∀ q : Nat, domR Φ.fol q → simpleOf Φ q = 107 → q = 75 ∨ q = 8490
  a : simpleOf Φ ((75 : Nat) : Int) = 107
  b : simpleOf Φ ((8490 : Nat) : Int) = 107
  da : domR Φ.fol 75
  db : domR Φ.fol 8490
theorem foldsK_simple {Φ : Files} {q : Nat} (h : foldsK Φ.fol q = true) : simpleOf Φ (q : Int) = 107 := by
  unfold foldsK at h
  unfold simpleOf foldz
  cases hF : foldsOf false Φ.fol q with
  | none => rw [hF] at h; cases h
  | some l =>
    rw [hF] at h
    match l, h with
    | [n], h =>
      have := Nat.eq_of_beq_eq_true h
      subst this
      rfl
theorem awakeK_of {Φ : Files} (h : awakeB Φ.fol = true) : AwakeK Φ ∧ widthOf Φ.fol ≤ 100000 := by
  unfold awakeB at h
  simp only [Bool.and_eq_true, List.all_eq_true, List.any_eq_true, Bool.not_eq_true', decide_eq_true_eq] at h
  obtain ⟨⟨⟨⟨⟨⟨h1, h2⟩, h3⟩, h4⟩, h5⟩, h6⟩, h7⟩ := h
  have hd : ∀ q, (∃ x ∈ Φ.fol, inRec q x = true) → domR Φ.fol q := by
    rintro q ⟨x, hx, h⟩
    unfold inRec at h
    simp only [Bool.and_eq_true, decide_eq_true_eq] at h
    exact ⟨x, hx, h⟩
  have hk : ¬ domR Φ.fol 107 := by
    rintro ⟨x, hx, q1, q2⟩
    have := h1 x hx
    unfold inRec at this
    rw [decide_eq_true q1, decide_eq_true q2] at this
    cases this
  refine ⟨⟨hk, ?_, foldsK_simple h3, foldsK_simple h4, hd _ h5, hd _ h6⟩, h7⟩
  intro q hq hs
  unfold simpleOf foldz at hs
  cases hF : foldsOf false Φ.fol q with
  | none =>
    rw [hF] at hs
    have : (q : Int) = 107 := hs
    have e : q = 107 := by omega
    rw [e] at hq
    exact absurd hq hk
  | some l =>
    rw [hF] at hs
    obtain ⟨x, hx, hsk, q1, q2, rfl⟩ := foldsOf_some false Φ.fol Φ.fol (fun _ => none) (fun _ h => h) (fun _ _ h => by cases h) q l hF
    have ht := h2 x hx
    unfold toK at ht
    rw [hsk, Bool.false_or] at ht
    cases hp : Sp.pts (fld1 x) with
    | nil =>
      rw [hp] at hs
      have : (0 : Int) = 107 := hs
      omega
    | cons n l =>
      rw [hp] at hs ht
      have hs' : ((n + ((q : Int) - x.lo).toNat : Nat) : Int) = 107 := hs
      have e1 : decide (n ≤ 107) = true := decide_eq_true (by omega)
      have e2 : decide (107 ≤ n + (x.hi - x.lo)) = true := decide_eq_true (by omega)
      simp only [e1, e2, Bool.and_self, Bool.not_true, Bool.false_or, Bool.or_eq_true] at ht
      rcases ht with h | h
      · have := Nat.eq_of_beq_eq_true h
        left
        omega
      · have := Nat.eq_of_beq_eq_true h
        right
        omega
theorem pairsIn_iff (Φ : Files) (p : Int × Int) : pairsIn Φ Φ.fol p ↔ ∃ q : Nat, domR Φ.fol q ∧ (p = ((q : Int), simpleOf Φ q) ∨ p = (simpleOf Φ q, simpleOf Φ q)) := by
  unfold pairsIn pairsTo domR
  constructor
  · rintro ⟨x, hx, r, h1, h2, h3⟩
    exact ⟨r, ⟨x, hx, h1, by omega⟩, h3⟩
  · rintro ⟨r, ⟨x, hx, h1, h2⟩, h3⟩
    exact ⟨x, hx, r, h1, by omega, h3⟩
theorem awake_hits {Φ : Files} (hK : AwakeK Φ) (k : Int) : allHits Φ [⟨107, 107⟩] k ↔ k = 107 := by
  unfold allHits
  constructor
  · rintro ⟨p, h1, h2, h3⟩
    have hp : p.1.1 = 107 := by
      unfold hasB inRg at h2
      simp at h2
      omega
    obtain ⟨q, hq, h | h⟩ := (pairsIn_iff Φ p.1).1 h1
    · have e : p.1.1 = (q : Int) := by rw [h]
      have : q = 107 := by omega
      rw [this] at hq
      exact absurd hq hK.k
    · have e1 : p.1.1 = simpleOf Φ q := by rw [h]
      have e2 : p.1.2 = simpleOf Φ q := by rw [h]
      omega
  · rintro rfl
    refine ⟨⟨(107, 107), by decide, by decide⟩, (pairsIn_iff Φ _).2 ⟨75, hK.da, .inr ?_⟩, by decide, rfl⟩
    show ((107 : Int), (107 : Int)) = _
    rw [hK.a]
def kelvin : List Rg := [⟨75, 75⟩, ⟨107, 107⟩, ⟨8490, 8490⟩]
theorem awake_set {Φ : Files} (hK : AwakeK Φ) {M : List Rg} (hM : ∀ x, x ∈ M ↔ ∃ p : PK, pairsIn Φ Φ.fol p.1 ∧ allHits Φ [⟨107, 107⟩] p.1.2 ∧ x = ⟨p.1.1, p.1.1⟩) (r : Int) : ((0 ≤ r ∧ r ≤ 1114111) ∧ inSet ([⟨107, 107⟩] ++ M) r) ↔ inSet kelvin r := by
  have hk : inSet kelvin r ↔ r = 75 ∨ r = 107 ∨ r = 8490 := by
    unfold kelvin
    rw [inSet_cons, inSet_cons, inSet_one]
    show (75 ≤ r ∧ r ≤ 75) ∨ (107 ≤ r ∧ r ≤ 107) ∨ (8490 ≤ r ∧ r ≤ 8490) ↔ _
    omega
  have hm : inSet M r ↔ r = 75 ∨ r = 107 ∨ r = 8490 := by
    constructor
    · rintro ⟨x, hx, h1, h2⟩
      obtain ⟨p, q1, q2, rfl⟩ := (hM x).1 hx
      have hr : r = p.1.1 := by
        have h1' : p.1.1 ≤ r := h1
        have h2' : r ≤ p.1.1 := h2
        omega
      have q3 := (awake_hits hK _).1 q2
      obtain ⟨q, hq, h | h⟩ := (pairsIn_iff Φ p.1).1 q1
      · have e1 : p.1.1 = (q : Int) := by rw [h]
        have e2 : p.1.2 = simpleOf Φ q := by rw [h]
        rcases hK.tok q hq (by omega) with e | e <;> omega
      · have e1 : p.1.1 = simpleOf Φ q := by rw [h]
        have e2 : p.1.2 = simpleOf Φ q := by rw [h]
        omega
    · have key : ∀ (a : Int) (ha : (Lit.int .i64 a).wf = true), pairsIn Φ Φ.fol (a, 107) → inSet M a := by
        intro a ha hp
        exact ⟨⟨a, a⟩, (hM _).2 ⟨⟨(a, 107), ha, (by decide : (Lit.int .i64 107).wf = true)⟩, hp, (awake_hits hK _).2 rfl, rfl⟩, Int.le_refl _, Int.le_refl _⟩
      rintro (rfl | rfl | rfl)
      · exact key 75 (by decide) ((pairsIn_iff Φ _).2 ⟨75, hK.da, .inl (by rw [hK.a]; rfl)⟩)
      · exact key 107 (by decide) ((pairsIn_iff Φ _).2 ⟨75, hK.da, .inr (by rw [hK.a])⟩)
      · exact key 8490 (by decide) ((pairsIn_iff Φ _).2 ⟨8490, hK.db, .inl (by rw [hK.b]; rfl)⟩)
  rw [inSet_append, inSet_one, hm, hk]
  show ((0 ≤ r ∧ r ≤ 1114111) ∧ ((107 ≤ r ∧ r ≤ 107) ∨ _)) ↔ _
  omega
theorem kelvin_can : CanL kelvin := by
  unfold kelvin CanL
  refine ⟨?_, ?_⟩
  · simp
  · intro x hx
    simp at hx
    rcases hx with rfl | rfl | rfl <;> exact Int.le_refl _
theorem own_cellsN (w : World) (e : TypeId) (k n : Nat) (xs : List Value) (hl : xs.length = n * k) (hn : n ≤ 1000) : (w.alloc (.cells xs.toArray e)).ownsRow w.heap.size e k (.slice (some ⟨w.heap.size, 0, none⟩) n n) n xs :=
  ⟨hl, .inr ⟨w.heap.size, n, xs.toArray, rfl, Nat.le_refl _, row_new _ _, Nat.le_refl _, by unfold maxLen; omega, by simpa using hl, by rw [List.toList_toArray, ← hl, List.take_length]⟩⟩
end Go.Proofs.YtkgomgfhfoomhaaGreatDoor
