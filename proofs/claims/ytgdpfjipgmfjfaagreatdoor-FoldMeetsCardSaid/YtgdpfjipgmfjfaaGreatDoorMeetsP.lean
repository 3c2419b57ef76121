/- How many code points fold to one: at most twenty. No code is walked here. -/
import Derived.Test.YtgdpfjipgmfjfaaGreatDoorCloP
namespace Go.Proofs.YtgdpfjipgmfjfaaGreatDoor
open Go.RowKit
set_option linter.unusedVariables false
set_option linter.unusedSimpArgs false

/-- The total width of ranges. -/
def sumW : List Rg → Int
  | [] => 0
  | x :: rs => (x.hi - x.lo + 1) + sumW rs
theorem sumW_ge : ∀ (rs : List Rg), (∀ x ∈ rs, x.lo ≤ x.hi) → (rs.length : Int) ≤ sumW rs
  | [], _ => Int.le_refl _
  | x :: rs, h => by
    have h1 := sumW_ge rs fun y hy => h y (List.mem_cons_of_mem _ hy)
    have h2 := h x List.mem_cons_self
    unfold sumW
    rw [List.length_cons]
    omega
theorem sumW_snoc : ∀ (rs : List Rg) (x : Rg), sumW (rs ++ [x]) = sumW rs + (x.hi - x.lo + 1)
  | [], x => by unfold sumW; unfold sumW; simp [sumW]
  | y :: rs, x => by
    have := sumW_snoc rs x
    show (y.hi - y.lo + 1) + sumW (rs ++ [x]) = (y.hi - y.lo + 1) + sumW rs + _
    omega
theorem sumW_append : ∀ (rs ss : List Rg), sumW (rs ++ ss) = sumW rs + sumW ss
  | [], ss => by show sumW ss = 0 + sumW ss; omega
  | y :: rs, ss => by
    have := sumW_append rs ss
    show (y.hi - y.lo + 1) + sumW (rs ++ ss) = (y.hi - y.lo + 1) + sumW rs + _
    omega
theorem sumW_take {rs : List Rg} (h : ∀ x ∈ rs, x.lo ≤ x.hi) (k : Nat) : 0 ≤ sumW (rs.take k) ∧ sumW (rs.take k) ≤ sumW rs := by
  have h1 := sumW_ge (rs.take k) fun x hx => h x (List.mem_of_mem_take hx)
  have h2 := sumW_ge (rs.drop k) fun x hx => h x (List.mem_of_mem_drop hx)
  have h3 := sumW_append (rs.take k) (rs.drop k)
  rw [List.take_append_drop] at h3
  omega
theorem span_le : ∀ (n : Nat) (lo : Int) (E : List Int), (∀ r, lo ≤ r → r < lo + n → r ∈ E) → n ≤ E.length
  | 0, _, _, _ => Nat.zero_le _
  | n + 1, lo, E, h => by
    have hm := h (lo + n) (by omega) (by omega)
    have ih := span_le n lo (E.erase (lo + n)) fun r h1 h2 => (List.mem_erase_of_ne (by omega)).2 (h r h1 (by omega))
    rw [List.length_erase_of_mem hm] at ih
    have := List.length_pos_of_mem hm
    omega
theorem parted (p : Int → Bool) : ∀ E : List Int, (E.filter p).length + (E.filter (fun x => !p x)).length = E.length
  | [] => rfl
  | x :: E => by
    have := parted p E
    cases h : p x <;> simp [List.filter_cons, h] <;> omega
theorem sum_le : ∀ (L : List Rg) (E : List Int), CanL L → (∀ r, inSet L r → r ∈ E) → sumW L ≤ E.length
  | [], E, _, _ => by show (0 : Int) ≤ _; omega
  | a :: L, E, hc, h => by
    obtain ⟨h1, h2, h3⟩ := hc.tail
    have hp := parted (fun x => decide (x ≤ a.hi)) E
    have ih := sum_le L (E.filter fun x => !decide (x ≤ a.hi)) h1 fun r hr => by
      rw [List.mem_filter]
      refine ⟨h r ((inSet_cons a L r).2 (.inr hr)), ?_⟩
      obtain ⟨x, hx, q1, q2⟩ := hr
      have := h2 x hx
      have : ¬ r ≤ a.hi := by omega
      simp [this]
    have hs := span_le (a.hi - a.lo + 1).toNat a.lo (E.filter fun x => decide (x ≤ a.hi)) fun r q1 q2 => by
      rw [List.mem_filter]
      have : r ≤ a.hi := by omega
      refine ⟨h r ((inSet_cons a L r).2 (.inl ⟨q1, this⟩)), ?_⟩
      simp [this]
    show (a.hi - a.lo + 1) + sumW L ≤ _
    omega
/-- What a record folds to: its first code point and the last one's. -/
def hitB (s : Nat) (x : Rec) : Bool := !skips x false && (match Sp.pts (fld1 x) with
  | [] => false
  | n :: _ => Nat.ble n s && Nat.ble s (n + (x.hi - x.lo)))
def ovlB (x y : Rec) : Bool := !skips x false && !skips y false && (match Sp.pts (fld1 x), Sp.pts (fld1 y) with
  | n :: _, m :: _ => Nat.ble n (m + (y.hi - y.lo)) && Nat.ble m (n + (x.hi - x.lo))
  | _, _ => false)
def fewB (rs : List Rec) : Bool := rs.all fun x => Nat.ble (rs.filter (ovlB x)).length 19
theorem fol_few : fewB (recsOf Tryz.f56) = true := by kernel_rfl
set_option maxRecDepth 100000 in
theorem files_few : fewB files.fol = true := fol_few
theorem ovl_of {s : Nat} {x y : Rec} (hx : hitB s x = true) (hy : hitB s y = true) : ovlB x y = true := by
  unfold hitB at hx hy
  unfold ovlB
  simp only [Bool.and_eq_true] at hx hy ⊢
  refine ⟨⟨hx.1, hy.1⟩, ?_⟩
  cases h1 : Sp.pts (fld1 x) with
  | nil => rw [h1] at hx; exact absurd hx.2 (by simp)
  | cons n l =>
    cases h2 : Sp.pts (fld1 y) with
    | nil => rw [h2] at hy; exact absurd hy.2 (by simp)
    | cons m k =>
      rw [h1] at hx
      rw [h2] at hy
      have a1 := hx.2
      have a2 := hy.2
      simp only [Bool.and_eq_true, Nat.ble_eq] at a1 a2 ⊢
      omega
theorem hits_few {Φ : Files} (h : fewB Φ.fol = true) (s : Nat) : (Φ.fol.filter (hitB s)).length ≤ 19 := by
  cases hf : Φ.fol.filter (hitB s) with
  | nil => simp
  | cons x l =>
    rw [← hf]
    have hx : x ∈ Φ.fol.filter (hitB s) := by rw [hf]; exact List.mem_cons_self
    obtain ⟨hx1, hx2⟩ := List.mem_filter.1 hx
    unfold fewB at h
    rw [List.all_eq_true] at h
    have h1 := h x hx1
    rw [Nat.ble_eq] at h1
    refine Nat.le_trans ?_ h1
    have : (Φ.fol.filter (hitB s)).Sublist (Φ.fol.filter (ovlB x)) := by
      have e : Φ.fol.filter (hitB s) = (Φ.fol.filter (ovlB x)).filter (hitB s) := by
        rw [List.filter_filter]
        refine List.filter_congr fun y _ => ?_
        cases hy : hitB s y with
        | false => rfl
        | true => rw [ovl_of hx2 hy]; rfl
      rw [e]
      exact List.filter_sublist
    exact this.length_le
def origin (s : Nat) (x : Rec) : Int := match Sp.pts (fld1 x) with
  | [] => 0
  | n :: _ => (x.lo : Int) + ((s : Int) - n)
theorem class_few {Φ : Files} (hok : FilesOk Φ) (h : fewB Φ.fol = true) (s : Int) : ∃ E : List Int, E.length ≤ 20 ∧ ∀ r, simpleOf Φ r = s → r ∈ E := by
  refine ⟨s :: (Φ.fol.filter (hitB s.toNat)).map (origin s.toNat), ?_, fun r hr => ?_⟩
  · have := hits_few h s.toNat
    simp
    omega
  · unfold simpleOf foldz at hr
    cases hF : foldsOf false Φ.fol r with
    | none =>
      rw [hF] at hr
      have : r = s := hr
      rw [this]
      exact List.mem_cons_self
    | some l =>
      rw [hF] at hr
      obtain ⟨x, hx, hsk, q1, q2, rfl⟩ := foldsOf_some false Φ.fol Φ.fol (fun _ => none) (fun _ h => h) (fun _ _ h => by cases h) r l hF
      refine List.mem_cons_of_mem _ (List.mem_map.2 ⟨x, List.mem_filter.2 ⟨hx, ?_⟩, ?_⟩)
      · unfold hitB
        rw [hsk]
        cases hp : Sp.pts (fld1 x) with
        | nil =>
          exact absurd hp (hok.fol x hx).pts
        | cons n l =>
          rw [hp] at hr
          have hs' : ((n + (r - x.lo).toNat : Nat) : Int) = s := hr
          simp only [Bool.not_false, Bool.true_and, Bool.and_eq_true, Nat.ble_eq]
          omega
      · unfold origin
        cases hp : Sp.pts (fld1 x) with
        | nil =>
          exact absurd hp (hok.fol x hx).pts
        | cons n l =>
          rw [hp] at hr
          have hs' : ((n + (r - x.lo).toNat : Nat) : Int) = s := hr
          show (x.lo : Int) + ((s.toNat : Int) - n) = r
          omega
/-- The closure of one code point is narrow. -/
theorem clo_narrow {Φ : Files} (hok : FilesOk Φ) (hS : Settled Φ) (hf : fewB Φ.fol = true) {a : Int} (ha : 0 ≤ a ∧ a ≤ 1114111) {L : List Rg} (hc : CanL L) (hL : ∀ r, inSet L r ↔ cloSet Φ [⟨a, a⟩] r) : sumW L ≤ 20 ∧ ∀ x ∈ L, RgIn x := by
  obtain ⟨E, h1, h2⟩ := class_few hok hf (simpleOf Φ a)
  have hin : ∀ r, inSet L r → 0 ≤ r ∧ r ≤ 1114111 := fun r hr => ((hL r).1 hr).1
  constructor
  · have := sum_le L E hc fun r hr => h2 r ((clo_meets hS a r ha (hin r hr)).1 ((hL r).1 hr)).symm
    omega
  · intro x hx
    have hle := hc.2 x hx
    have p := hin x.lo ⟨x, hx, Int.le_refl _, hle⟩
    have q := hin x.hi ⟨x, hx, hle, Int.le_refl _⟩
    exact ⟨p.1, hle, q.2⟩
end Go.Proofs.YtgdpfjipgmfjfaaGreatDoor
