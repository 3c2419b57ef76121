/- StbP, NormP: in one text. -/
import Derived.Sort.LotA
namespace Go.Proofs.YthoegenipbohmaaGreatDoor
open Go.Sort
set_option linter.unusedVariables false
set_option linter.unusedSimpArgs false
namespace Stb
section
variable {α : Type} [Inhabited α] {key : α → Int}

omit [Inhabited α] in
theorem nil_or_snoc (l : List α) : l = [] ∨ ∃ W z, l = W ++ [z] := by
  rcases List.eq_nil_or_concat l with h | ⟨W, z, h⟩
  · exact .inl h
  · exact .inr ⟨W, z, by rw [h, List.concat_eq_append]⟩
def Asc (key : α → Int) (l : List α) : Prop := l.Pairwise fun a b => key a ≤ key b
def Flt (key : α → Int) (x y : List α) : Prop := ∀ c : Int, y.filter (fun a => key a == c) = x.filter (fun a => key a == c)
/-- y is x, stably sorted. -/
def Stable (key : α → Int) (x y : List α) : Prop := Asc key y ∧ Flt key x y
omit [Inhabited α] in
theorem Flt.refl (x : List α) : Flt key x x := fun _ => rfl
omit [Inhabited α] in
theorem Flt.trans {x y z : List α} (h : Flt key x y) (h' : Flt key y z) : Flt key x z := fun c => (h' c).trans (h c)
omit [Inhabited α] in
theorem Flt.symm {x y : List α} (h : Flt key x y) : Flt key y x := fun c => (h c).symm
omit [Inhabited α] in
theorem Flt.app {x y x' y' : List α} (h : Flt key x y) (h' : Flt key x' y') : Flt key (x ++ x') (y ++ y') := fun c => by rw [List.filter_append, List.filter_append, h c, h' c]
omit [Inhabited α] in
theorem Flt.mem {x y : List α} (h : Flt key x y) (a : α) : a ∈ y ↔ a ∈ x := by
  have h1 : ∀ l : List α, a ∈ l ↔ a ∈ l.filter (fun b => key b == key a) := fun l => by simp [List.mem_filter]
  rw [h1 y, h (key a), ← h1 x]
omit [Inhabited α] in
/-- Two pieces with no key in common change places. -/
theorem Flt.turn {u v : List α} (h : ∀ a ∈ v, ∀ b ∈ u, key a < key b) : Flt key (u ++ v) (v ++ u) := fun c => by
  rw [List.filter_append, List.filter_append]
  by_cases hu : u.filter (fun a => key a == c) = []
  · rw [hu]; simp
  · have : v.filter (fun a => key a == c) = [] := by
      rw [List.filter_eq_nil_iff]
      intro a ha hc
      obtain ⟨b, hb⟩ := List.exists_mem_of_ne_nil _ hu
      obtain ⟨hb1, hb2⟩ := List.mem_filter.1 hb
      have := h a ha b hb1
      simp at hc hb2
      omega
    rw [this]; simp
omit [Inhabited α] in
theorem Asc.app {x y : List α} (h : Asc key x) (h' : Asc key y) (hxy : ∀ a ∈ x, ∀ b ∈ y, key a ≤ key b) : Asc key (x ++ y) := List.pairwise_append.2 ⟨h, h', hxy⟩
omit [Inhabited α] in
theorem asc_unique : ∀ y y' : List α, Asc key y → Asc key y' → Flt key y y' → y = y'
  | [], y', _, _, h => by
    cases y' with
    | nil => rfl
    | cons b t => exact absurd ((Flt.mem h b).1 List.mem_cons_self) (by simp)
  | a :: t, [], _, _, h => absurd ((Flt.mem h a).2 List.mem_cons_self) (by simp)
  | a :: t, b :: t', h1, h2, h => by
    have h1' := List.pairwise_cons.1 h1
    have h2' := List.pairwise_cons.1 h2
    have hab : key a = key b := by
      have e1 : key b ≤ key a := by
        rcases List.mem_cons.1 ((Flt.mem h a).2 List.mem_cons_self) with e | hm
        · rw [e]; exact Int.le_refl _
        · exact h2'.1 a hm
      have e2 : key a ≤ key b := by
        rcases List.mem_cons.1 ((Flt.mem h b).1 List.mem_cons_self) with e | hm
        · rw [e]; exact Int.le_refl _
        · exact h1'.1 b hm
      omega
    have hf := h (key a)
    rw [List.filter_cons_of_pos (by simp [hab]), List.filter_cons_of_pos (by simp)] at hf
    injection hf with he _
    subst he
    have ht : Flt key t t' := fun c => by
      have hc := h c
      by_cases e : (key b == c) = true
      · simp only [List.filter_cons, e, if_true] at hc
        injection hc
      · have e : (key b == c) = false := by simpa using e
        simp only [List.filter_cons, e, Bool.false_eq_true, if_false] at hc
        exact hc
    rw [asc_unique t t' h1'.2 h2'.2 ht]
omit [Inhabited α] in
theorem stable_unique {x y y' : List α} (h : Stable key x y) (h' : Stable key x y') : y = y' := asc_unique y y' h.1 h'.1 (h.2.symm.trans h'.2)
omit [Inhabited α] in
theorem asc_last {W : List α} {z : α} (h : Asc key (W ++ [z])) : ∀ w ∈ W ++ [z], key w ≤ key z := by
  intro w hw
  rcases List.mem_append.1 hw with hw | hw
  · exact (List.pairwise_append.1 h).2.2 w hw z (by simp)
  · have : w = z := by simpa using hw
    rw [this]; exact Int.le_refl _
omit [Inhabited α] in
theorem asc_first {W : List α} {z : α} (h : Asc key (z :: W)) : ∀ w ∈ z :: W, key z ≤ key w := by
  intro w hw
  rcases List.mem_cons.1 hw with e | hw
  · rw [e]; exact Int.le_refl _
  · exact (List.pairwise_cons.1 h).1 w hw

/-! ### exchanges, as lists -/
theorem get_list (d : Array α) (i : Nat) : d[i]! = d.toList[i]?.getD default := by
  rw [getElem!_def, Array.getElem?_toList]
  cases d[i]? <;> rfl
theorem at_mid {d : Array α} {p s : List α} {x : α} {i : Nat} (h : d.toList = p ++ x :: s) (hi : p.length = i) : d[i]! = x := by
  subst hi
  rw [get_list, h]
  simp
omit [Inhabited α] in
theorem set_mid (p s : List α) (x v : α) : (p ++ x :: s).set p.length v = p ++ v :: s := by
  rw [List.set_append_right _ _ (Nat.le_refl _), Nat.sub_self, List.set_cons_zero]
theorem swp_list {d : Array α} {p m s : List α} {x y : α} {i j : Nat} (h : d.toList = p ++ x :: (m ++ y :: s)) (hi : p.length = i) (hj : p.length + 1 + m.length = j) : (swp d i j).toList = p ++ y :: (m ++ x :: s) := by
  have hx : d[i]! = x := at_mid h hi
  have hy : d[j]! = y := at_mid (p := p ++ x :: m) (s := s) (by rw [h]; simp) (by simp; omega)
  unfold swp
  rw [hx, hy, Array.toList_setIfInBounds, Array.toList_setIfInBounds, h]
  subst hi
  have e : j = (p ++ y :: m).length := by simp; omega
  rw [set_mid, e, show p ++ y :: (m ++ y :: s) = (p ++ y :: m) ++ y :: s by simp, set_mid]
  simp
theorem swp_list' {d : Array α} {p m s : List α} {x y : α} {i j : Nat} (h : d.toList = p ++ x :: (m ++ y :: s)) (hi : p.length = i) (hj : p.length + 1 + m.length = j) : (swp d j i).toList = p ++ y :: (m ++ x :: s) := by
  have hx : d[i]! = x := at_mid h hi
  have hy : d[j]! = y := at_mid (p := p ++ x :: m) (s := s) (by rw [h]; simp) (by simp; omega)
  unfold swp
  rw [hx, hy, Array.toList_setIfInBounds, Array.toList_setIfInBounds, h]
  subst hi
  have e : j = (p ++ x :: m).length := by simp; omega
  rw [e, show p ++ x :: (m ++ y :: s) = (p ++ x :: m) ++ y :: s by simp, set_mid, show (p ++ x :: m) ++ x :: s = p ++ x :: (m ++ x :: s) by simp, set_mid]

def swapR : Nat → Nat → Nat → Array α → Array α
  | 0, a, b, d => d
  | n + 1, a, b, d => swapR n (a + 1) (b + 1) (swp d a b)
theorem swapR_size : ∀ (n a b : Nat) (d : Array α), (swapR n a b d).size = d.size
  | 0, _, _, _ => rfl
  | n + 1, a, b, d => by
    show (swapR n (a + 1) (b + 1) (swp d a b)).size = _
    rw [swapR_size n, size_swp]
theorem swapR_list : ∀ (n : Nat) (d : Array α) (p U m V s : List α) (a b : Nat), d.toList = p ++ (U ++ (m ++ (V ++ s))) → p.length = a → U.length = n → V.length = n → a + n + m.length = b →
    (swapR n a b d).toList = p ++ (V ++ (m ++ (U ++ s)))
  | 0, d, p, U, m, V, s, a, b, h, ha, hU, hV, hb => by
    obtain rfl := List.length_eq_zero_iff.1 hU
    obtain rfl := List.length_eq_zero_iff.1 hV
    exact h
  | n + 1, d, p, [], m, V, s, a, b, h, ha, hU, hV, hb => by cases hU
  | n + 1, d, p, x :: U, m, [], s, a, b, h, ha, hU, hV, hb => by cases hV
  | n + 1, d, p, x :: U, m, y :: V, s, a, b, h, ha, hU, hV, hb => by
    have hU' : U.length = n := by simpa using hU
    have hV' : V.length = n := by simpa using hV
    have h1 := swp_list (d := d) (p := p) (m := U ++ m) (s := V ++ s) (x := x) (y := y) (i := a) (j := b) (by rw [h]; simp) ha (by rw [List.length_append]; omega)
    have h2 := swapR_list n (swp d a b) (p ++ [y]) U (m ++ [x]) V s (a + 1) (b + 1) (by rw [h1]; simp) (by simp; omega) hU' hV' (by simp; omega)
    show (swapR n (a + 1) (b + 1) (swp d a b)).toList = _
    rw [h2]
    simp

/-! ### rotating -/
def RotInv (m i j : Nat) (d : Array α) (T : List α) : Prop := ∃ p U V s, d.toList = p ++ (U ++ (V ++ s)) ∧ p.length + i = m ∧ U.length = i ∧ V.length = j ∧ T = p ++ (V ++ (U ++ s))
theorem RotInv.big {m i j : Nat} {d : Array α} {T : List α} (h : RotInv m i j d T) (hij : j < i) : RotInv m (i - j) j (swapR j (m - i) m d) T := by
  obtain ⟨p, U, V, s, h1, h2, h3, h4, rfl⟩ := h
  have hs := swapR_list j d p (U.take j) (U.drop j) V s (m - i) m (by rw [h1, ← List.append_assoc (U.take j), List.take_append_drop]) (by omega) (by rw [List.length_take]; omega) h4 (by rw [List.length_drop]; omega)
  refine ⟨p ++ V, U.drop j, U.take j, s, by rw [hs]; simp, by rw [List.length_append]; omega, by rw [List.length_drop]; omega, by rw [List.length_take]; omega, ?_⟩
  rw [← List.append_assoc (U.take j), List.take_append_drop]
  simp
theorem RotInv.small {m i j : Nat} {d : Array α} {T : List α} (h : RotInv m i j d T) (hij : i < j) : RotInv m i (j - i) (swapR i (m - i) (m + j - i) d) T := by
  obtain ⟨p, U, V, s, h1, h2, h3, h4, rfl⟩ := h
  have hs := swapR_list i d p U (V.take (j - i)) (V.drop (j - i)) s (m - i) (m + j - i) (by rw [h1, ← List.append_assoc (V.take (j - i)), List.take_append_drop]) (by omega) h3 (by rw [List.length_drop]; omega) (by rw [List.length_take]; omega)
  refine ⟨p, V.drop (j - i), V.take (j - i), U ++ s, hs, h2, by rw [List.length_drop]; omega, by rw [List.length_take]; omega, ?_⟩
  rw [← List.append_assoc (V.take (j - i)), List.take_append_drop]
theorem RotInv.done {m i : Nat} {d : Array α} {T : List α} (h : RotInv m i i d T) : (swapR i (m - i) m d).toList = T := by
  obtain ⟨p, U, V, s, h1, h2, h3, h4, rfl⟩ := h
  exact swapR_list i d p U [] V s (m - i) m (by rw [h1]; rfl) (by omega) h3 h4 (by simp; omega)
/-- What rotating comes to. -/
def RotSaid (a m b : Nat) (d d' : Array α) : Prop := d'.size = d.size ∧ ∀ p U V s, d.toList = p ++ (U ++ (V ++ s)) → p.length = a → a + U.length = m → m + V.length = b → d'.toList = p ++ (V ++ (U ++ s))
omit [Inhabited α] in
theorem rot_none {a m b : Nat} {d : Array α} (h : m = a ∨ m = b) : RotSaid a m b d d := by
  refine ⟨rfl, fun p U V s hd hp hU hV => ?_⟩
  rcases h with h | h
  · have : U = [] := List.length_eq_zero_iff.1 (by omega)
    subst this
    exact hd
  · have : V = [] := List.length_eq_zero_iff.1 (by omega)
    subst this
    exact hd
omit [Inhabited α] in
theorem seg_exists (d : Array α) (a m b : Nat) (h1 : a ≤ m) (h2 : m ≤ b) (h3 : b ≤ d.size) : ∃ p U V s, d.toList = p ++ (U ++ (V ++ s)) ∧ p.length = a ∧ a + U.length = m ∧ m + V.length = b := by
  have hl : d.toList.length = d.size := Array.length_toList
  refine ⟨d.toList.take a, (d.toList.drop a).take (m - a), (d.toList.drop m).take (b - m), d.toList.drop b, ?_, ?_, ?_, ?_⟩
  · have e1 : (d.toList.drop m).take (b - m) ++ d.toList.drop b = d.toList.drop m := by
      have := List.take_append_drop (b - m) (d.toList.drop m)
      rw [List.drop_drop, show m + (b - m) = b by omega] at this
      exact this
    have e2 : (d.toList.drop a).take (m - a) ++ d.toList.drop m = d.toList.drop a := by
      have := List.take_append_drop (m - a) (d.toList.drop a)
      rw [List.drop_drop, show a + (m - a) = m by omega] at this
      exact this
    rw [e1, e2, List.take_append_drop]
  · rw [List.length_take]; omega
  · rw [List.length_take, List.length_drop]; omega
  · rw [List.length_take, List.length_drop]; omega
omit [Inhabited α] in
theorem seg_unique {p U V s p' U' V' s' : List α} (h : p ++ (U ++ (V ++ s)) = p' ++ (U' ++ (V' ++ s'))) (h1 : p.length = p'.length) (h2 : U.length = U'.length) (h3 : V.length = V'.length) : p = p' ∧ U = U' ∧ V = V' ∧ s = s' := by
  obtain ⟨e1, h⟩ := List.append_inj h h1
  obtain ⟨e2, h⟩ := List.append_inj h h2
  obtain ⟨e3, e4⟩ := List.append_inj h h3
  exact ⟨e1, e2, e3, e4⟩
omit [Inhabited α] in
theorem RotInv.start {a m b : Nat} {d : Array α} (h1 : a ≤ m) (h2 : m ≤ b) (h3 : b ≤ d.size) : ∃ T, RotInv m (m - a) (b - m) d T ∧ ∀ d' : Array α, d'.toList = T → RotSaid a m b d d' := by
  obtain ⟨p, U, V, s, hd, hp, hU, hV⟩ := seg_exists d a m b h1 h2 h3
  refine ⟨p ++ (V ++ (U ++ s)), ⟨p, U, V, s, hd, by omega, by omega, by omega, rfl⟩, fun d' hd' => ⟨?_, fun p' U' V' s' hd2 hp' hU' hV' => ?_⟩⟩
  · have e1 : d'.toList.length = d'.size := Array.length_toList
    have e2 : d.toList.length = d.size := Array.length_toList
    rw [hd'] at e1
    rw [hd] at e2
    simp only [List.length_append] at e1 e2
    omega
  · obtain ⟨rfl, rfl, rfl, rfl⟩ := seg_unique (hd.symm.trans hd2) (by omega) (by omega) (by omega)
    exact hd'

/-! ### merging -/
def MergeSaid (key : α → Int) (a m b : Nat) (d d' : Array α) : Prop := d'.size = d.size ∧ ∀ p U V s, d.toList = p ++ (U ++ (V ++ s)) → p.length = a → a + U.length = m → m + V.length = b → Asc key U → Asc key V → ∃ X, d'.toList = p ++ (X ++ s) ∧ Stable key (U ++ V) X
omit [Inhabited α] in
theorem merge_none {a m b : Nat} {d : Array α} (h : m = a ∨ m = b) : MergeSaid key a m b d d := by
  refine ⟨rfl, fun p U V s hd hp hU hV aU aV => ?_⟩
  rcases h with h | h
  · have : U = [] := List.length_eq_zero_iff.1 (by omega)
    subst this
    exact ⟨V, hd, aV, Flt.refl _⟩
  · have : V = [] := List.length_eq_zero_iff.1 (by omega)
    subst this
    exact ⟨U, hd, aU, by rw [List.append_nil]; exact Flt.refl _⟩
def fwd : Nat → Nat → Array α → Array α
  | 0, k, d => d
  | n + 1, k, d => fwd n (k + 1) (swp d k (k + 1))
def bwd : Nat → Nat → Array α → Array α
  | 0, k, d => d
  | n + 1, k, d => bwd n (k - 1) (swp d k (k - 1))
theorem fwd_size : ∀ (n k : Nat) (d : Array α), (fwd n k d).size = d.size
  | 0, _, _ => rfl
  | n + 1, k, d => by
    show (fwd n (k + 1) (swp d k (k + 1))).size = _
    rw [fwd_size n, size_swp]
theorem bwd_size : ∀ (n k : Nat) (d : Array α), (bwd n k d).size = d.size
  | 0, _, _ => rfl
  | n + 1, k, d => by
    show (bwd n (k - 1) (swp d k (k - 1))).size = _
    rw [bwd_size n, size_swp]
theorem fwd_list : ∀ (n : Nat) (d : Array α) (p : List α) (x : α) (V s : List α) (k : Nat), d.toList = p ++ x :: (V ++ s) → p.length = k → V.length = n → (fwd n k d).toList = p ++ (V ++ x :: s)
  | 0, d, p, x, V, s, k, h, hp, hV => by
    obtain rfl := List.length_eq_zero_iff.1 hV
    exact h
  | n + 1, d, p, x, [], s, k, h, hp, hV => by cases hV
  | n + 1, d, p, x, v :: V, s, k, h, hp, hV => by
    have hV' : V.length = n := by simpa using hV
    have h1 := swp_list (d := d) (p := p) (m := []) (s := V ++ s) (x := x) (y := v) (i := k) (j := k + 1) (by rw [h]; simp) hp (by simp; omega)
    have h2 := fwd_list n (swp d k (k + 1)) (p ++ [v]) x V s (k + 1) (by rw [h1]; simp) (by simp; omega) hV'
    show (fwd n (k + 1) (swp d k (k + 1))).toList = _
    rw [h2]
    simp
theorem bwd_list : ∀ (n : Nat) (d : Array α) (p V : List α) (y : α) (s : List α) (k : Nat), d.toList = p ++ (V ++ y :: s) → p.length + V.length = k → V.length = n → (bwd n k d).toList = p ++ y :: (V ++ s)
  | 0, d, p, V, y, s, k, h, hp, hV => by
    obtain rfl := List.length_eq_zero_iff.1 hV
    exact h
  | n + 1, d, p, V, y, s, k, h, hp, hV => by
    rcases nil_or_snoc V with rfl | ⟨W, v, rfl⟩
    · cases hV
    · have hW : W.length = n := by simpa using hV
      have hl : (W ++ [v]).length = n + 1 := hV
      have h1 := swp_list' (d := d) (p := p ++ W) (m := []) (s := s) (x := v) (y := y) (i := k - 1) (j := k) (by rw [h]; simp) (by rw [List.length_append]; omega) (by simp; omega)
      have h2 := bwd_list n (swp d k (k - 1)) p W y (v :: s) (k - 1) (by rw [h1]; simp) (by omega) hW
      show (bwd n (k - 1) (swp d k (k - 1))).toList = _
      rw [h2]
      simp
theorem merge_left {a b i : Nat} {d : Array α} (h1 : a + 1 ≤ i) (h2 : i ≤ b) (hlo : i = a + 1 ∨ key d[i - 1]! < key d[a]!) (hhi : i = b ∨ ¬ key d[i]! < key d[a]!) : MergeSaid key a (a + 1) b d (fwd (i - 1 - a) a d) := by
  refine ⟨fwd_size _ _ _, fun p U V s hd hp hU hV aU aV => ?_⟩
  obtain ⟨x, rfl⟩ : ∃ x, U = [x] := by
    have : U.length = 1 := by omega
    exact List.length_eq_one_iff.1 this
  have hx : d[a]! = x := at_mid (by rw [hd]; rfl) hp
  obtain ⟨V1, V2, rfl, hl⟩ : ∃ V1 V2, V = V1 ++ V2 ∧ V1.length = i - 1 - a := ⟨V.take (i - 1 - a), V.drop (i - 1 - a), (List.take_append_drop _ _).symm, by rw [List.length_take]; omega⟩
  obtain ⟨q1, q2, q3⟩ := List.pairwise_append.1 aV
  have hV1 : ∀ w ∈ V1, key w < key x := by
    rcases nil_or_snoc V1 with rfl | ⟨W, z, rfl⟩
    · intro w hw; cases hw
    · intro w hw
      have hz : d[i - 1]! = z := at_mid (p := p ++ x :: W) (s := V2 ++ s) (by rw [hd]; simp) (by simp at hl ⊢; omega)
      have := asc_last q1 w hw
      rw [hz, hx] at hlo
      have : i ≠ a + 1 := by simp at hl; omega
      omega
  have hV2 : ∀ w ∈ V2, key x ≤ key w := by
    cases V2 with
    | nil => intro w hw; cases hw
    | cons z W =>
      intro w hw
      have hz : d[i]! = z := at_mid (p := p ++ x :: V1) (s := W ++ s) (by rw [hd]; simp) (by simp; omega)
      have := asc_first q2 w hw
      rw [hz, hx] at hhi
      have : i ≠ b := by simp at hV; omega
      omega
  refine ⟨V1 ++ x :: V2, ?_, ?_, ?_⟩
  · rw [fwd_list (i - 1 - a) d p x V1 (V2 ++ s) a (by rw [hd]; simp) hp hl]
    simp
  · refine Asc.app q1 (List.pairwise_cons.2 ⟨hV2, q2⟩) ?_
    intro u hu w hw
    have := hV1 u hu
    rcases List.mem_cons.1 hw with rfl | hw
    · omega
    · have := hV2 w hw
      omega
  · have h := Flt.app (Flt.turn (key := key) (u := [x]) (v := V1) (fun w hw b hb => by
      have : b = x := by simpa using hb
      rw [this]; exact hV1 w hw)) (Flt.refl V2)
    simpa using h
theorem merge_right {a m i : Nat} {d : Array α} (h1 : a ≤ i) (h2 : i ≤ m) (hlo : i = a ∨ ¬ key d[m]! < key d[i - 1]!) (hhi : i = m ∨ key d[m]! < key d[i]!) : MergeSaid key a m (m + 1) d (bwd (m - i) m d) := by
  refine ⟨bwd_size _ _ _, fun p U V s hd hp hU hV aU aV => ?_⟩
  obtain ⟨y, rfl⟩ : ∃ y, V = [y] := by
    have : V.length = 1 := by omega
    exact List.length_eq_one_iff.1 this
  have hy : d[m]! = y := at_mid (p := p ++ U) (s := s) (by rw [hd]; simp) (by rw [List.length_append]; omega)
  obtain ⟨U1, U2, rfl, hl⟩ : ∃ U1 U2, U = U1 ++ U2 ∧ U1.length = i - a := ⟨U.take (i - a), U.drop (i - a), (List.take_append_drop _ _).symm, by rw [List.length_take]; omega⟩
  obtain ⟨q1, q2, q3⟩ := List.pairwise_append.1 aU
  have hU1 : ∀ w ∈ U1, key w ≤ key y := by
    rcases nil_or_snoc U1 with rfl | ⟨W, z, rfl⟩
    · intro w hw; cases hw
    · intro w hw
      have hz : d[i - 1]! = z := at_mid (p := p ++ W) (s := U2 ++ y :: s) (by rw [hd]; simp) (by simp at hl ⊢; omega)
      have := asc_last q1 w hw
      rw [hz, hy] at hlo
      have : i ≠ a := by simp at hl; omega
      omega
  have hU2 : ∀ w ∈ U2, key y < key w := by
    cases U2 with
    | nil => intro w hw; cases hw
    | cons z W =>
      intro w hw
      have hz : d[i]! = z := at_mid (p := p ++ U1) (s := W ++ y :: s) (by rw [hd]; simp) (by simp; omega)
      have := asc_first q2 w hw
      rw [hz, hy] at hhi
      have : i ≠ m := by simp at hU; omega
      omega
  refine ⟨U1 ++ y :: U2, ?_, ?_, ?_⟩
  · rw [bwd_list (m - i) d (p ++ U1) U2 y s m (by rw [hd]; simp) (by rw [List.length_append] at *; omega) (by rw [List.length_append] at hU; omega)]
    simp
  · refine Asc.app q1 (List.pairwise_cons.2 ⟨fun w hw => Int.le_of_lt (hU2 w hw), q2⟩) ?_
    intro u hu w hw
    have := hU1 u hu
    rcases List.mem_cons.1 hw with rfl | hw
    · omega
    · have := hU2 w hw
      omega
  · have h := Flt.app (Flt.refl U1) (Flt.turn (key := key) (u := U2) (v := [y]) (fun w hw b hb => by
      have : w = y := by simpa using hw
      rw [this]; exact hU2 b hb))
    simpa using h
theorem merge_mid {a m b mid st e : Nat} {d d1 d2 d3 : Array α} (h1 : a ≤ st) (h2 : st ≤ m) (h3 : m ≤ e) (h4 : e ≤ b) (hse : st + e = mid + m)
    (hBA : st < m → m < e → key d[e - 1]! < key d[st]!) (hAB : a < st → e < b → key d[st - 1]! ≤ key d[e]!)
    (hR : RotSaid st m e d d1) (hM1 : MergeSaid key a st mid d1 d2) (hM2 : MergeSaid key mid e b d2 d3) : MergeSaid key a m b d d3 := by
  refine ⟨(hM2.1.trans hM1.1).trans hR.1, fun p U V s hd hp hU hV aU aV => ?_⟩
  obtain ⟨A1, A2, rfl, hA⟩ : ∃ U1 U2, U = U1 ++ U2 ∧ U1.length = st - a := ⟨U.take (st - a), U.drop (st - a), (List.take_append_drop _ _).symm, by rw [List.length_take]; omega⟩
  obtain ⟨B1, B2, rfl, hB⟩ : ∃ V1 V2, V = V1 ++ V2 ∧ V1.length = e - m := ⟨V.take (e - m), V.drop (e - m), (List.take_append_drop _ _).symm, by rw [List.length_take]; omega⟩
  rw [List.length_append] at hU hV
  obtain ⟨a1, a2, a3⟩ := List.pairwise_append.1 aU
  obtain ⟨b1, b2, b3⟩ := List.pairwise_append.1 aV
  have hd1 := hR.2 (p ++ A1) A2 B1 (B2 ++ s) (by rw [hd]; simp) (by rw [List.length_append]; omega) (by omega) (by omega)
  have hBA' : ∀ x ∈ B1, ∀ y ∈ A2, key x < key y := by
    intro x hx y hy
    rcases nil_or_snoc B1 with rfl | ⟨W, z, rfl⟩
    · cases hx
    · cases A2 with
      | nil => cases hy
      | cons u Z =>
        have l1 : d[e - 1]! = z := at_mid (p := p ++ (A1 ++ (u :: Z ++ W))) (s := B2 ++ s) (by rw [hd]; simp) (by simp at *; omega)
        have l2 : d[st]! = u := at_mid (p := p ++ A1) (s := Z ++ (W ++ [z] ++ B2 ++ s)) (by rw [hd]; simp) (by simp; omega)
        have := hBA (by simp at hU; omega) (by simp at hB; omega)
        rw [l1, l2] at this
        have e1 := asc_last b1 x hx
        have e2 := asc_first a2 y hy
        omega
  have hAB' : ∀ x ∈ A1, ∀ y ∈ B2, key x ≤ key y := by
    intro x hx y hy
    rcases nil_or_snoc A1 with rfl | ⟨W, z, rfl⟩
    · cases hx
    · cases B2 with
      | nil => cases hy
      | cons u Z =>
        have l1 : d[st - 1]! = z := at_mid (p := p ++ W) (s := A2 ++ (B1 ++ u :: Z ++ s)) (by rw [hd]; simp) (by simp at *; omega)
        have l2 : d[e]! = u := at_mid (p := p ++ (W ++ [z] ++ A2 ++ B1)) (s := Z ++ s) (by rw [hd]; simp) (by simp at *; omega)
        have := hAB (by simp at hA; omega) (by simp at hV; omega)
        rw [l1, l2] at this
        have e1 := asc_last a1 x hx
        have e2 := asc_first b2 y hy
        omega
  obtain ⟨X1, hX1, c1, f1⟩ := hM1.2 p A1 B1 (A2 ++ (B2 ++ s)) (by rw [hd1]; simp) hp (by omega) (by omega) a1 b1
  have hlX : X1.length = A1.length + B1.length := by
    have e1 : d1.toList.length = d1.size := Array.length_toList
    have e2 : d2.toList.length = d2.size := Array.length_toList
    rw [hd1] at e1
    rw [hX1] at e2
    have := hM1.1
    simp only [List.length_append] at e1 e2
    omega
  obtain ⟨X2, hX2, c2, f2⟩ := hM2.2 (p ++ X1) A2 B2 s (by rw [hX1]; simp) (by rw [List.length_append]; omega) (by omega) (by omega) a2 b2
  refine ⟨X1 ++ X2, by rw [hX2]; simp, ?_, ?_⟩
  · refine Asc.app c1 c2 ?_
    intro x hx y hy
    rcases List.mem_append.1 ((f1.mem x).1 hx) with hx | hx <;> rcases List.mem_append.1 ((f2.mem y).1 hy) with hy | hy
    · exact a3 x hx y hy
    · exact hAB' x hx y hy
    · exact Int.le_of_lt (hBA' x hx y hy)
    · exact b3 x hx y hy
  · have h := Flt.app (Flt.refl (key := key) A1) (Flt.app (Flt.turn (key := key) (u := A2) (v := B1) hBA') (Flt.refl B2))
    have h2 := Flt.app f1 f2
    refine Flt.trans ?_ h2
    simpa using h

/-! ### insertion -/
theorem swp_flt {d : Array α} {j : Nat} (h : j + 1 < d.size) (hl : key d[j + 1]! < key d[j]!) : Flt key d.toList (swp d (j + 1) j).toList := by
  obtain ⟨p, U, V, s, hd, hp, hU, hV⟩ := seg_exists d j (j + 1) (j + 2) (by omega) (by omega) (by omega)
  obtain ⟨x, rfl⟩ : ∃ x, U = [x] := List.length_eq_one_iff.1 (by omega)
  obtain ⟨y, rfl⟩ : ∃ y, V = [y] := List.length_eq_one_iff.1 (by omega)
  have hx : d[j]! = x := at_mid (p := p) (s := y :: s) (by rw [hd]; simp) hp
  have hy : d[j + 1]! = y := at_mid (p := p ++ [x]) (s := s) (by rw [hd]; simp) (by simp; omega)
  rw [hx, hy] at hl
  rw [swp_list' (d := d) (p := p) (m := []) (s := s) (x := x) (y := y) (i := j) (j := j + 1) (by rw [hd]; simp) hp (by simp; omega), hd]
  have h := Flt.app (Flt.refl (key := key) p) (Flt.app (Flt.turn (key := key) (u := [x]) (v := [y]) (fun a ha b hb => by
    have e1 : a = y := by simpa using ha
    have e2 : b = x := by simpa using hb
    rw [e1, e2]; exact hl)) (Flt.refl s))
  simpa using h
theorem insInner_flt {lt : α → α → Bool} (hlt : ∀ x y, lt x y = true → key x < key y) (a : Nat) : ∀ (j : Nat) (d : Array α), j < d.size → Flt key d.toList (insInner lt a j d).toList ∧ (insInner lt a j d).size = d.size
  | 0, d, _ => ⟨Flt.refl _, rfl⟩
  | j + 1, d, h => by
    unfold insInner
    split
    · rename_i hc
      rw [Bool.and_eq_true] at hc
      have h1 := swp_flt (key := key) h (hlt _ _ hc.2)
      have h2 := insInner_flt hlt a j (swp d (j + 1) j) (by rw [size_swp]; omega)
      exact ⟨h1.trans h2.1, h2.2.trans (size_swp _ _ _)⟩
    · exact ⟨Flt.refl _, rfl⟩
theorem insOuter_flt {lt : α → α → Bool} (hlt : ∀ x y, lt x y = true → key x < key y) (a b : Nat) : ∀ (n i : Nat) (d : Array α), b - i = n → b ≤ d.size → Flt key d.toList (insOuter lt a b i d).toList ∧ (insOuter lt a b i d).size = d.size
  | 0, i, d, hn, hb => by
    unfold insOuter
    rw [if_neg (by omega)]
    exact ⟨Flt.refl _, rfl⟩
  | n + 1, i, d, hn, hb => by
    unfold insOuter
    rw [if_pos (by omega)]
    have h1 := insInner_flt (key := key) hlt a i d (by omega)
    have h2 := insOuter_flt hlt a b n (i + 1) (insInner lt a i d) (by omega) (by rw [h1.2]; exact hb)
    exact ⟨h1.1.trans h2.1, h2.2.trans h1.2⟩
theorem insertion_flt {lt : α → α → Bool} (hlt : ∀ x y, lt x y = true → key x < key y) (a b : Nat) (d : Array α) (hb : b ≤ d.size) : Flt key d.toList (insertionSort lt d a b).toList ∧ (insertionSort lt d a b).size = d.size := insOuter_flt hlt a b _ (a + 1) d rfl hb

/-! ### blocks -/
/-- Within blocks of so many places, from lo to hi, the keys rise. -/
def InBlk (key : α → Int) (bs : Nat) (d : Array α) (lo hi : Nat) : Prop := ∀ i j, lo ≤ i → i < j → j < hi → i / bs = j / bs → key d[i]! ≤ key d[j]!
theorem blk_none (bs : Nat) (d : Array α) (lo : Nat) : InBlk key bs d lo lo := fun i j h1 h2 h3 _ => by omega
theorem blk_ins {lt : α → α → Bool} (hO : SWO lt) (hlt : ∀ x y, lt x y = true ↔ key x < key y) {d : Array α} {bs q a b : Nat} (hbs : 0 < bs) (ha : a = bs * q) (h1 : a ≤ b) (h2 : b ≤ a + bs) (h3 : b ≤ d.size) (h : InBlk key bs d 0 a) :
    InBlk key bs (insertionSort lt d a b) 0 b := by
  obtain ⟨hp, hs⟩ := insertionSort_holds hO d a b h1 h3
  intro i j _ hij hj he
  by_cases hja : j < a
  · rw [hp.2.1 i (.inl (by omega)), hp.2.1 j (.inl hja)]
    exact h i j (Nat.zero_le _) hij hja he
  · by_cases hia : i < a
    · have e1 : i / bs < q := by rw [Nat.div_lt_iff_lt_mul hbs, Nat.mul_comm, ← ha]; exact hia
      have e2 : q ≤ j / bs := by rw [Nat.le_div_iff_mul_le hbs, Nat.mul_comm, ← ha]; omega
      omega
    · have := hs i j (by omega) hij hj
      have h4 : ¬ key (insertionSort lt d a b)[j]! < key (insertionSort lt d a b)[i]! := fun hc => by
        rw [(hlt _ _).2 hc] at this
        cases this
      omega
theorem blk_all {bs n : Nat} {d : Array α} (hn : n ≤ bs) (hs : d.size ≤ n) (h : InBlk key bs d 0 n) : Asc key d.toList := by
  unfold Asc
  rw [List.pairwise_iff_getElem]
  intro i j hi hj hij
  have hl : d.toList.length = d.size := Array.length_toList
  have := h i j (Nat.zero_le _) hij (by omega) (by rw [Nat.div_eq_of_lt (by omega), Nat.div_eq_of_lt (by omega)])
  rw [get_list, get_list, List.getElem?_eq_getElem hi, List.getElem?_eq_getElem hj] at this
  exact this
theorem asc_seg {bs : Nat} {d : Array α} {p U s : List α} {lo hi a b k : Nat} (hd : d.toList = p ++ (U ++ s)) (hp : p.length = a) (hU : a + U.length = b) (hlo : lo ≤ a) (hhi : b ≤ hi) (hk : ∀ i, a ≤ i → i < b → i / bs = k) (h : InBlk key bs d lo hi) : Asc key U := by
  unfold Asc
  rw [List.pairwise_iff_getElem]
  intro i j hi' hj' hij
  have := h (a + i) (a + j) (by omega) (by omega) (by omega) (by rw [hk (a + i) (by omega) (by omega), hk (a + j) (by omega) (by omega)])
  have g : ∀ x (hx : x < U.length), d[a + x]! = U[x] := fun x hx => by
    rw [get_list, hd, List.getElem?_append_right (by omega), show a + x - p.length = x by omega, List.getElem?_append_left hx, List.getElem?_eq_getElem hx]
    rfl
  rw [g i hi', g j hj'] at this
  exact this
theorem blk_merge {bs q a m b n : Nat} {d d' : Array α} (hbs : 0 < bs) (ha : a = 2 * bs * q) (hm : m = a + bs) (h1 : m ≤ b) (h2 : b ≤ a + 2 * bs) (h3 : b ≤ n) (hn : n = d.size)
    (hA : InBlk key (2 * bs) d 0 a) (hB : InBlk key bs d a n) (hM : MergeSaid key a m b d d') : InBlk key (2 * bs) d' 0 b ∧ InBlk key bs d' b n ∧ Flt key d.toList d'.toList := by
  obtain ⟨p, U, V, s, hd, hp, hU, hV⟩ := seg_exists d a m b (by omega) h1 (by omega)
  have aU : Asc key U := asc_seg (bs := bs) (lo := a) (hi := n) (k := 2 * q) (s := V ++ s) hd hp hU (Nat.le_refl _) (by omega) (fun i hi1 hi2 => by
    have e : a = bs * (2 * q) := by rw [ha, Nat.mul_comm 2 bs, Nat.mul_assoc]
    refine Nat.div_eq_of_lt_le ?_ ?_
    · rw [Nat.mul_comm]; omega
    · rw [Nat.add_mul, Nat.mul_comm (2 * q)]; omega) hB
  have aV : Asc key V := asc_seg (bs := bs) (lo := a) (hi := n) (k := 2 * q + 1) (p := p ++ U) (s := s) (by rw [hd]; simp) (by rw [List.length_append]; omega) hV (by omega) (by omega) (fun i hi1 hi2 => by
    have e : a = bs * (2 * q) := by rw [ha, Nat.mul_comm 2 bs, Nat.mul_assoc]
    refine Nat.div_eq_of_lt_le ?_ ?_
    · rw [Nat.mul_comm, Nat.mul_add]; omega
    · rw [Nat.add_mul, Nat.add_mul, Nat.mul_comm (2 * q)]; omega) hB
  obtain ⟨X, hX, c, f⟩ := hM.2 p U V s hd hp hU hV aU aV
  have hlX : X.length = U.length + V.length := by
    have e1 : d.toList.length = d.size := Array.length_toList
    have e2 : d'.toList.length = d'.size := Array.length_toList
    rw [hd] at e1
    rw [hX] at e2
    have := hM.1
    simp only [List.length_append] at e1 e2
    omega
  have gl : ∀ i, i < a → d'[i]! = d[i]! := fun i hi => by
    rw [get_list, get_list, hX, hd, List.getElem?_append_left (by omega), List.getElem?_append_left (by omega)]
  have gr : ∀ i, b ≤ i → d'[i]! = d[i]! := fun i hi => by
    rw [get_list, get_list, hX, hd, List.getElem?_append_right (by omega), List.getElem?_append_right (by omega), List.getElem?_append_right (by omega), List.getElem?_append_right (by omega), List.getElem?_append_right (by omega)]
    congr 2
    omega
  refine ⟨?_, ?_, ?_⟩
  · intro i j _ hij hj he
    by_cases hja : j < a
    · rw [gl i (by omega), gl j hja]
      exact hA i j (Nat.zero_le _) hij hja he
    · by_cases hia : i < a
      · have e1 : i / (2 * bs) < q := by rw [Nat.div_lt_iff_lt_mul (by omega), Nat.mul_comm, ← ha]; exact hia
        have e2 : q ≤ j / (2 * bs) := by rw [Nat.le_div_iff_mul_le (by omega), Nat.mul_comm, ← ha]; omega
        omega
      · have g : ∀ x, a ≤ x → x < b → ∃ hx : x - a < X.length, d'[x]! = X[x - a] := fun x h1 h2 => by
          refine ⟨by omega, ?_⟩
          rw [get_list, hX, List.getElem?_append_right (by omega), hp, List.getElem?_append_left (by omega), List.getElem?_eq_getElem (by omega)]
          rfl
        obtain ⟨hxi, ei⟩ := g i (by omega) (by omega)
        obtain ⟨hxj, ej⟩ := g j (by omega) hj
        rw [ei, ej]
        exact (List.pairwise_iff_getElem.1 c) (i - a) (j - a) hxi hxj (by omega)
  · intro i j hi hij hj he
    rw [gr i hi, gr j (by omega)]
    exact hB i j (by omega) hij hj he
  · rw [hX, hd]
    have h := Flt.app (Flt.refl (key := key) p) (Flt.app f (Flt.refl s))
    simpa using h
theorem blk_tail {bs q a n : Nat} {d : Array α} (hbs : 0 < bs) (ha : a = 2 * bs * q) (h1 : n ≤ a + bs) (hA : InBlk key (2 * bs) d 0 a) (hB : InBlk key bs d a n) : InBlk key (2 * bs) d 0 n := by
  intro i j _ hij hj he
  by_cases hja : j < a
  · exact hA i j (Nat.zero_le _) hij hja he
  · by_cases hia : i < a
    · have e1 : i / (2 * bs) < q := by rw [Nat.div_lt_iff_lt_mul (by omega), Nat.mul_comm, ← ha]; exact hia
      have e2 : q ≤ j / (2 * bs) := by rw [Nat.le_div_iff_mul_le (by omega), Nat.mul_comm, ← ha]; omega
      omega
    · refine hB i j (by omega) hij hj ?_
      have e : a = bs * (2 * q) := by rw [ha, Nat.mul_comm 2 bs, Nat.mul_assoc]
      have g : ∀ x, a ≤ x → x < n → x / bs = 2 * q := fun x hx1 hx2 => by
        refine Nat.div_eq_of_lt_le ?_ ?_
        · rw [Nat.mul_comm]; omega
        · rw [Nat.add_mul, Nat.mul_comm (2 * q)]; omega
      rw [g i (by omega) (by omega), g j (by omega) hj]
end
end Stb
end Go.Proofs.YthoegenipbohmaaGreatDoor

namespace Go.Proofs.YthoegenipbohmaaGreatDoor
open Stb
set_option linter.unusedVariables false
set_option linter.unusedSimpArgs false
namespace Nrm
section
variable {α : Type} {cl : α → Int}

/-- The last ones of greater classes. -/
def over (cl : α → Int) (c : Int) (l : List α) : List α := (l.reverse.takeWhile fun x => decide (c < cl x)).reverse
def under (cl : α → Int) (c : Int) (l : List α) : List α := (l.reverse.dropWhile fun x => decide (c < cl x)).reverse
def ins (cl : α → Int) (l : List α) (y : α) : List α := if 0 < cl y then under cl (cl y) l ++ y :: over cl (cl y) l else l ++ [y]
def ord (cl : α → Int) (l : List α) : List α := l.foldl (ins cl) []
theorem under_over (c : Int) (l : List α) : under cl c l ++ over cl c l = l := by
  unfold under over
  rw [← List.reverse_append, List.takeWhile_append_dropWhile, List.reverse_reverse]
theorem over_gt (c : Int) (l : List α) : ∀ x ∈ over cl c l, c < cl x := by
  intro x hx
  unfold over at hx
  rw [List.mem_reverse] at hx
  have := List.all_eq_true.1 (List.all_takeWhile (p := fun x => decide (c < cl x)) (l := l.reverse)) x hx
  simpa using this
theorem under_last (c : Int) (l : List α) {W : List α} {z : α} (h : under cl c l = W ++ [z]) : cl z ≤ c := by
  unfold under at h
  have h2 : l.reverse.dropWhile (fun x => decide (c < cl x)) = z :: W.reverse := by
    have := congrArg List.reverse h
    simpa using this
  have h3 := List.head?_dropWhile_not (fun x => decide (c < cl x)) l.reverse
  rw [h2] at h3
  simp at h3
  omega
theorem over_snoc_gt {c : Int} {l : List α} {z : α} (h : c < cl z) : over cl c (l ++ [z]) = over cl c l ++ [z] ∧ under cl c (l ++ [z]) = under cl c l := by
  unfold over under
  rw [List.reverse_append, List.reverse_singleton, List.singleton_append, List.takeWhile_cons, List.dropWhile_cons, if_pos (by simpa using h), if_pos (by simpa using h)]
  simp
theorem over_snoc_le {c : Int} {l : List α} {z : α} (h : cl z ≤ c) : over cl c (l ++ [z]) = [] ∧ under cl c (l ++ [z]) = l ++ [z] := by
  unfold over under
  rw [List.reverse_append, List.reverse_singleton, List.singleton_append, List.takeWhile_cons, List.dropWhile_cons, if_neg (by simp; omega), if_neg (by simp; omega)]
  simp
theorem over_nil (c : Int) : over cl c [] = [] ∧ under cl c [] = [] := ⟨rfl, rfl⟩
/-- Ahead of A, if A ends at a class of 0, nothing goes. -/
def Base (cl : α → Int) (A : List α) : Prop := A = [] ∨ ∃ W z, A = W ++ [z] ∧ cl z ≤ 0
theorem over_base {A : List α} (hA : Base cl A) {c : Int} (hc : 0 < c) : ∀ S : List α, over cl c (A ++ S) = over cl c S ∧ under cl c (A ++ S) = A ++ under cl c S := by
  intro S
  generalize hn : S.length = n
  induction n generalizing S with
  | zero =>
    obtain rfl := List.length_eq_zero_iff.1 hn
    rw [List.append_nil]
    rcases hA with rfl | ⟨W, z, rfl, hz⟩
    · exact ⟨rfl, rfl⟩
    · obtain ⟨e1, e2⟩ := over_snoc_le (cl := cl) (l := W) (show cl z ≤ c by omega)
      rw [e1, e2]
      exact ⟨rfl, by simp [over_nil]⟩
  | succ n ih =>
    rcases nil_or_snoc S with rfl | ⟨W, z, rfl⟩
    · cases hn
    · have hW : W.length = n := by simpa using hn
      rw [← List.append_assoc]
      by_cases hz : c < cl z
      · obtain ⟨e1, e2⟩ := over_snoc_gt (cl := cl) (l := A ++ W) hz
        obtain ⟨f1, f2⟩ := over_snoc_gt (cl := cl) (l := W) hz
        obtain ⟨i1, i2⟩ := ih W hW
        rw [e1, e2, f1, f2, i1, i2]
        exact ⟨rfl, rfl⟩
      · obtain ⟨e1, e2⟩ := over_snoc_le (cl := cl) (l := A ++ W) (show cl z ≤ c by omega)
        obtain ⟨f1, f2⟩ := over_snoc_le (cl := cl) (l := W) (show cl z ≤ c by omega)
        rw [e1, e2, f1, f2]
        exact ⟨rfl, by simp⟩
theorem ins_base {A : List α} (hA : Base cl A) (S : List α) {y : α} (hy : 0 < cl y) : ins cl (A ++ S) y = A ++ ins cl S y := by
  unfold ins
  rw [if_pos hy, if_pos hy]
  obtain ⟨e1, e2⟩ := over_base hA hy S
  rw [e1, e2]
  simp
theorem fold_base {A : List α} (hA : Base cl A) : ∀ (R S : List α), (∀ y ∈ R, 0 < cl y) → R.foldl (ins cl) (A ++ S) = A ++ R.foldl (ins cl) S
  | [], S, _ => rfl
  | y :: R, S, h => by
    rw [List.foldl_cons, List.foldl_cons, ins_base hA S (h y List.mem_cons_self)]
    exact fold_base hA R _ fun z hz => h z (List.mem_cons_of_mem _ hz)
/-- Among classes above 0: the stable order. -/
theorem fold_stable : ∀ (R S x : List α), (∀ y ∈ R, 0 < cl y) → Stable cl x S → Stable cl (x ++ R) (R.foldl (ins cl) S)
  | [], S, x, _, h => by rw [List.append_nil]; exact h
  | y :: R, S, x, hR, h => by
    have hy := hR y List.mem_cons_self
    rw [List.foldl_cons, show x ++ y :: R = (x ++ [y]) ++ R by simp]
    refine fold_stable R _ (x ++ [y]) (fun z hz => hR z (List.mem_cons_of_mem _ hz)) ?_
    unfold ins
    rw [if_pos hy]
    have hS := under_over (cl := cl) (cl y) S
    obtain ⟨hA, hF⟩ := h
    rw [← hS] at hA hF
    obtain ⟨a1, a2, a3⟩ := List.pairwise_append.1 hA
    have ho := over_gt (cl := cl) (cl y) S
    have hu : ∀ u ∈ under cl (cl y) S, cl u ≤ cl y := by
      intro u hu
      rcases nil_or_snoc (under cl (cl y) S) with e | ⟨W, z, e⟩
      · rw [e] at hu; cases hu
      · have h1 := under_last (cl y) S e
        rw [e] at a1 hu
        have := asc_last (key := cl) a1 u hu
        omega
    refine ⟨Asc.app a1 (List.pairwise_cons.2 ⟨fun w hw => Int.le_of_lt (ho w hw), a2⟩) ?_, ?_⟩
    · intro u hu' w hw
      rcases List.mem_cons.1 hw with rfl | hw
      · exact hu u hu'
      · exact a3 u hu' w hw
    · have h1 := Flt.app hF (Flt.refl (key := cl) [y])
      have h2 := Flt.app (Flt.refl (key := cl) (under cl (cl y) S)) (Flt.turn (key := cl) (u := over cl (cl y) S) (v := [y]) (fun a ha b hb => by
        have : a = y := by simpa using ha
        rw [this]; exact ho b hb))
      refine Flt.trans h1 ?_
      simpa using h2
theorem ord_snoc (l : List α) (y : α) : ord cl (l ++ [y]) = ins cl (ord cl l) y := by unfold ord; rw [List.foldl_append]; rfl
theorem ord_zero (l : List α) {y : α} (hy : cl y ≤ 0) : ord cl (l ++ [y]) = ord cl l ++ [y] := by
  rw [ord_snoc]
  unfold ins
  rw [if_neg (by omega)]
theorem ord_base_of {l : List α} (h : Base cl l) : Base cl (ord cl l) := by
  rcases h with rfl | ⟨W, z, rfl, hz⟩
  · exact .inl rfl
  · exact .inr ⟨_, z, ord_zero W hz, hz⟩
/-- A run of classes above 0, behind one of 0: it is sorted, stably. -/
theorem ord_run {l R X : List α} (hl : Base cl l) (hR : ∀ y ∈ R, 0 < cl y) (hX : Stable cl R X) : ord cl (l ++ R) = ord cl l ++ X := by
  unfold ord
  rw [List.foldl_append]
  have h1 := fold_base (ord_base_of hl) R [] hR
  rw [List.append_nil] at h1
  have h2 := fold_stable (cl := cl) R [] [] hR ⟨List.Pairwise.nil, Flt.refl _⟩
  rw [List.nil_append] at h2
  show R.foldl (ins cl) (ord cl l) = _
  rw [h1, stable_unique h2 hX]
  rfl
theorem ins_perm (l : List α) (y : α) : (ins cl l y).Perm (l ++ [y]) := by
  unfold ins
  split
  · have h := under_over (cl := cl) (cl y) l
    have h1 : (under cl (cl y) l ++ y :: over cl (cl y) l).Perm (under cl (cl y) l ++ (over cl (cl y) l ++ [y])) := List.Perm.append_left _ (List.perm_append_singleton _ _).symm
    rw [← List.append_assoc, h] at h1
    exact h1
  · exact List.Perm.refl _
theorem fold_perm : ∀ (R S : List α), (R.foldl (ins cl) S).Perm (S ++ R)
  | [], S => by rw [List.append_nil]; exact List.Perm.refl _
  | y :: R, S => by
    rw [List.foldl_cons]
    refine (fold_perm R _).trans ?_
    rw [show S ++ y :: R = (S ++ [y]) ++ R by simp]
    exact List.Perm.append_right _ (ins_perm S y)
theorem ord_perm (l : List α) : (ord cl l).Perm l := by
  have := fold_perm (cl := cl) l []
  rwa [List.nil_append] at this
/-- No class above 0 stands behind a greater one. -/
def Fine (cl : α → Int) : List α → Prop
  | [] => True
  | [_] => True
  | x :: y :: l => ¬ (0 < cl y ∧ cl y < cl x) ∧ Fine cl (y :: l)
theorem fine_app : ∀ (l m : List α), Fine cl l → Fine cl m → (∀ W z u Z, l = W ++ [z] → m = u :: Z → ¬ (0 < cl u ∧ cl u < cl z)) → Fine cl (l ++ m)
  | [], m, _, hm, _ => hm
  | [x], [], _, _, _ => trivial
  | [x], u :: Z, _, hm, h => ⟨h [] x u Z rfl rfl, hm⟩
  | x :: y :: l, m, hl, hm, h => ⟨hl.1, fine_app (y :: l) m hl.2 hm fun W z u Z e1 e2 => h (x :: W) z u Z (by rw [e1]; rfl) e2⟩
theorem fine_left : ∀ (l m : List α), Fine cl (l ++ m) → Fine cl l
  | [], _, _ => trivial
  | [_], _, _ => trivial
  | x :: y :: l, m, h => ⟨h.1, fine_left (y :: l) m h.2⟩
theorem fine_right : ∀ (l m : List α), Fine cl (l ++ m) → Fine cl m
  | [], _, h => h
  | [x], [], _ => trivial
  | [x], u :: Z, h => h.2
  | x :: y :: l, m, h => fine_right (y :: l) m h.2
theorem fine_mid : ∀ (l : List α) (z u : α) (m : List α), Fine cl (l ++ z :: u :: m) → ¬ (0 < cl u ∧ cl u < cl z)
  | [], z, u, m, h => h.1
  | [x], z, u, m, h => h.2.1
  | x :: y :: l, z, u, m, h => fine_mid (y :: l) z u m h.2
theorem ins_fine {l : List α} (h : Fine cl l) (y : α) : Fine cl (ins cl l y) := by
  unfold ins
  split
  · rename_i hy
    have hs := under_over (cl := cl) (cl y) l
    rw [← hs] at h
    have ho := over_gt (cl := cl) (cl y) l
    refine fine_app _ _ (fine_left _ _ h) ?_ ?_
    · have h2 := fine_right _ _ h
      generalize over cl (cl y) l = O at *
      cases O with
      | nil => trivial
      | cons u Z => exact ⟨fun hc => by have := ho u List.mem_cons_self; omega, h2⟩
    · intro W z u Z e1 e2
      injection e2 with e2 _
      subst e2
      have := under_last _ _ e1
      omega
  · rename_i hy
    refine fine_app _ _ h trivial ?_
    intro W z u Z e1 e2
    injection e2 with e2 _
    subst e2
    omega
theorem fold_fine : ∀ (R S : List α), Fine cl S → Fine cl (R.foldl (ins cl) S)
  | [], S, h => h
  | y :: R, S, h => fold_fine R _ (ins_fine h y)
theorem ord_fine (l : List α) : Fine cl (ord cl l) := fold_fine l [] trivial
/-- What stands in order stays. -/
theorem ins_stay {l : List α} {y : α} (h : Fine cl (l ++ [y])) : ins cl l y = l ++ [y] := by
  unfold ins
  split
  · rename_i hy
    rcases nil_or_snoc l with rfl | ⟨W, z, rfl⟩
    · rfl
    · have hn : ¬ (0 < cl y ∧ cl y < cl z) := fine_mid W z y [] (by simpa using h)
      obtain ⟨e1, e2⟩ := over_snoc_le (cl := cl) (l := W) (show cl z ≤ cl y by omega)
      rw [e1, e2]
  · rfl
theorem fold_stay : ∀ (R S : List α), Fine cl (S ++ R) → R.foldl (ins cl) S = S ++ R
  | [], S, _ => by rw [List.append_nil]; rfl
  | y :: R, S, h => by
    have h' : Fine cl ((S ++ [y]) ++ R) := by simpa using h
    rw [List.foldl_cons, ins_stay (fine_left _ _ h'), fold_stay R _ h']
    simp
theorem ord_stay {l : List α} (h : Fine cl l) : ord cl l = l := by
  have := fold_stay (cl := cl) l [] h
  rwa [List.nil_append] at this
theorem ord_twice (l : List α) : ord cl (ord cl l) = ord cl l := ord_stay (ord_fine l)
/-- The lesser one goes first, or last: the same. -/
theorem ins_swap (l : List α) {x y : α} (h0 : 0 < cl y) (h : cl y < cl x) : ins cl (ins cl l x) y = ins cl (ins cl l y) x := by
  have hx : 0 < cl x := by omega
  generalize hn : l.length = n
  induction n generalizing l with
  | zero =>
    obtain rfl := List.length_eq_zero_iff.1 hn
    unfold ins
    simp only [if_pos h0, if_pos hx, over_nil]
    obtain ⟨e1, e2⟩ := over_snoc_gt (cl := cl) (l := []) h
    obtain ⟨f1, f2⟩ := over_snoc_le (cl := cl) (l := []) (show cl y ≤ cl x by omega)
    simp only [List.nil_append] at e1 e2 f1 f2 ⊢
    rw [e1, e2, f1, f2]
    simp [over_nil]
  | succ n ih =>
    rcases nil_or_snoc l with rfl | ⟨W, z, rfl⟩
    · cases hn
    · have hW : W.length = n := by simpa using hn
      have snoc : ∀ (u : α) (V : List α), 0 < cl u → cl u < cl z → ins cl (V ++ [z]) u = ins cl V u ++ [z] := fun u V hu hz => by
        unfold ins
        rw [if_pos hu, if_pos hu]
        obtain ⟨e1, e2⟩ := over_snoc_gt (cl := cl) (l := V) hz
        rw [e1, e2]
        simp
      have stay : ∀ (u : α) (V : List α), 0 < cl u → cl z ≤ cl u → ins cl (V ++ [z]) u = V ++ [z] ++ [u] := fun u V hu hz => by
        unfold ins
        rw [if_pos hu]
        obtain ⟨e1, e2⟩ := over_snoc_le (cl := cl) (l := V) hz
        rw [e1, e2]
      by_cases h1 : cl x < cl z
      · rw [snoc x W hx h1, snoc y _ h0 (by omega), snoc y W h0 (by omega), snoc x _ hx h1, ih W hW]
      · rw [stay x W hx (by omega)]
        have e : ins cl (W ++ [z] ++ [x]) y = ins cl (W ++ [z]) y ++ [x] := by
          unfold ins
          rw [if_pos h0, if_pos h0]
          obtain ⟨e1, e2⟩ := over_snoc_gt (cl := cl) (l := W ++ [z]) h
          rw [e1, e2]
          simp
        rw [e]
        -- x goes behind all
        have hl : ∀ V : List α, (∀ T u, V = T ++ [u] → cl u ≤ cl x) → ins cl V x = V ++ [x] := fun V hV => by
          rcases nil_or_snoc V with rfl | ⟨T, u, rfl⟩
          · unfold ins
            rw [if_pos hx]
            rfl
          · unfold ins
            rw [if_pos hx]
            obtain ⟨e1, e2⟩ := over_snoc_le (cl := cl) (l := T) (hV T u rfl)
            rw [e1, e2]
        rw [hl]
        intro T u hu
        by_cases h2 : cl y < cl z
        · rw [snoc y W h0 h2] at hu
          have := (List.append_inj' hu rfl).2
          injection this with this _
          rw [← this]
          omega
        · rw [stay y W h0 (by omega)] at hu
          have := (List.append_inj' hu rfl).2
          injection this with this _
          rw [← this]
          omega
theorem fold_over : ∀ (O : List α) (S : List α) (y : α), 0 < cl y → (∀ x ∈ O, cl y < cl x) → ins cl (O.foldl (ins cl) S) y = O.foldl (ins cl) (ins cl S y)
  | [], S, y, _, _ => rfl
  | x :: O, S, y, hy, h => by
    rw [List.foldl_cons, List.foldl_cons, fold_over O _ y hy fun z hz => h z (List.mem_cons_of_mem _ hz), ins_swap S hy (h x List.mem_cons_self)]
/-- One behind the other: it is no matter whether the second was put in order before. -/
theorem fold_ord (S : List α) : ∀ R : List α, (ord cl R).foldl (ins cl) S = R.foldl (ins cl) S := by
  intro R
  generalize hn : R.length = n
  induction n generalizing R with
  | zero =>
    obtain rfl := List.length_eq_zero_iff.1 hn
    rfl
  | succ n ih =>
    rcases nil_or_snoc R with rfl | ⟨W, y, rfl⟩
    · cases hn
    · have hW : W.length = n := by simpa using hn
      have i := ih W hW
      rw [ord_snoc, List.foldl_append]
      show _ = ins cl (W.foldl (ins cl) S) y
      rw [← i]
      have hs := under_over (cl := cl) (cl y) (ord cl W)
      by_cases hy : 0 < cl y
      · have e : ins cl (ord cl W) y = under cl (cl y) (ord cl W) ++ y :: over cl (cl y) (ord cl W) := by unfold ins; rw [if_pos hy]
        rw [e, List.foldl_append, List.foldl_cons]
        conv => rhs; rw [← hs]
        rw [List.foldl_append, fold_over _ _ y hy (over_gt (cl y) _)]
      · have e : ins cl (ord cl W) y = ord cl W ++ [y] := by unfold ins; rw [if_neg hy]
        rw [e, List.foldl_append]
        rfl
theorem ord_joins (a b : List α) : ord cl (ord cl a ++ ord cl b) = ord cl (a ++ b) := by
  have h : ∀ l m : List α, ord cl (l ++ m) = m.foldl (ins cl) (ord cl l) := fun l m => by unfold ord; rw [List.foldl_append]
  rw [h, h, ord_twice, fold_ord]
theorem ins_map {β : Type} {cl' : β → Int} (f : α → β) (hf : ∀ x, cl' (f x) = cl x) (l : List α) (y : α) : ins cl' (l.map f) (f y) = (ins cl l y).map f := by
  unfold ins under over
  rw [hf]
  have h1 : ∀ c : Int, (fun x => decide (c < cl' x)) ∘ f = fun x => decide (c < cl x) := fun c => by funext x; simp [hf]
  split
  · simp only [← List.map_reverse, List.takeWhile_map, List.dropWhile_map, h1, List.map_append, List.map_cons]
  · simp
theorem ord_map {β : Type} {cl' : β → Int} (f : α → β) (hf : ∀ x, cl' (f x) = cl x) (l : List α) : ord cl' (l.map f) = (ord cl l).map f := by
  have h : ∀ (R S : List α), (R.map f).foldl (ins cl') (S.map f) = (R.foldl (ins cl) S).map f := by
    intro R
    induction R with
    | nil => intro S; rfl
    | cons y R ih => intro S; rw [List.map_cons, List.foldl_cons, List.foldl_cons, ins_map f hf, ih]
  exact h l []
end
end Nrm
end Go.Proofs.YthoegenipbohmaaGreatDoor
