/- A subject's laws, in plain Lean: the least and greatest byte of items, the first place behind a byte. No code is walked here. -/
import Derived.Test.YthoegenipbohmaaGreatDoorUtfP
import Derived.Test.YthoegenipbohmaaGreatDoorNormM
namespace Go.Proofs.YthoegenipbohmaaGreatDoor
set_option linter.unusedVariables false
set_option linter.unusedSimpArgs false
open Stb
namespace Itm
def minS (n : Int) : List It → Int
  | [] => n
  | x :: t => min x.s (minS n t)
def maxE (n : Int) : List It → Int
  | [] => n
  | x :: t => max x.e (maxE n t)
theorem minS_snoc (n : Int) : ∀ (l : List It) (x : It), minS n (l ++ [x]) = min (minS n l) x.s
  | [], x => by show min x.s n = min n x.s; omega
  | y :: l, x => by
    show min y.s (minS n (l ++ [x])) = min (min y.s (minS n l)) x.s
    rw [minS_snoc n l x]
    omega
theorem maxE_snoc (n : Int) : ∀ (l : List It) (x : It), maxE n (l ++ [x]) = max (maxE n l) x.e
  | [], x => by show max x.e n = max n x.e; omega
  | y :: l, x => by
    show max y.e (maxE n (l ++ [x])) = max (max y.e (maxE n l)) x.e
    rw [maxE_snoc n l x]
    omega
theorem minS_le (n : Int) : ∀ (l : List It), minS n l ≤ n
  | [] => Int.le_refl _
  | x :: l => by have := minS_le n l; show min x.s _ ≤ n; omega
theorem minS_mem (n : Int) : ∀ (l : List It) (x : It), x ∈ l → minS n l ≤ x.s
  | y :: l, x, h => by
    show min y.s (minS n l) ≤ x.s
    rcases List.mem_cons.1 h with rfl | h
    · omega
    · have := minS_mem n l x h; omega
theorem minS_of (n : Int) : ∀ (l : List It), minS n l = n ∨ ∃ x ∈ l, minS n l = x.s
  | [] => .inl rfl
  | y :: l => by
    have h : minS n (y :: l) = min y.s (minS n l) := rfl
    by_cases h1 : y.s ≤ minS n l
    · exact .inr ⟨y, List.mem_cons_self, by omega⟩
    · rcases minS_of n l with h2 | ⟨x, hx, h2⟩
      · exact .inl (by omega)
      · exact .inr ⟨x, List.mem_cons_of_mem _ hx, by omega⟩
theorem minS_ge (n m : Int) (hn : m ≤ n) (l : List It) (h : ∀ x ∈ l, m ≤ x.s) : m ≤ minS n l := by
  rcases minS_of n l with e | ⟨x, hx, e⟩
  · omega
  · have := h x hx; omega
theorem maxE_ge (n : Int) : ∀ (l : List It), n ≤ maxE n l
  | [] => Int.le_refl _
  | x :: l => by have := maxE_ge n l; show n ≤ max x.e _; omega
theorem maxE_mem (n : Int) : ∀ (l : List It) (x : It), x ∈ l → x.e ≤ maxE n l
  | y :: l, x, h => by
    show x.e ≤ max y.e (maxE n l)
    rcases List.mem_cons.1 h with rfl | h
    · omega
    · have := maxE_mem n l x h; omega
theorem maxE_of (n : Int) : ∀ (l : List It), maxE n l = n ∨ ∃ x ∈ l, maxE n l = x.e
  | [] => .inl rfl
  | y :: l => by
    have h : maxE n (y :: l) = max y.e (maxE n l) := rfl
    by_cases h1 : maxE n l ≤ y.e
    · exact .inr ⟨y, List.mem_cons_self, by omega⟩
    · rcases maxE_of n l with h2 | ⟨x, hx, h2⟩
      · exact .inl (by omega)
      · exact .inr ⟨x, List.mem_cons_of_mem _ hx, by omega⟩
theorem maxE_le (n m : Int) (hn : n ≤ m) (l : List It) (h : ∀ x ∈ l, x.e ≤ m) : maxE n l ≤ m := by
  rcases maxE_of n l with e | ⟨x, hx, e⟩
  · omega
  · have := h x hx; omega
/-- From each item on, the least byte. -/
def least (n : Int) (L : List It) : List Int := (List.range (L.length + 1)).map fun i => minS n (L.drop i)
theorem least_len (n : Int) (L : List It) : (least n L).length = L.length + 1 := by unfold least; simp
theorem least_get (n : Int) (L : List It) (i : Nat) (h : i ≤ L.length) : (least n L)[i]? = some (minS n (L.drop i)) := by
  unfold least
  rw [List.getElem?_map, List.getElem?_range (by omega)]
  rfl
theorem least_end (n : Int) (L : List It) : minS n (L.drop L.length) = n := by rw [List.drop_length]; rfl
theorem least_step (n : Int) (L : List It) (i : Nat) (h : i < L.length) : minS n (L.drop i) = min L[i].s (minS n (L.drop (i + 1))) := by rw [List.drop_eq_getElem_cons h]; rfl
/-- The bytes of items from one to below another. -/
def spanL (n : Int) (L : List It) (f t : Int) : Int × Int :=
  if f < 0 ∨ t < f ∨ (L.length : Int) < t then (-1, -1) else if f = t then (minS n (L.drop f.toNat), minS n (L.drop f.toNat)) else (minS n ((L.take t.toNat).drop f.toNat), maxE 0 ((L.take t.toNat).drop f.toNat))
/-- The first place from which on no item begins below a byte. -/
def IsAft (at_ : Int) (L : List It) (n : Nat) : Prop := n ≤ L.length ∧ (∀ j, (h : j < L.length) → n ≤ j → at_ ≤ L[j].s) ∧ (n = 0 ∨ ∃ h : n - 1 < L.length, L[n - 1].s < at_)
theorem aft_one {at_ : Int} {L : List It} {n m : Nat} (h : IsAft at_ L n) (h' : IsAft at_ L m) : n = m := by
  obtain ⟨h1, h2, h3⟩ := h
  obtain ⟨g1, g2, g3⟩ := h'
  rcases Nat.lt_trichotomy n m with hlt | heq | hgt
  · rcases g3 with g3 | ⟨hm, g3⟩
    · omega
    · have := h2 (m - 1) hm (by omega); omega
  · exact heq
  · rcases h3 with h3 | ⟨hm, h3⟩
    · omega
    · have := g2 (n - 1) hm (by omega); omega
section
variable {Φ : Files}
/-- NFD of items, their places aside, is that of their code points. -/
theorem nfd_runes (xs : List It) : (nfd Φ xs).map It.r = runesL Φ (xs.map It.r) := by
  let f : Part → Part := fun p => ⟨p.r, 0, 0, p.c⟩
  have hp : partsL Φ ((xs.map It.r).map zit) = (partsL Φ xs).map f := by
    unfold partsL partsG
    rw [List.map_map, List.flatMap_map, List.map_flatMap]
    congr 1
    funext x
    rw [List.map_map]
    rfl
  unfold runesL
  rw [nfd_eq, nfd_eq, hp, Nrm.ord_map (cl := ptKey) (cl' := ptKey) f (fun _ => rfl), List.map_map, List.map_map, List.map_map]
  rfl
theorem partsL_app (xs ys : List It) : partsL Φ (xs ++ ys) = partsL Φ xs ++ partsL Φ ys := by unfold partsL partsG; rw [List.flatMap_append]
theorem partsL_nfd (hend : endB Φ.dec = true) (xs : List It) : partsL Φ (nfd Φ xs) = Nrm.ord ptKey (partsL Φ xs) := by
  rw [partsL_end (Φ := Φ) (nfd Φ xs) fun y hy => by
    obtain ⟨x, _, _, _, hr⟩ := nfd_mem xs y hy
    exact dall_ends hend x.r y.r hr]
  exact parts_back xs
/-- NFD of two lists, one behind the other. -/
theorem nfd_joins (hend : endB Φ.dec = true) (xs ys : List It) : nfd Φ (nfd Φ xs ++ nfd Φ ys) = nfd Φ (xs ++ ys) := by
  rw [nfd_eq, nfd_eq Φ (xs ++ ys), partsL_app, partsL_app, partsL_nfd hend, partsL_nfd hend, Nrm.ord_joins]
theorem runes_joins (hend : endB Φ.dec = true) (a b : List Int) : runesL Φ (runesL Φ a ++ runesL Φ b) = runesL Φ (a ++ b) := by
  have h : ∀ zs, (runesL Φ zs).map zit = nfd Φ (zs.map zit) := fun zs => by
    unfold runesL
    rw [List.map_map]
    exact zit_back zs
  show (nfd Φ ((runesL Φ a ++ runesL Φ b).map zit)).map It.r = (nfd Φ ((a ++ b).map zit)).map It.r
  rw [List.map_append, List.map_append, h, h, nfd_joins hend]
/-- Each item's bytes are those of some item of its NFD. -/
theorem nfd_has (xs : List It) (x : It) (hx : x ∈ xs) : ∃ y ∈ nfd Φ xs, y.s = x.s ∧ y.e = x.e := by
  obtain ⟨r, hr⟩ := List.exists_mem_of_ne_nil _ (dall_neI (partsOf Φ.dec) x.r)
  have hp : mkPart (combOf Φ) x r ∈ partsL Φ xs := by
    unfold partsL partsG
    exact List.mem_flatMap.2 ⟨x, hx, List.mem_map.2 ⟨r, hr, rfl⟩⟩
  have hq := (Nrm.ord_perm (cl := ptKey) (partsL Φ xs)).mem_iff.2 hp
  rw [nfd_eq]
  exact ⟨toIt (mkPart (combOf Φ) x r), List.mem_map.2 ⟨_, hq, rfl⟩, rfl, rfl⟩
end
end Itm
end Go.Proofs.YthoegenipbohmaaGreatDoor
