/- A row's argument that is a slice of ints, opened. -/
import Derived.Test.YthoegenipbohmaaGreatDoorClu
import Derived.ChangeSlices
import Derived.OpenShut
namespace Go.Proofs.YthoegenipbohmaaGreatDoor
open Go.RowKit Go.ChangeShapes Go.WideShapes Go.ChangeAt
set_option linter.unusedVariables false
theorem open_list {P : Program} {w : World} {r : Reach} {base : Nat} {t e : TypeId} {v : Value} (ht : P.underlying t = some (.slice e)) (h : Value.okWide P w r base t v) : ∃ A n c, v = .slice A n c := by
  simp only [Value.okWide, ht, Cell.okWide] at h
  cases v <;> simp_all [Cell.ok]
set_option maxRecDepth 100000 in
theorem open_listAt {H : Type} {enc : TypeId × Value → H} {w : World} {r : Reach} {base : Nat} {v : Value} {d : DataW H} {ps : List MemPlace} (hval : Value.okWide Tryz.prog w r base 37 v) (hd : DataW.Trod enc Tryz.prog w 0 (fun _ => true) true 37 v d ps) :
    ∃ A n c zs, v = .slice A n c ∧ ListAt w (.slice A n c) zs ∧ n ≤ c ∧ zs.length = n := by
  obtain ⟨A, n, c, rfl⟩ := open_list Tryz.underlying37 hval
  obtain ⟨m, hm⟩ := hd
  rcases open_ints Tryz.underlying37 Tryz.underlying3 (by kernel_rfl) hm with ⟨h, _⟩ | ⟨a, len, cap, zs, h, _, hl, hc, hz, _, hcell, _⟩
  · have e : Value.slice A n c = .slice none 0 0 := by simpa [Value.cells] using h
    injection e with e1 e2 e3
    subst e1 e2 e3
    exact ⟨none, 0, 0, [], rfl, ⟨none, 0, rfl, by decide, fun h => absurd h (by decide)⟩, Nat.le_refl _, rfl⟩
  · have e : Value.slice A n c = .slice (some a) len cap := by simpa [Value.cells] using h
    injection e with e1 e2 e3
    subst e1 e2 e3
    unfold maxLen at hc
    have hzl : zs.length = c := by simpa using hz
    have htl : (zs.take n).length = n := by rw [List.length_take]; omega
    refine ⟨_, n, c, zs.take n, rfl, ⟨some a, c, by rw [htl], by omega, fun _ => ⟨a, rfl, fun j u hu => ?_⟩⟩, hl, htl⟩
    have hj : j < n := by
      have := (List.getElem?_eq_some_iff.1 hu).1
      unfold intz at this
      rw [List.length_map, htl] at this
      exact this
    rw [hcell j (by omega)]
    have := intz_get (zs.take n) j (by omega)
    rw [this] at hu
    rw [← hu]
    congr 2
    rw [List.getD_eq_getElem?_getD, List.getD_eq_getElem?_getD, List.getElem?_take, if_pos hj]
/-- A slice of ints that is nil or has a place, as long as its room. -/
def ListV (w : World) (v : Value) (zs : List Int) : Prop := ListAt w v zs ∧ (v = .slice none 0 0 ∨ ∃ ad n c, v = .slice (some ad) n c ∧ n ≤ c)
theorem ListV.below {w w' : World} {v : Value} {zs : List Int} (h : ListV w v zs) (hb : Below w.heap.size w w') : ListV w' v zs := ⟨h.1.below hb, h.2⟩
theorem ListV.form {w : World} {v : Value} {zs : List Int} (h : ListV w v zs) : ∃ A c, v = .slice A zs.length c ∧ zs.length ≤ c ∧ zs.length ≤ 9223372036854775807 ∧ (A = none → c = 0) := by
  obtain ⟨⟨A, c, rfl, hn, _⟩, hf⟩ := h
  rcases hf with h | ⟨ad, n, c', h, hc⟩
  · injection h with h1 h2 h3
    exact ⟨A, c, rfl, by omega, hn, fun _ => h3⟩
  · injection h with h1 h2 h3
    subst h1
    exact ⟨_, c, rfl, by omega, hn, fun h => by cases h⟩
theorem ListV.cut {w : World} {A : Option Addr} {n c k : Nat} {zs : List Int} (h : ListV w (.slice A n c) zs) (hk : k ≤ n) : ListV w (.slice A k c) (zs.take k) := by
  obtain ⟨⟨A', c', e, hn, hz⟩, hf⟩ := h
  injection e with e1 e2 e3
  subst e1 e3 e2
  have ht : (zs.take k).length = k := by rw [List.length_take]; omega
  refine ⟨⟨A, c, by rw [ht], by omega, fun hp => ?_⟩, ?_⟩
  · obtain ⟨ad, h4, h5⟩ := hz (by omega)
    refine ⟨ad, h4, fun j u hu => h5 j u ?_⟩
    unfold intz at hu ⊢
    rw [List.map_take, List.getElem?_take] at hu
    split at hu
    · exact hu
    · cases hu
  · rcases hf with h | ⟨ad, n, c', h, hc⟩
    · injection h with h1 h2 h3
      subst h1 h3
      left
      congr 1
      omega
    · injection h with h1 h2 h3
      subst h1 h3
      exact .inr ⟨ad, k, c, rfl, by omega⟩
theorem ListV.cell {w : World} {A : Option Addr} {n c : Nat} {zs : List Int} (h : ListV w (.slice A n c) zs) (i : Nat) (hi : i < zs.length) : ∃ ad, A = some ad ∧ w.cell? (ad.add i) = some (.int .i64 (zs.getD i 0)) := by
  obtain ⟨⟨A', c', e, hn, hz⟩, _⟩ := h
  injection e with e1 e2 e3
  subst e1
  obtain ⟨ad, h4, h5⟩ := hz (by omega)
  exact ⟨ad, h4, h5 i _ (intz_get zs i hi)⟩
theorem ListV.of_own {w : World} {B : Nat} {v : Value} {zs : List Int} (h : IntsAt w B v zs) : ListV w v zs := by
  refine ⟨ListAt.of_own h, ?_⟩
  rcases h.2 with ⟨h0, _⟩ | ⟨g, cap, cur, rfl, hb, hg, hc, _⟩
  · exact .inl h0
  · exact .inr ⟨_, _, _, rfl, hc⟩
set_option maxRecDepth 100000 in
theorem open_listV {H : Type} {enc : TypeId × Value → H} {w : World} {r : Reach} {base : Nat} {v : Value} {d : DataW H} {ps : List MemPlace} (hval : Value.okWide Tryz.prog w r base 37 v) (hd : DataW.Trod enc Tryz.prog w 0 (fun _ => true) true 37 v d ps) : ∃ zs, ListV w v zs := by
  obtain ⟨A, n, c, zs, rfl, hz, hnc, hl⟩ := open_listAt hval hd
  cases A with
  | some ad => exact ⟨zs, hz, .inr ⟨ad, n, c, rfl, hnc⟩⟩
  | none =>
    refine ⟨zs, hz, .inl ?_⟩
    obtain ⟨m, hm⟩ := hd
    rcases open_ints Tryz.underlying37 Tryz.underlying3 (by kernel_rfl) hm with ⟨h, _⟩ | ⟨a, len, cap, zs', h, _⟩
    · simpa [Value.cells] using h
    · simp [Value.cells] at h
end Go.Proofs.YthoegenipbohmaaGreatDoor
