/- A row's argument that is a slice of ints, opened. -/
import Derived.Test.YtmdkjljcnegmeaaDoorCluC
import Derived.ChangeSlices
import Derived.OpenShut
namespace Go.Proofs.YtmdkjljcnegmeaaDoor
open Go.RowKit Go.ChangeShapes Go.WideShapes Go.ChangeAt
set_option linter.unusedVariables false
theorem open_list {P : Program} {w : World} {r : Reach} {base : Nat} {t e : TypeId} {v : Value} (ht : P.underlying t = some (.slice e)) (h : Value.okWide P w r base t v) : ∃ A n c, v = .slice A n c := by
  simp only [Value.okWide, ht, Cell.okWide] at h
  cases v <;> simp_all [Cell.ok]
set_option maxRecDepth 100000 in
theorem open_listAt {H : Type} {enc : TypeId × Value → H} {w : World} {r : Reach} {base : Nat} {v : Value} {d : DataW H} {ps : List MemPlace} (hval : Value.okWide Tryd.prog w r base 25 v) (hd : DataW.Trod enc Tryd.prog w 0 (fun _ => true) true 25 v d ps) :
    ∃ A n c zs, v = .slice A n c ∧ ListAt w (.slice A n c) zs ∧ n ≤ c ∧ zs.length = n := by
  obtain ⟨A, n, c, rfl⟩ := open_list Tryd.underlying25 hval
  obtain ⟨m, hm⟩ := hd
  rcases open_ints Tryd.underlying25 Tryd.underlying3 (by kernel_rfl) hm with ⟨h, _⟩ | ⟨a, len, cap, zs, h, _, hl, hc, hz, _, hcell, _⟩
  · have e : Value.slice A n c = .slice none 0 0 := by simpa [Value.cells] using h
    injection e with e1 e2 e3
    subst e1 e2 e3
    exact ⟨none, 0, 0, [], rfl, ⟨none, 0, rfl, by decide, fun h => absurd h (by decide)⟩, Nat.le_refl _, rfl⟩
  · have e : Value.slice A n c = .slice (some a) len cap := by simpa [Value.cells] using h
    injection e with e1 e2 e3
    subst e1 e2 e3
    unfold maxLen at hc
    have hzl : zs.length = c := by simpa using hz
    have htl : (zs.take n).length = n := by rw [List.length_take]; omega
    refine ⟨_, n, c, zs.take n, rfl, ⟨some a, c, by rw [htl], by omega, fun _ => ⟨a, rfl, fun j u hu => ?_⟩⟩, hl, htl⟩
    have hj : j < n := by
      have := (List.getElem?_eq_some_iff.1 hu).1
      unfold intz at this
      rw [List.length_map, htl] at this
      exact this
    rw [hcell j (by omega)]
    have := intz_get (zs.take n) j (by omega)
    rw [this] at hu
    rw [← hu]
    congr 2
    rw [List.getD_eq_getElem?_getD, List.getD_eq_getElem?_getD, List.getElem?_take, if_pos hj]
end Go.Proofs.YtmdkjljcnegmeaaDoor
