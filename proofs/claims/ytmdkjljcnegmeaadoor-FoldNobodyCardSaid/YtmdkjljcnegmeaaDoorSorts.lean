/- Rows of one's own that are sorted or turned in place (the shelf's words HoldsK, sortWorldK, putRowK). No program stands here. -/
import Derived.Test.YtmdkjljcnegmeaaDoorBase
import Derived.Shelf.SlSortCmp.NoneTotal
import Derived.Shelf.SlicesQ.Reverse
namespace Go.Proofs.YtmdkjljcnegmeaaDoor
open Go.RowKit Go.Sort
set_option linter.unusedVariables false
set_option linter.unusedSectionVars false
variable {α : Type} [Inhabited α]

theorem toList_get! (d : Array α) (i : Nat) : d.toList[i]! = d[i]! := by
  by_cases h : i < d.size
  · rw [getElem!_pos d i h, getElem!_pos d.toList i (by simpa using h)]; simp
  · rw [getElem!_neg d i h, getElem!_neg d.toList i (by simpa using h)]
theorem flat_get (enc : α → List Value) (k : Nat) (hk : ∀ x, (enc x).length = k) : ∀ (l : List α) (t : Nat), t < l.length * k → (l.flatMap enc)[t]? = some ((enc l[t / k]!)[t % k]!)
  | [], t, h => by simp at h
  | x :: l, t, h => by
    have k0 : 0 < k := by rcases Nat.eq_zero_or_pos k with h0 | h0; · subst h0; simp at h
                          · exact h0
    rw [List.flatMap_cons]
    by_cases ht : t < k
    · rw [List.getElem?_append_left (by rw [hk]; exact ht), Nat.div_eq_of_lt ht, Nat.mod_eq_of_lt ht]
      rw [List.getElem?_eq_getElem (by rw [hk]; exact ht)]
      simp [hk, ht]
    · obtain ⟨s, rfl⟩ : ∃ s, t = s + k := ⟨t - k, by omega⟩
      rw [List.getElem?_append_right (by rw [hk]; omega), hk, Nat.add_sub_cancel, flat_get enc k hk l s (by simp [Nat.add_mul] at h; omega)]
      rw [Nat.add_div_right _ k0, Nat.add_mod_right]
      simp
theorem flat_len (enc : α → List Value) (k : Nat) (hk : ∀ x, (enc x).length = k) (l : List α) : (l.flatMap enc).length = l.length * k := by
  induction l with
  | nil => simp
  | cons x l ih => simp [ih, hk, Nat.add_mul]; omega
theorem flatK_list (enc : α → List Value) (k : Nat) (hk : ∀ x, (enc x).length = k) (d : Array α) : (flatK enc k d).toList = d.toList.flatMap enc := by
  apply List.ext_getElem?
  intro t
  by_cases ht : t < d.size * k
  · rw [flat_get enc k hk d.toList t (by simpa using ht), Array.getElem?_toList, Array.getElem?_eq_getElem (by simpa using ht)]
    have := get_flatK enc k d t ht
    rw [getElem!_pos (flatK enc k d) t (by simpa using ht)] at this
    rw [this, toList_get! d]
  · rw [List.getElem?_eq_none (by simp; omega), List.getElem?_eq_none (by rw [flat_len enc k hk]; simp; omega)]
theorem own_holds {w : World} {base g n cap k : Nat} {e : TypeId} {enc : α → List Value} (hk : ∀ x, (enc x).length = k) {d : Array α} (h : w.ownsRow base e k (.slice (some ⟨g, 0, none⟩) n cap) n (d.toList.flatMap enc)) (hn : d.size = n) : HoldsK enc k w g 0 d := by
  intro j hj
  have hj' : j < d.size * k := by simpa using hj
  rcases h.2 with ⟨h0, _⟩ | ⟨g', cap', cur, hv, hb, hg, hnc, hcm, hcs, ht⟩
  · cases h0
  · injection hv with e1 e2 e3
    injection e1 with e1
    injection e1 with e1
    subst e1
    obtain ⟨h1, h2⟩ := cells_of_row hg
    refine ⟨?_, h2 _⟩
    rw [Nat.zero_add, h1]
    have h3 : (flatK enc k d)[j]! = (enc d[j / k]!)[j % k]! := get_flatK enc k d j hj'
    have h4 := flat_get enc k hk d.toList j (by simpa using hj')
    rw [← ht, List.getElem?_take, if_pos (by rw [← hn]; exact hj'), Array.getElem?_toList] at h4
    rw [toList_get! d] at h4
    rw [h4, h3]
    rfl
/-- What the row holds behind a world of the sort's. -/
theorem own_sorted {w : World} {base g n cap k : Nat} {e : TypeId} {enc : α → List Value} (hk : ∀ x, (enc x).length = k) {d d' : Array α} (h : w.ownsRow base e k (.slice (some ⟨g, 0, none⟩) n cap) n (d.toList.flatMap enc)) (hn : d.size = n) (hn' : d'.size = n) (m : Nat) (os : Array Obj) :
    (sortWorldK enc k w g 0 m d' os).ownsRow base e k (.slice (some ⟨g, 0, none⟩) n cap) n (d'.toList.flatMap enc) ∧ w.grownBy (sortWorldK enc k w g 0 m d' os) (some g) := by
  have hsz : (putRowK enc k (Sort.ahead w m) g 0 d').heap.size = w.heap.size := by simp [putRowK, putRow, mapBlock]
  have hgl : g < w.heap.size := h.lt g rfl |>.2
  have hblk : ∀ b, b < w.heap.size → (sortWorldK enc k w g 0 m d' os).heap[b]? = (putRowK enc k (Sort.ahead w m) g 0 d').heap[b]? := fun b hb => by
    show ((putRowK enc k (Sort.ahead w m) g 0 d').heap ++ os)[b]? = _
    rw [Array.getElem?_append_left (by rw [hsz]; exact hb)]
  refine ⟨⟨by rw [flat_len enc k hk]; simp [hn'], .inr ?_⟩, ⟨rfl, rfl, rfl, ?_, fun b hb hne => ?_⟩⟩
  · rcases h.2 with ⟨h0, _⟩ | ⟨g', cap', cur, hv, hb, hg, hnc, hcm, hcs, ht⟩
    · cases h0
    · injection hv with e1 e2 e3
      injection e1 with e1
      injection e1 with e1
      subst e1 e3
      refine ⟨g, cap, putCells id 0 (flatK enc k d') cur, rfl, hb, ?_, hnc, hcm, by simp [putCells, hcs], ?_⟩
      · rw [hblk g hgl]
        show ((Sort.ahead w m).heap.modify g (onCells (putCells id 0 (flatK enc k d'))))[g]? = _
        rw [Array.getElem?_modify, if_pos rfl]
        show Option.map _ w.heap[g]? = _
        rw [hg]
        rfl
      · rw [← flatK_list enc k hk d']
        apply List.ext_getElem?
        intro j
        rw [List.getElem?_take]
        by_cases hj : j < n * k
        · have hjc : j < cap * k := Nat.lt_of_lt_of_le hj (Nat.mul_le_mul_right k hnc)
          rw [if_pos hj, Array.getElem?_toList, Array.getElem?_toList]
          unfold putCells
          rw [Array.getElem?_mapIdx, Array.getElem?_eq_getElem (by rw [hcs]; exact hjc), Array.getElem?_eq_getElem (by simpa [hn'] using hj)]
          simp only [Option.map_some, Nat.zero_le, Nat.zero_add, true_and, Nat.sub_zero, id]
          rw [if_pos (by simpa [hn'] using hj), getElem!_pos _ _ (by simpa [hn'] using hj)]
        · rw [if_neg hj, List.getElem?_eq_none (by simp [hn']; omega)]
  · show _ ≤ ((putRowK enc k (Sort.ahead w m) g 0 d').heap ++ os).size
    rw [Array.size_append, hsz]; omega
  · rw [hblk b hb]
    show ((Sort.ahead w m).heap.modify g _)[b]? = _
    rw [Array.getElem?_modify, if_neg (fun hh => hne (by rw [hh]))]
    rfl
theorem own_turned {w : World} {base g n cap k : Nat} {e : TypeId} {enc : α → List Value} (hk : ∀ x, (enc x).length = k) {d d' : Array α} (h : w.ownsRow base e k (.slice (some ⟨g, 0, none⟩) n cap) n (d.toList.flatMap enc)) (hn : d.size = n) (hn' : d'.size = n) (m : Nat) :
    (putRowK enc k (Sort.ahead w m) g 0 d').ownsRow base e k (.slice (some ⟨g, 0, none⟩) n cap) n (d'.toList.flatMap enc) ∧ w.grownBy (putRowK enc k (Sort.ahead w m) g 0 d') (some g) := by
  have := own_sorted hk h hn hn' m #[]
  unfold sortWorldK at this
  rwa [grow_empty] at this
end Go.Proofs.YtmdkjljcnegmeaaDoor
