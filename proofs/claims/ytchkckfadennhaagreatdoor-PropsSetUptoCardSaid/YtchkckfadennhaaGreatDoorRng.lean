/- Rows of one's own that are sorted or turned in place (the shelf's words HoldsK, sortWorldK, putRowK). No program stands here. cmp.Compare at int; ranges.Make's comparison; the sort of ranges. ranges.Make. -/
import Derived.Test.YtchkckfadennhaaGreatDoorBase
import Derived.Shelf.SlSortCmp.NoneTotal
import Derived.Shelf.SlicesQ.Reverse
import Derived.Test.YtchkckfadennhaaGreatDoorShelf2
import Derived.Test.YtchkckfadennhaaGreatDoorTrie
import Derived.StillTailTactics
namespace Go.Proofs.YtchkckfadennhaaGreatDoor
open Go.RowKit Go.Sort
set_option linter.unusedVariables false
set_option linter.unusedSectionVars false
variable {α : Type} [Inhabited α]

theorem toList_get! (d : Array α) (i : Nat) : d.toList[i]! = d[i]! := by
  by_cases h : i < d.size
  · rw [getElem!_pos d i h, getElem!_pos d.toList i (by simpa using h)]; simp
  · rw [getElem!_neg d i h, getElem!_neg d.toList i (by simpa using h)]
theorem flat_get (enc : α → List Value) (k : Nat) (hk : ∀ x, (enc x).length = k) : ∀ (l : List α) (t : Nat), t < l.length * k → (l.flatMap enc)[t]? = some ((enc l[t / k]!)[t % k]!)
  | [], t, h => by simp at h
  | x :: l, t, h => by
    have k0 : 0 < k := by rcases Nat.eq_zero_or_pos k with h0 | h0; · subst h0; simp at h
                          · exact h0
    rw [List.flatMap_cons]
    by_cases ht : t < k
    · rw [List.getElem?_append_left (by rw [hk]; exact ht), Nat.div_eq_of_lt ht, Nat.mod_eq_of_lt ht]
      rw [List.getElem?_eq_getElem (by rw [hk]; exact ht)]
      simp [hk, ht]
    · obtain ⟨s, rfl⟩ : ∃ s, t = s + k := ⟨t - k, by omega⟩
      rw [List.getElem?_append_right (by rw [hk]; omega), hk, Nat.add_sub_cancel, flat_get enc k hk l s (by simp [Nat.add_mul] at h; omega)]
      rw [Nat.add_div_right _ k0, Nat.add_mod_right]
      simp
theorem flat_len (enc : α → List Value) (k : Nat) (hk : ∀ x, (enc x).length = k) (l : List α) : (l.flatMap enc).length = l.length * k := by
  induction l with
  | nil => simp
  | cons x l ih => simp [ih, hk, Nat.add_mul]; omega
theorem flatK_list (enc : α → List Value) (k : Nat) (hk : ∀ x, (enc x).length = k) (d : Array α) : (flatK enc k d).toList = d.toList.flatMap enc := by
  apply List.ext_getElem?
  intro t
  by_cases ht : t < d.size * k
  · rw [flat_get enc k hk d.toList t (by simpa using ht), Array.getElem?_toList, Array.getElem?_eq_getElem (by simpa using ht)]
    have := get_flatK enc k d t ht
    rw [getElem!_pos (flatK enc k d) t (by simpa using ht)] at this
    rw [this, toList_get! d]
  · rw [List.getElem?_eq_none (by simp; omega), List.getElem?_eq_none (by rw [flat_len enc k hk]; simp; omega)]
theorem own_holds {w : World} {base g n cap k : Nat} {e : TypeId} {enc : α → List Value} (hk : ∀ x, (enc x).length = k) {d : Array α} (h : w.ownsRow base e k (.slice (some ⟨g, 0, none⟩) n cap) n (d.toList.flatMap enc)) (hn : d.size = n) : HoldsK enc k w g 0 d := by
  intro j hj
  have hj' : j < d.size * k := by simpa using hj
  rcases h.2 with ⟨h0, _⟩ | ⟨g', cap', cur, hv, hb, hg, hnc, hcm, hcs, ht⟩
  · cases h0
  · injection hv with e1 e2 e3
    injection e1 with e1
    injection e1 with e1
    subst e1
    obtain ⟨h1, h2⟩ := cells_of_row hg
    refine ⟨?_, h2 _⟩
    rw [Nat.zero_add, h1]
    have h3 : (flatK enc k d)[j]! = (enc d[j / k]!)[j % k]! := get_flatK enc k d j hj'
    have h4 := flat_get enc k hk d.toList j (by simpa using hj')
    rw [← ht, List.getElem?_take, if_pos (by rw [← hn]; exact hj'), Array.getElem?_toList] at h4
    rw [toList_get! d] at h4
    rw [h4, h3]
    rfl
/-- What the row holds behind a world of the sort's. -/
theorem own_sorted {w : World} {base g n cap k : Nat} {e : TypeId} {enc : α → List Value} (hk : ∀ x, (enc x).length = k) {d d' : Array α} (h : w.ownsRow base e k (.slice (some ⟨g, 0, none⟩) n cap) n (d.toList.flatMap enc)) (hn : d.size = n) (hn' : d'.size = n) (m : Nat) (os : Array Obj) :
    (sortWorldK enc k w g 0 m d' os).ownsRow base e k (.slice (some ⟨g, 0, none⟩) n cap) n (d'.toList.flatMap enc) ∧ w.grownBy (sortWorldK enc k w g 0 m d' os) (some g) := by
  have hsz : (putRowK enc k (Sort.ahead w m) g 0 d').heap.size = w.heap.size := by simp [putRowK, putRow, mapBlock]
  have hgl : g < w.heap.size := h.lt g rfl |>.2
  have hblk : ∀ b, b < w.heap.size → (sortWorldK enc k w g 0 m d' os).heap[b]? = (putRowK enc k (Sort.ahead w m) g 0 d').heap[b]? := fun b hb => by
    show ((putRowK enc k (Sort.ahead w m) g 0 d').heap ++ os)[b]? = _
    rw [Array.getElem?_append_left (by rw [hsz]; exact hb)]
  refine ⟨⟨by rw [flat_len enc k hk]; simp [hn'], .inr ?_⟩, ⟨rfl, rfl, rfl, ?_, fun b hb hne => ?_⟩⟩
  · rcases h.2 with ⟨h0, _⟩ | ⟨g', cap', cur, hv, hb, hg, hnc, hcm, hcs, ht⟩
    · cases h0
    · injection hv with e1 e2 e3
      injection e1 with e1
      injection e1 with e1
      subst e1 e3
      refine ⟨g, cap, putCells id 0 (flatK enc k d') cur, rfl, hb, ?_, hnc, hcm, by simp [putCells, hcs], ?_⟩
      · rw [hblk g hgl]
        show ((Sort.ahead w m).heap.modify g (onCells (putCells id 0 (flatK enc k d'))))[g]? = _
        rw [Array.getElem?_modify, if_pos rfl]
        show Option.map _ w.heap[g]? = _
        rw [hg]
        rfl
      · rw [← flatK_list enc k hk d']
        apply List.ext_getElem?
        intro j
        rw [List.getElem?_take]
        by_cases hj : j < n * k
        · have hjc : j < cap * k := Nat.lt_of_lt_of_le hj (Nat.mul_le_mul_right k hnc)
          rw [if_pos hj, Array.getElem?_toList, Array.getElem?_toList]
          unfold putCells
          rw [Array.getElem?_mapIdx, Array.getElem?_eq_getElem (by rw [hcs]; exact hjc), Array.getElem?_eq_getElem (by simpa [hn'] using hj)]
          simp only [Option.map_some, Nat.zero_le, Nat.zero_add, true_and, Nat.sub_zero, id]
          rw [if_pos (by simpa [hn'] using hj), getElem!_pos _ _ (by simpa [hn'] using hj)]
        · rw [if_neg hj, List.getElem?_eq_none (by simp [hn']; omega)]
  · show _ ≤ ((putRowK enc k (Sort.ahead w m) g 0 d').heap ++ os).size
    rw [Array.size_append, hsz]; omega
  · rw [hblk b hb]
    show ((Sort.ahead w m).heap.modify g _)[b]? = _
    rw [Array.getElem?_modify, if_neg (fun hh => hne (by rw [hh]))]
    rfl
theorem own_turned {w : World} {base g n cap k : Nat} {e : TypeId} {enc : α → List Value} (hk : ∀ x, (enc x).length = k) {d d' : Array α} (h : w.ownsRow base e k (.slice (some ⟨g, 0, none⟩) n cap) n (d.toList.flatMap enc)) (hn : d.size = n) (hn' : d'.size = n) (m : Nat) :
    (putRowK enc k (Sort.ahead w m) g 0 d').ownsRow base e k (.slice (some ⟨g, 0, none⟩) n cap) n (d'.toList.flatMap enc) ∧ w.grownBy (putRowK enc k (Sort.ahead w m) g 0 d') (some g) := by
  have := own_sorted hk h hn hn' m #[]
  unfold sortWorldK at this
  rwa [grow_empty] at this
end Go.Proofs.YtchkckfadennhaaGreatDoor
namespace Go.Proofs.YtchkckfadennhaaGreatDoor
open Go.RowKit Go.Sort
set_option linter.unusedVariables false
set_option linter.unusedSimpArgs false

theorem isnan_walk (x : Int) (w : World) : Calls Tryz.prog 88 #[.int .i64 x] w fun e w' => e = .returned (.bool false) ∧ w' = w := by
  go_enter Tryz.func88, Tryz.ntmps88
  go_wp2_with fail
  go_ret
  simp
def cmpI (x y : Int) : Int := if x < y then -1 else if y < x then 1 else 0
set_option maxRecDepth 100000 in
theorem cmp_walk (x y : Int) (w : World) : Calls Tryz.prog 62 #[.int .i64 x, .int .i64 y] w fun e w' => e = .returned (.int .i64 (cmpI x y)) ∧ w' = w := by
  go_enter Tryz.func62, Tryz.ntmps62
  go_wp2_with fail
  refine (isnan_walk x w).mono ?_
  rintro e w' ⟨rfl, rfl⟩
  go_wp2_with fail
  refine (isnan_walk y w').mono ?_
  rintro e w2 ⟨rfl, rfl⟩
  by_cases h1 : x < y
  · go_wp2_with fail
    go_ret
    simp [cmpI, h1]
  · by_cases h2 : y < x
    · go_wp2_with fail
      go_ret
      simp [cmpI, h1, h2]
    · go_wp2_with fail
      go_ret
      have e0 : cmpI x y = 0 := by unfold cmpI; rw [if_neg (by omega), if_neg (by omega)]
      rw [e0]
      exact ⟨rfl, rfl⟩

/-- A range. -/
structure Rg where
  lo : Int
  hi : Int
deriving Inhabited, DecidableEq
def rgCells (r : Rg) : List Value := [.int .i64 r.lo, .int .i64 r.hi]
def rgCmp (a b : Rg) : Int := cmpI a.lo b.lo
theorem rg_lt (a b : Rg) : ltOf rgCmp a b = decide (a.lo < b.lo) := by
  unfold ltOf rgCmp cmpI
  rw [decide_eq_decide]
  constructor
  · intro h; split at h
    · assumption
    · split at h <;> omega
  · intro h; rw [if_pos h]; decide
theorem rg_swo : SWO (ltOf rgCmp) where
  irrefl x := by rw [rg_lt]; simp
  trans x y z h1 h2 := by rw [rg_lt] at *; simp at *; omega
  ntrans x y z h1 h2 := by rw [rg_lt] at *; simp at *; omega
set_option maxRecDepth 100000 in
theorem make1_walk (a b : Rg) (w : World) : Calls Tryz.prog 61 #[.agg (rgCells a).toArray, .agg (rgCells b).toArray] w fun e w' => e = .returned (.int .i64 (rgCmp a b)) ∧ ∃ os, w' = grow w os := by
  unfold rgCells
  go_enter Tryz.func61, Tryz.ntmps61
  go_wp2_with fail
  refine (cmp_walk a.lo b.lo _).mono ?_
  rintro e w' ⟨rfl, rfl⟩
  go_wp2_with fail
  go_ret
  refine ⟨rfl, #[Obj.cells #[Value.int IntKind.i64 a.lo, Value.int IntKind.i64 a.hi] 37, Obj.cells #[Value.int IntKind.i64 b.lo, Value.int IntKind.i64 b.hi] 37], ?_⟩
  rw [alloc_eq_grow, alloc_eq_grow, grow_grow]
  rfl
theorem rg_len (r : Rg) : (rgCells r).length = 2 := rfl
theorem rg_one (r : Rg) : ∀ v ∈ rgCells r, v.oneCell' = true := by
  intro v hv
  simp [rgCells] at hv
  rcases hv with rfl | rfl <;> rfl
/-- slices.SortFunc, of ranges. -/
theorem sort_walk {w : World} {base : Nat} {v : Value} {s : List Rg} (h : w.ownsRow base 37 2 v s.length (s.flatMap rgCells)) (hl : s.length ≤ 1200000) :
    Calls Tryz.prog 60 #[v, .func (.func 61) #[] #[]] w fun e w' => e = .returned (.tuple #[]) ∧ ∃ s' : List Rg, s'.Perm s ∧ s'.Pairwise (fun a b => a.lo ≤ b.lo) ∧ w'.ownsRow base 37 2 v s'.length (s'.flatMap rgCells) ∧ w.grownBy w' v.ownBlock := by
  rcases Nat.eq_zero_or_pos s.length with h0 | h0
  · obtain ⟨A, c, rfl⟩ := own_slice h
    rw [h0]
    refine (AnyF.slices_SortFunc_none Tryz.laysSort A c _ w).mono ?_
    rintro e w' ⟨rfl, rfl⟩
    obtain rfl := List.length_eq_zero_iff.1 h0
    exact ⟨rfl, [], List.Perm.refl _, List.Pairwise.nil, h, ⟨rfl, rfl, rfl, Nat.le_refl _, fun _ _ _ => rfl⟩⟩
  · obtain ⟨g, cap, rfl, hbg, hgl, hnc, hcm⟩ := own_form h h0
    have hH : HoldsK rgCells 2 w g 0 s.toArray := own_holds rg_len (d := s.toArray) h (by simp)
    have hcmp : CmpLays Tryz.prog 61 #[] rgCells 2 rgCmp g 0 s.toArray.size w := fun m os dk hs x y => by
      rw [Array.append_empty]
      refine (make1_walk x y _).mono ?_
      rintro e w' ⟨rfl, os', rfl⟩
      exact ⟨rfl, 0, os', rfl⟩
    have hz := Tryz.isAgg37
    have := AnyQ.slices_SortFunc Tryz.laysSort 2 (fun w => Tryz.isAgg37 w) (fun w => Tryz.sizeOf37 w) rgCells rg_len rg_one rgCmp rg_swo 61 #[] g 0 cap s.toArray w (enters_of Tryz.func61 (by kernel_rfl) rfl) hcmp hH hgl (by simp; omega)
    simp only [List.size_toArray] at this
    refine Calls.mono this ?_
    rintro e w' ⟨rfl, d', n, os, hp, hs, rfl⟩
    have hsz : d'.size = s.length := by have := hp.1; simpa using this
    obtain ⟨r1, r2⟩ := own_sorted rg_len (d := s.toArray) h (by simp) hsz n os
    refine ⟨rfl, d'.toList, ?_, ?_, ?_, r2⟩
    · have h3 := hp.2.2
      rw [← hsz] at h3
      simp only [Array.extract_size] at h3
      rw [hsz] at h3
      simpa using h3
    · rw [List.pairwise_iff_getElem]
      intro i j hi hj hij
      have h4 := hs i j (Nat.zero_le _) hij (by rw [Array.length_toList, hsz] at hj; simpa using hj)
      rw [rg_lt, getElem!_pos d' j (by simpa using hj), getElem!_pos d' i (by simpa using hi)] at h4
      simp at h4
      simpa using h4
    · have e : d'.toList.length = s.length := by rw [Array.length_toList, hsz]
      rw [e]
      exact r1
end Go.Proofs.YtchkckfadennhaaGreatDoor
namespace Go.Proofs.YtchkckfadennhaaGreatDoor
open Go.RowKit
set_option linter.unusedVariables false
set_option linter.unusedSimpArgs false

theorem own_set {w : World} {base g n cap size j : Nat} {e : TypeId} {xs : List Value} {u : Value} (h : w.ownsRow base e size (.slice (some ⟨g, 0, none⟩) n cap) n xs) (hj : j < n * size) :
    (w.setCell ⟨g, j, none⟩ u).ownsRow base e size (.slice (some ⟨g, 0, none⟩) n cap) n (xs.set j u) := by
  refine ⟨by rw [List.length_set]; exact h.1, ?_⟩
  rcases h.2 with ⟨h0, _⟩ | ⟨g', cap', cur, hv, hb, hg, hnc, hcm, hcs, ht⟩
  · cases h0
  · injection hv with e1 e2 e3
    injection e1 with e1
    injection e1 with e1
    subst e1 e3
    have hB : Blk w g e cur := hg
    refine .inr ⟨g, cap, _, rfl, hb, hB.set j u, hnc, hcm, by simpa using hcs, ?_⟩
    rw [← ht]
    simp [List.take_set]
theorem own_free {w : World} {base g n cap size : Nat} {e : TypeId} {xs : List Value} (h : w.ownsRow base e size (.slice (some ⟨g, 0, none⟩) n cap) n xs) (j : Nat) : w.frozen? ⟨g, j, none⟩ = false := by
  rcases h.2 with ⟨h0, _⟩ | ⟨g', cap', cur, hv, hb, hg, hnc, hcm, hcs, ht⟩
  · cases h0
  · injection hv with e1 e2 e3
    injection e1 with e1
    injection e1 with e1
    subst e1 e3
    exact (cells_of_row hg).2 _
theorem rgs_set (o : List Rg) (l : Rg) (h : Int) : ((o ++ [l]).flatMap rgCells).set (o.length * 2 + 1) (.int .i64 h) = (o ++ [(⟨l.lo, h⟩ : Rg)]).flatMap rgCells := by
  rw [List.flatMap_append, List.flatMap_append]
  have hl : (o.flatMap rgCells).length = o.length * 2 := Go.Proofs.YtchkckfadennhaaGreatDoor.flat_len rgCells 2 rg_len o
  rw [List.set_append_right _ _ (by omega), hl, show o.length * 2 + 1 - o.length * 2 = 1 by omega]
  rfl
def Rg.clip (r : Rg) : Rg := ⟨max r.lo 0, min r.hi 1114111⟩
def clipped (rs : List Rg) : List Rg := (rs.map Rg.clip).filter fun r => decide (r.lo ≤ r.hi)
/-- One range more, the ranges that are there being a set all of whose ranges begin no later. -/
def joinRg (out : List Rg) (r : Rg) : List Rg := match out.getLast? with
  | some l => if r.lo ≤ l.hi + 1 then out.dropLast ++ [⟨l.lo, max l.hi r.hi⟩] else out ++ [r]
  | none => [r]
def joinAll (s : List Rg) : List Rg := s.foldl joinRg []
theorem joinAll_snoc (s : List Rg) (r : Rg) : joinAll (s ++ [r]) = joinRg (joinAll s) r := by unfold joinAll; rw [List.foldl_append]; rfl
theorem joinRg_len (out : List Rg) (r : Rg) : (joinRg out r).length ≤ out.length + 1 := by
  unfold joinRg
  split
  · split
    · simp
    · simp
  · simp
theorem joinAll_len (s : List Rg) : (joinAll s).length ≤ s.length := by
  have h : ∀ (s out : List Rg), (s.foldl joinRg out).length ≤ out.length + s.length := by
    intro s
    induction s with
    | nil => intro out; simp
    | cons r s ih => intro out; have := ih (joinRg out r); have := joinRg_len out r; simp; omega
  have := h s []
  simpa [joinAll] using this
def RgIn (r : Rg) : Prop := 0 ≤ r.lo ∧ r.lo ≤ r.hi ∧ r.hi ≤ 1114111
theorem joinRg_in {out : List Rg} {r : Rg} (h : ∀ x ∈ out, RgIn x) (hr : RgIn r) : ∀ x ∈ joinRg out r, RgIn x := by
  unfold joinRg
  split
  · rename_i l hl
    have hl' := h l (List.mem_of_getLast? hl)
    split
    · intro x hx
      rcases List.mem_append.1 hx with hx | hx
      · exact h x (List.dropLast_subset _ hx)
      · simp at hx; subst hx
        unfold RgIn at *
        simp only
        omega
    · intro x hx
      rcases List.mem_append.1 hx with hx | hx
      · exact h x hx
      · simp at hx; subst hx; exact hr
  · intro x hx; simp at hx; subst hx; exact hr
theorem joinAll_in {s : List Rg} (h : ∀ x ∈ s, RgIn x) : ∀ x ∈ joinAll s, RgIn x := by
  have h' : ∀ (s out : List Rg), (∀ x ∈ s, RgIn x) → (∀ x ∈ out, RgIn x) → ∀ x ∈ s.foldl joinRg out, RgIn x := by
    intro s
    induction s with
    | nil => intro out _ h; exact h
    | cons r s ih => intro out h1 h2; exact ih _ (fun x hx => h1 x (List.mem_cons_of_mem _ hx)) (joinRg_in h2 (h1 r (List.mem_cons_self)))
  exact h' s [] h (by simp)
theorem clipped_in (rs : List Rg) : ∀ x ∈ clipped rs, RgIn x := by
  intro x hx
  unfold clipped at hx
  rw [List.mem_filter] at hx
  obtain ⟨h1, h2⟩ := hx
  obtain ⟨r, _, rfl⟩ := List.mem_map.1 h1
  simp only [decide_eq_true_eq] at h2
  unfold RgIn
  refine ⟨?_, h2, ?_⟩ <;> simp only [Rg.clip] <;> omega
theorem clipped_len (rs : List Rg) : (clipped rs).length ≤ rs.length := by
  unfold clipped
  exact Nat.le_trans (List.length_filter_le _ _) (by simp)
theorem clipped_snoc (rs : List Rg) (r : Rg) : clipped (rs ++ [r]) = clipped rs ++ (if r.clip.lo ≤ r.clip.hi then [r.clip] else []) := by
  unfold clipped
  rw [List.map_append, List.filter_append]
  congr 1
  simp only [List.map_cons, List.map_nil, List.filter_cons, List.filter_nil]
  by_cases h : r.clip.lo ≤ r.clip.hi <;> simp [h]
theorem rgs_get (rs : List Rg) (j : Nat) (hj : j < rs.length) : (rs.flatMap rgCells)[j * 2]? = some (.int .i64 rs[j].lo) ∧ (rs.flatMap rgCells)[j * 2 + 1]? = some (.int .i64 rs[j].hi) := by
  induction rs generalizing j with
  | nil => simp at hj
  | cons r rs ih =>
    cases j with
    | zero => exact ⟨rfl, rfl⟩
    | succ j =>
      have := ih j (by simpa using hj)
      have e1 : (r :: rs).flatMap rgCells = .int .i64 r.lo :: .int .i64 r.hi :: rs.flatMap rgCells := rfl
      rw [e1, show (j + 1) * 2 = j * 2 + 2 by omega]
      exact this
theorem slRange : SlT Tryz.prog 26 37 2 16 := ⟨Tryz.underlying26, by kernel_rfl, by decide, by decide⟩
theorem rgs_snoc (rs : List Rg) (r : Rg) : (rs ++ [r]).flatMap rgCells = rs.flatMap rgCells ++ [.int .i64 r.lo, .int .i64 r.hi] := by rw [List.flatMap_append]; rfl

def RgsAt (w : World) (base : Nat) (v : Value) (rs : List Rg) : Prop := w.ownsRow base 37 2 v rs.length (rs.flatMap rgCells)
def MakeSaid (rs : List Rg) (w : World) (e : Ending) (w' : World) : Prop :=
  ∃ v s, e = .returned v ∧ s.Perm (clipped rs) ∧ s.Pairwise (fun a b => a.lo ≤ b.lo) ∧ RgsAt w' w.heap.size v (joinAll s) ∧ Below w.heap.size w w'
set_option maxRecDepth 100000 in
set_option maxHeartbeats 600000 in
theorem make_walk (rs : List Rg) (base : Nat) (v : Value) (w : World) (h : RgsAt w base v rs) (hl : rs.length ≤ 1200000) :
    Calls Tryz.prog 33 #[v] w (MakeSaid rs w) := by
  unfold RgsAt at h
  have H := Lib.hid h
  obtain ⟨A, c, rfl⟩ := own_slice h
  clear h
  go_enter Tryz.func33, Tryz.ntmps33
  go_wp2_with fail
  go_loopw [3, 12] (fun v i wr => ∃ k : Nat, k ≤ rs.length ∧ i = .int .i64 k ∧ Hid (wr.ownsRow w.heap.size 37 2 v (clipped (rs.take k)).length ((clipped (rs.take k)).flatMap rgCells)) ∧ Below w.heap.size w wr) (fun _ i _ => rs.length - (intOf i).toNat)
  case atStart => exact ⟨0, by omega, rfl, World.ownsRow_nil _ _ _ _, Below.refl _ _⟩
  case round =>
    obtain ⟨k, hk, rfl, hR, hB⟩ := hrel
    by_cases hlt : k < rs.length
    · have hrow := own_below H.out hB
      obtain ⟨g, cap, e, _, _, _, _⟩ := own_form hrow (by omega)
      cases e
      obtain ⟨r, hr⟩ : ∃ r, r = rs[k] := ⟨_, rfl⟩
      obtain ⟨g0, g1⟩ := rgs_get rs k hlt
      rw [← hr] at g0 g1
      have c0 := own_cell hrow _ _ g0
      have c1 := own_cell hrow _ _ g1
      have hsn : clipped (rs.take (k + 1)) = clipped (rs.take k) ++ (if r.clip.lo ≤ r.clip.hi then [r.clip] else []) := by rw [List.take_succ_eq_append_getElem hlt, clipped_snoc, hr]
      have Hsn := Lib.hid hsn
      clear hr g0 g1 hrow hsn
      by_cases hc : max r.lo 0 ≤ min r.hi 1114111
      · obtain ⟨X, hX⟩ : ∃ X, X = Obj.cells #[Value.int IntKind.i64 (max r.lo 0), Value.int IntKind.i64 (min r.hi 1114111)] 37 := ⟨_, rfl⟩
        have HR2 := Lib.hid (own_below (own_below hR.out (alloc_below wr X)) (alloc_below (wr.alloc X) X))
        have HB2 := Lib.hid ((hB.alloc hB.size X).alloc (by rw [size_new]; have := hB.size; omega) X)
        have hnews : ∀ j u, [Value.int IntKind.i64 (max r.lo 0), Value.int IntKind.i64 (min r.hi 1114111)][j]? = some u → ((wr.alloc X).alloc X).cell? ((⟨wr.heap.size + 1, 0, none⟩ : Addr).add j) = some u := fun j u hu => by
          have h1 := row_new (wr.alloc X) X
          rw [size_new, hX] at h1
          rw [add_plain, Nat.zero_add, hX, (cells_of_row h1).1 j]
          simpa using hu
        have hcl := clipped_len (rs.take k)
        rw [List.length_take] at hcl
        have hbytes : ((clipped (rs.take k)).length + 1) * 16 ≤ 140737488355328 := by omega
        rw [hX] at HR2 HB2 hnews
        have Hnews := Lib.hid hnews
        have Hsn2 : Hid (clipped (rs.take (k + 1)) = clipped (rs.take k) ++ [⟨max r.lo 0, min r.hi 1114111⟩]) := by
          show _ = _
          rw [Hsn.out, if_pos (show r.clip.lo ≤ r.clip.hi from hc)]
          rfl
        clear hX hnews hR hB Hsn hcl
        go_wp2_with (at_builtin; refine wp_append _ slRange rfl (.tmp 29) (.tmp 31) rfl w.heap.size u3 _ _ rfl (by exact HR2.out) ⟨wr.heap.size + 1, 0, none⟩ 1 1 [.int .i64 (max r.lo 0), .int .i64 (min r.hi 1114111)] rfl rfl (by exact Hnews.out) (by simp [Value.oneCell']) hbytes (by exact HB2.out.size) ?_; intro v5 w5 hown5 hg5 _ _; have hb5 := HB2.out.grown hg5 HB2.out.size (fun k hk => (own_lt HR2.out k hk).1); clear hg5)
        go_roundw
        case rel => exact ⟨k + 1, by omega, by go_num, by
          show _
          rw [Hsn2.out, rgs_snoc, List.length_append]
          exact hown5, hb5⟩
        case measure => simp [intOf]; omega
      · have hc' : decide (max r.lo 0 ≤ min r.hi 1114111) = false := by simpa using hc
        have Hsn2 : Hid (clipped (rs.take (k + 1)) = clipped (rs.take k)) := by
          show _ = _
          rw [Hsn.out, if_neg (show ¬ r.clip.lo ≤ r.clip.hi from hc), List.append_nil]
        clear Hsn
        go_wp2_with fail
        go_roundw
        case rel => exact ⟨k + 1, by omega, by go_num, by
          show _
          rw [Hsn2.out]
          exact own_below hR.out (alloc_below _ _), hB.alloc hB.size _⟩
        case measure => simp [intOf]; omega
    · obtain rfl : k = rs.length := by omega
      have hR1 := hR.out
      rw [List.take_length] at hR1
      have hcl := clipped_len rs
      have hsw := sort_walk hR1 (by omega)
      have HS := Lib.hid hsw
      have HR1 := Lib.hid hR1
      clear hR1 hsw hR
      go_wp2_with fail
      refine HS.out.mono ?_
      rintro e w1 ⟨rfl, s, hp, hpw, hrow, hg1⟩
      have hB1 : Below w.heap.size w w1 := hB.grown hg1 hB.size (fun k hk => (own_lt HR1.out k hk).1)
      have hin : ∀ x ∈ s, RgIn x := fun x hx => clipped_in rs x (hp.mem_iff.1 hx)
      have hsl : s.length ≤ 1200000 := by rw [hp.length_eq]; omega
      have Hrow := Lib.hid hrow
      have Hp := Lib.hid hp
      have Hpw := Lib.hid hpw
      have Hin := Lib.hid hin
      obtain ⟨A3, c3, rfl⟩ := own_slice hrow
      clear hrow hp hpw hin HS HR1 hg1 hB hcl H hlt hk
      go_wp2_with fail
      go_loopw [6, 38] (fun v i wr => ∃ q : Nat, q ≤ s.length ∧ i = .int .i64 q ∧ Hid (wr.ownsRow w1.heap.size 37 2 v (joinAll (s.take q)).length ((joinAll (s.take q)).flatMap rgCells)) ∧ Below w1.heap.size w1 wr) (fun _ i _ => s.length - (intOf i).toNat)
      case atStart => exact ⟨0, by omega, rfl, World.ownsRow_nil _ _ _ _, Below.refl _ _⟩
      case round =>
        obtain ⟨q, hq, rfl, hR, hB⟩ := hrel
        by_cases hlt : q < s.length
        · have hrow := own_below Hrow.out hB
          obtain ⟨g, cap, e, _, _, _, _⟩ := own_form hrow (by omega)
          cases e
          obtain ⟨r, hr⟩ : ∃ r, r = s[q] := ⟨_, rfl⟩
          obtain ⟨g0, g1⟩ := rgs_get s q hlt
          rw [← hr] at g0 g1
          have c0 := own_cell hrow _ _ g0
          have c1 := own_cell hrow _ _ g1
          obtain ⟨r1, r2, r3⟩ := Hin.out s[q] (List.getElem_mem _)
          rw [← hr] at r1 r2 r3
          have Hsn := Lib.hid (show joinAll (s.take (q + 1)) = joinRg (joinAll (s.take q)) r by rw [List.take_succ_eq_append_getElem hlt, joinAll_snoc, hr])
          have hol := joinAll_len (s.take q)
          rw [List.length_take] at hol
          have Hoi := Lib.hid (joinAll_in (s := s.take q) (fun x hx => Hin.out x (List.mem_of_mem_take hx)))
          clear hr g0 g1 hrow
          generalize joinAll (s.take q) = out at *
          obtain ⟨A6, c6, rfl⟩ := own_slice hR.out
          rcases List.eq_nil_or_concat out with rfl | ⟨o', l, rfl⟩
          · have Hsn2 : Hid (joinAll (s.take (q + 1)) = [] ++ [r]) := by
              show _ = _
              rw [Hsn.out]
              rfl
            obtain ⟨W2, hW2⟩ : ∃ W2, W2 = wr.alloc (Obj.cells #[Value.int IntKind.i64 r.lo, Value.int IntKind.i64 r.hi] 37) := ⟨_, rfl⟩
            have hb2 : Below wr.heap.size wr W2 := by rw [hW2]; exact alloc_below _ _
            have hrow2 : Blk W2 wr.heap.size 37 #[Value.int IntKind.i64 r.lo, Value.int IntKind.i64 r.hi] := by rw [hW2]; exact row_new _ _
            simp only [List.length_nil] at *
            go_wp2_with fail
            rw [← hW2]
            clear hW2
            go_quiet (fail)
            simp only [Exit.then]
            obtain ⟨Wd, hWd⟩ : ∃ Wd, Wd = W2.drewN nq := ⟨_, rfl⟩
            have hb3 : Below W2.heap.size W2 Wd := by rw [hWd]; exact below_drewN _ _
            rw [← hWd]
            clear hWd
            have hrd := hrow2.below hb3
            have hRd := Lib.hid (own_below (own_below (own_below hR.out hb2) hb3) (alloc_below Wd (Obj.cells #[Value.int IntKind.i64 r.lo, Value.int IntKind.i64 r.hi] 37)))
            have hBd := hB.trans ((hb2.trans (hb3.mono hb2.size)).mono hB.size)
            have HBd := Lib.hid (hBd.alloc hBd.size (Obj.cells #[Value.int IntKind.i64 r.lo, Value.int IntKind.i64 r.hi] 37))
            have d0 : Wd.cell? ⟨wr.heap.size, 0, none⟩ = some (.int .i64 r.lo) := hrd.cell 0
            have d1 : Wd.cell? ⟨wr.heap.size, 1, none⟩ = some (.int .i64 r.hi) := hrd.cell 1
            have hnews : ∀ j u, [Value.int IntKind.i64 r.lo, Value.int IntKind.i64 r.hi][j]? = some u → (Wd.alloc (Obj.cells #[Value.int IntKind.i64 r.lo, Value.int IntKind.i64 r.hi] 37)).cell? ((⟨Wd.heap.size, 0, none⟩ : Addr).add j) = some u := fun j u hu => by
              rw [add_plain, Nat.zero_add, (cells_of_row (row_new Wd _)).1 j]
              simpa using hu
            have Hnews := Lib.hid hnews
            have hbytes : (0 + 1) * 16 ≤ 140737488355328 := by omega
            clear hrd hBd hnews hR hB hb2 hb3 hrow2
            go_wp2_with (at_builtin; refine wp_append _ slRange rfl (.tmp 72) (.tmp 74) rfl w1.heap.size (.slice A6 _ c6) _ _ rfl (by exact hRd.out) ⟨Wd.heap.size, 0, none⟩ 1 1 [.int .i64 r.lo, .int .i64 r.hi] rfl rfl (by exact Hnews.out) (by simp [Value.oneCell']) hbytes (by exact HBd.out.size) ?_; intro v5 w5 hown5 hg5 _ _; have hb5 := HBd.out.grown hg5 HBd.out.size (fun k hk => (own_lt hRd.out k hk).1); clear hg5)
            go_roundw
            case rel => exact ⟨q + 1, by omega, by go_num, by
              show _
              rw [Hsn2.out, rgs_snoc, List.length_append]
              exact hown5, hb5⟩
            case measure => simp [intOf]; omega
          · obtain ⟨l1, l2, l3⟩ := Hoi.out l (by simp)
            obtain ⟨m, hm⟩ : ∃ m, m = o'.length := ⟨_, rfl⟩
            have hol2 : m + 1 ≤ 1200000 := by simp at hol; omega
            have e0 : (o'.concat l).length = m + 1 := by simp [hm]
            have Hr := Lib.hid (own_below hR.out (Below.refl _ _))
            obtain ⟨g6, cap6, e, hg1, hg2, hg3, hg4⟩ := own_form hR.out (by rw [e0]; omega)
            cases e
            have hl0 := rgs_get (o'.concat l) m (by omega)
            have hgl : (o'.concat l)[m]'(by omega) = l := by subst hm; simp
            rw [hgl] at hl0
            rw [e0] at *
            obtain ⟨W2, hW2⟩ : ∃ W2, W2 = wr.alloc (Obj.cells #[Value.int IntKind.i64 r.lo, Value.int IntKind.i64 r.hi] 37) := ⟨_, rfl⟩
            have hb2 : Below wr.heap.size wr W2 := by rw [hW2]; exact alloc_below _ _
            have hrow2 : Blk W2 wr.heap.size 37 #[Value.int IntKind.i64 r.lo, Value.int IntKind.i64 r.hi] := by rw [hW2]; exact row_new _ _
            have Hro := Lib.hid (own_below hR.out hb2)
            have x1 := own_cell Hro.out _ _ hl0.2
            clear hl0 hgl
            subst hm
            have y0 : W2.cell? ⟨wr.heap.size, 0, none⟩ = some (.int .i64 r.lo) := hrow2.cell 0
            by_cases hle : r.lo ≤ l.hi + 1
            · have Hsn2 := Lib.hid (show joinAll (s.take (q + 1)) = o' ++ [⟨l.lo, max l.hi r.hi⟩] by
                rw [Hsn.out]
                unfold joinRg
                simp [hle])
              go_wp2_with fail
              rw [← hW2]
              clear hW2
              go_quiet (fail)
              simp only [Exit.then]
              obtain ⟨Wd, hWd⟩ : ∃ Wd, Wd = W2.drewN nq := ⟨_, rfl⟩
              have hb3 : Below W2.heap.size W2 Wd := by rw [hWd]; exact below_drewN _ _
              rw [← hWd]
              clear hWd
              have d1 : Wd.cell? ⟨wr.heap.size, 1, none⟩ = some (.int .i64 r.hi) := (hrow2.below hb3).cell 1
              have hRd := own_below (own_below hR.out hb2) hb3
              have x2 : Wd.cell? ⟨g6, o'.length * 2 + 1, none⟩ = some (.int .i64 l.hi) := (hb3.cell (p := ⟨_, _, _⟩) (by have := hb2.size; simp; omega)).trans x1
              have x3 := own_free hRd (o'.length * 2 + 1)
              have HRd := Lib.hid hRd
              have hBd := Lib.hid (hB.trans ((hb2.trans (hb3.mono hb2.size)).mono hB.size))
              clear hRd hR hB hb2 hb3 hrow2 x1 y0
              go_wp2_with fail
              have z1 : Wd.drew.cell? ⟨wr.heap.size, 1, none⟩ = some (.int .i64 r.hi) := d1
              have z2 : Wd.drew.cell? ⟨g6, o'.length * 2 + 1, none⟩ = some (.int .i64 l.hi) := x2
              have b1 : IntKind.i64.wrap (o'.length : Int) = (o'.length : Int) := by rw [IntKind.wrap_i64]; omega
              have b2 : (o'.length : Int) < (o'.length : Int) + 1 := by omega
              go_still_tail 14, (by kernel_rfl)
              change wpList _ _ _ _ _ Wd.drew
              have HRe := Lib.hid (own_set (j := o'.length * 2 + 1) (u := .int .i64 (max l.hi r.hi)) (own_below HRd.out (below_drewN Wd 1)) (by omega))
              have HBe := Lib.hid ((hBd.out.trans ((below_drewN Wd 1).mono hBd.out.size)).setCell (p := ⟨g6, o'.length * 2 + 1, none⟩) hg1 (.int .i64 (max l.hi r.hi)))
              have f3 : Wd.drew.frozen? ⟨g6, o'.length * 2 + 1, none⟩ = false := x3
              rw [show Wd.drewN 1 = Wd.drew from rfl] at HRe HBe
              have Hst := Lib.hid (show ((o'.concat l).flatMap rgCells).set (o'.length * 2 + 1) (.int .i64 (max l.hi r.hi)) = (o' ++ [(⟨l.lo, max l.hi r.hi⟩ : Rg)]).flatMap rgCells by rw [List.concat_eq_append, rgs_set])
              generalize Wd.drew = We at *
              clear x2 x3 d1 z1 HRd hBd Hro Hr
              go_wp2_with fail
              go_roundw
              case rel => exact ⟨q + 1, by omega, by go_num, by
                show _
                rw [Hsn2.out, ← Hst.out, List.length_append]
                exact HRe.out, HBe.out⟩
              case measure => simp [intOf]; omega
            · have hle' : decide (r.lo ≤ l.hi + 1) = false := by simpa using hle
              have Hsn2 := Lib.hid (show joinAll (s.take (q + 1)) = (o'.concat l) ++ [r] by
                rw [Hsn.out]
                unfold joinRg
                simp [hle])
              go_wp2_with fail
              rw [← hW2]
              clear hW2
              go_quiet (fail)
              simp only [Exit.then]
              obtain ⟨Wd, hWd⟩ : ∃ Wd, Wd = W2.drewN nq := ⟨_, rfl⟩
              have hb3 : Below W2.heap.size W2 Wd := by rw [hWd]; exact below_drewN _ _
              rw [← hWd]
              clear hWd
              have hrd := hrow2.below hb3
              have hRd := Lib.hid (own_below (own_below (own_below hR.out hb2) hb3) (alloc_below Wd (Obj.cells #[Value.int IntKind.i64 r.lo, Value.int IntKind.i64 r.hi] 37)))
              have hBd := hB.trans ((hb2.trans (hb3.mono hb2.size)).mono hB.size)
              have HBd := Lib.hid (hBd.alloc hBd.size (Obj.cells #[Value.int IntKind.i64 r.lo, Value.int IntKind.i64 r.hi] 37))
              have d0 : Wd.cell? ⟨wr.heap.size, 0, none⟩ = some (.int .i64 r.lo) := hrd.cell 0
              have d1 : Wd.cell? ⟨wr.heap.size, 1, none⟩ = some (.int .i64 r.hi) := hrd.cell 1
              have hnews : ∀ j u, [Value.int IntKind.i64 r.lo, Value.int IntKind.i64 r.hi][j]? = some u → (Wd.alloc (Obj.cells #[Value.int IntKind.i64 r.lo, Value.int IntKind.i64 r.hi] 37)).cell? ((⟨Wd.heap.size, 0, none⟩ : Addr).add j) = some u := fun j u hu => by
                rw [add_plain, Nat.zero_add, (cells_of_row (row_new Wd _)).1 j]
                simpa using hu
              have Hnews := Lib.hid hnews
              have hbytes : (o'.length + 1 + 1) * 16 ≤ 140737488355328 := by omega
              clear hrd hBd hnews hR hB hb2 hb3 hrow2 x1 y0 Hro Hr
              go_wp2_with (at_builtin; refine wp_append _ slRange rfl (.tmp 72) (.tmp 74) rfl w1.heap.size (.slice (some ⟨g6, 0, none⟩) _ c6) _ _ rfl (by exact hRd.out) ⟨Wd.heap.size, 0, none⟩ 1 1 [.int .i64 r.lo, .int .i64 r.hi] rfl rfl (by exact Hnews.out) (by simp [Value.oneCell']) hbytes (by exact HBd.out.size) ?_; intro v5 w5 hown5 hg5 _ _; have hb5 := HBd.out.grown hg5 HBd.out.size (fun k hk => (own_lt hRd.out k hk).1); clear hg5)
              go_roundw
              case rel => exact ⟨q + 1, by omega, by go_num, by
                show _
                rw [Hsn2.out, rgs_snoc, List.length_append, List.length_concat]
                exact hown5, hb5⟩
              case measure => simp [intOf]; omega
        · obtain rfl : q = s.length := by omega
          have hfin : MakeSaid rs w (.returned u6) wr := by
            have hR1 := hR.out
            rw [List.take_length] at hR1
            exact ⟨u6, s, rfl, Hp.out, Hpw.out, own_base hR1 hB1.size, hB1.trans (hB.mono hB1.size)⟩
          clear hR Hrow Hin Hp Hpw
          go_wp2_with fail
          go_ret
          exact hfin
end Go.Proofs.YtchkckfadennhaaGreatDoor
