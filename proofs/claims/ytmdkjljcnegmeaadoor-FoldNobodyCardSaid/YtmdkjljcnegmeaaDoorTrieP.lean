/- A trie in two stages, in plain words: what filling a block's code points leaves. No program stands here. -/
import Derived.Test.YtmdkjljcnegmeaaDoorBase
namespace Go.Proofs.YtmdkjljcnegmeaaDoor
set_option linter.unusedVariables false

def rep (v : Int) : List Int := List.replicate 256 v
theorem rep_len (v : Int) : (rep v).length = 256 := List.length_replicate
theorem rep_get (v : Int) (j : Nat) (hj : j < 256) : (rep v).getD j 0 = v := by
  unfold rep
  rw [List.getD_eq_getElem?_getD, List.getElem?_replicate, if_pos hj]
  rfl
theorem rep_mem {v x : Int} (h : x ∈ rep v) : x = v := (List.mem_replicate.1 h).2
structure TS where
  first : Int → Option Int
  whole : Int → Option Int
  blocks : List (List Int)
namespace TS
def idx (t : TS) (b : Int) : Int := (t.first b).getD 0
def blk (t : TS) (k : Int) : List Int := t.blocks.getD k.toNat []
def cell (t : TS) (k : Int) (j : Nat) : Int := (t.blk k).getD j 0
def cur (t : TS) (r : Int) : Int := t.cell (t.idx (r / 256)) (r % 256).toNat
def shared (t : TS) (k : Int) : Bool := t.whole (t.cell k 0) == some k
structure Inv (t : TS) (nv : Nat) : Prop where
  pos : 0 < t.blocks.length
  len : ∀ c ∈ t.blocks, c.length = 256
  fst : ∀ b k, t.first b = some k → 0 ≤ k ∧ k < t.blocks.length
  who : ∀ v k, t.whole v = some k → 0 ≤ k ∧ k < t.blocks.length ∧ ∀ j, j < 256 → t.cell k j = v
  none0 : t.whole (-1) = some 0
  excl : ∀ b b', b ≠ b' → t.idx b = t.idx b' → t.shared (t.idx b) = true
  vals : ∀ c ∈ t.blocks, ∀ x ∈ c, -1 ≤ x ∧ x < nv
theorem Inv.idx_lt {t : TS} {nv : Nat} (h : t.Inv nv) (b : Int) : 0 ≤ t.idx b ∧ t.idx b < t.blocks.length := by
  unfold idx
  cases hb : t.first b with
  | none => have := h.pos; simp; omega
  | some k => exact h.fst b k hb
/-- The new block for b. -/
def setFirst (t : TS) (b k : Int) : TS := { t with first := fun x => if x = b then some k else t.first x }
def push (t : TS) (c : List Int) : TS := { t with blocks := t.blocks ++ [c] }
def setWhole (t : TS) (v k : Int) : TS := { t with whole := fun x => if x = v then some k else t.whole x }
/-- Block k has v from place i to below place j. -/
def setRange (t : TS) (k : Nat) (i j : Nat) (v : Int) : TS := { t with blocks := t.blocks.modify k fun c => c.mapIdx fun n x => if i ≤ n ∧ n < j then v else x }

theorem idx_setFirst (t : TS) (b k x : Int) : (t.setFirst b k).idx x = if x = b then k else t.idx x := by
  unfold idx setFirst
  simp only
  split <;> rfl
theorem blk_push (t : TS) (c : List Int) (k : Int) (hk : 0 ≤ k) : (t.push c).blk k = if k < t.blocks.length then t.blk k else if k = t.blocks.length then c else [] := by
  unfold blk push
  simp only [List.getD_eq_getElem?_getD, List.getElem?_append]
  split
  · rw [if_pos (by omega)]
  · rename_i h
    rw [if_neg (by omega)]
    split
    · rename_i h2
      have : k.toNat - t.blocks.length = 0 := by omega
      rw [this]; rfl
    · have : ∃ m, k.toNat - t.blocks.length = m + 1 := ⟨k.toNat - t.blocks.length - 1, by omega⟩
      obtain ⟨m, hm⟩ := this
      rw [hm]; rfl

/-- The whole block is known: b takes it. -/
theorem fillA {t : TS} {nv : Nat} (h : t.Inv nv) {b v k : Int} (hk : t.whole v = some k) :
    (t.setFirst b k).Inv nv ∧ ∀ r, (t.setFirst b k).cur r = if r / 256 = b then v else t.cur r := by
  obtain ⟨h1, h2, h3⟩ := h.who v k hk
  have hsh : t.shared k = true := by unfold shared; rw [h3 0 (by omega), hk]; simp
  refine ⟨⟨h.pos, h.len, fun x y hxy => ?_, h.who, h.none0, fun x y hne he => ?_, h.vals⟩, fun r => ?_⟩
  · unfold setFirst at hxy
    simp only at hxy
    split at hxy
    · cases hxy; exact ⟨h1, h2⟩
    · exact h.fst x y hxy
  · show t.shared _ = true
    rw [idx_setFirst, idx_setFirst] at he
    rw [idx_setFirst]
    by_cases hx : x = b
    · rw [if_pos hx]; exact hsh
    · rw [if_neg hx] at he ⊢
      by_cases hy : y = b
      · rw [if_pos hy] at he; rw [he]; exact hsh
      · rw [if_neg hy] at he; exact h.excl x y hne he
  · unfold cur
    rw [idx_setFirst]
    split
    · exact h3 _ (by omega)
    · rfl
/-- The whole block is new. -/
theorem fillB {t : TS} {nv : Nat} (h : t.Inv nv) {b v : Int} (hk : t.whole v = none) (hv : -1 ≤ v ∧ v < nv) :
    (((t.push (rep v)).setWhole v t.blocks.length).setFirst b t.blocks.length).Inv nv ∧ ∀ r, (((t.push (rep v)).setWhole v t.blocks.length).setFirst b t.blocks.length).cur r = if r / 256 = b then v else t.cur r := by
  have hcell : ∀ k j, 0 ≤ k → (((t.push (rep v)).setWhole v t.blocks.length).setFirst b t.blocks.length).cell k j = if k < t.blocks.length then t.cell k j else if k = t.blocks.length then (rep v).getD j 0 else 0 := by
    intro k j hk
    show ((t.push (rep v)).blk k).getD j 0 = _
    rw [blk_push t _ k hk]
    unfold cell
    split
    · rfl
    · split
      · rfl
      · rfl
  have hidx : ∀ x, (((t.push (rep v)).setWhole v t.blocks.length).setFirst b t.blocks.length).idx x = if x = b then (t.blocks.length : Int) else t.idx x := fun x => idx_setFirst _ _ _ _
  have hnew : ∀ j, j < 256 → (rep v).getD j 0 = v := fun j hj => rep_get v j hj
  have hsh : ∀ k : Int, 0 ≤ k → k < t.blocks.length → t.shared k = true → (((t.push (rep v)).setWhole v t.blocks.length).setFirst b t.blocks.length).shared k = true := by
    intro k hk0 hk1 hs
    unfold shared at hs ⊢
    rw [hcell k 0 hk0, if_pos hk1]
    show (if t.cell k 0 = v then some (t.blocks.length : Int) else t.whole (t.cell k 0)) == some k
    split
    · rename_i e
      rw [e, hk] at hs
      simp at hs
    · exact hs
  refine ⟨⟨by show 0 < (t.blocks ++ [_]).length; simp, fun c hc => ?_, fun x y hxy => ?_, fun x y hxy => ?_, ?_, fun x y hne he => ?_, fun c hc => ?_⟩, fun r => ?_⟩
  · rcases List.mem_append.1 hc with hc | hc
    · exact h.len c hc
    · rw [List.mem_singleton] at hc; subst hc; exact rep_len v
  · have hl : (((t.push (rep v)).setWhole v t.blocks.length).setFirst b t.blocks.length).blocks.length = t.blocks.length + 1 := by show (t.blocks ++ [_]).length = _; simp
    rw [hl]
    have hxy' : (if x = b then some (t.blocks.length : Int) else t.first x) = some y := hxy
    split at hxy'
    · cases hxy'; omega
    · have := h.fst x y hxy'; omega
  · have hl : (((t.push (rep v)).setWhole v t.blocks.length).setFirst b t.blocks.length).blocks.length = t.blocks.length + 1 := by show (t.blocks ++ [_]).length = _; simp
    rw [hl]
    have hxy' : (if x = v then some (t.blocks.length : Int) else t.whole x) = some y := hxy
    split at hxy'
    · rename_i e
      cases hxy'
      refine ⟨by omega, by omega, fun j hj => ?_⟩
      rw [hcell _ j (by omega), if_neg (by omega), if_pos rfl, hnew j hj, e]
    · obtain ⟨h1, h2, h3⟩ := h.who x y hxy'
      exact ⟨h1, by omega, fun j hj => by rw [hcell y j h1, if_pos h2]; exact h3 j hj⟩
  · show (if (-1 : Int) = v then some (t.blocks.length : Int) else t.whole (-1)) = some 0
    rw [if_neg (fun e => by rw [← e, h.none0] at hk; cases hk)]
    exact h.none0
  · rw [hidx, hidx] at he
    rw [hidx]
    have hx := h.idx_lt x
    have hy := h.idx_lt y
    by_cases e1 : x = b
    · rw [if_pos e1] at he
      have e2 : ¬ y = b := fun e => hne (e1.trans e.symm)
      rw [if_neg e2] at he
      omega
    · rw [if_neg e1] at he ⊢
      by_cases e2 : y = b
      · rw [if_pos e2] at he; omega
      · rw [if_neg e2] at he
        exact hsh _ hx.1 hx.2 (h.excl x y hne he)
  · rcases List.mem_append.1 hc with hc | hc
    · exact h.vals c hc
    · rw [List.mem_singleton] at hc; subst hc
      intro x hx
      rw [rep_mem hx]; exact hv
  · unfold cur
    rw [hidx]
    split
    · rw [hcell _ _ (by omega), if_neg (by omega), if_pos rfl]
      exact hnew _ (by omega)
    · have hx := h.idx_lt (r / 256)
      rw [hcell _ _ hx.1, if_pos hx.2]
/-- b's block is shared: b takes a copy, alone. -/
theorem fillC {t : TS} {nv : Nat} (h : t.Inv nv) {b : Int} (hs : t.shared (t.idx b) = true) :
    ((t.push (t.blk (t.idx b))).setFirst b t.blocks.length).Inv nv ∧ (∀ r, ((t.push (t.blk (t.idx b))).setFirst b t.blocks.length).cur r = t.cur r) ∧ ((t.push (t.blk (t.idx b))).setFirst b t.blocks.length).shared t.blocks.length = false := by
  have hb := h.idx_lt b
  have hcell : ∀ k j, 0 ≤ k → ((t.push (t.blk (t.idx b))).setFirst b t.blocks.length).cell k j = if k < t.blocks.length then t.cell k j else if k = t.blocks.length then t.cell (t.idx b) j else 0 := by
    intro k j hk
    show ((t.push (t.blk (t.idx b))).blk k).getD j 0 = _
    rw [blk_push t _ k hk]
    unfold cell
    split
    · rfl
    · split
      · rfl
      · rfl
  have hidx : ∀ x, ((t.push (t.blk (t.idx b))).setFirst b t.blocks.length).idx x = if x = b then (t.blocks.length : Int) else t.idx x := fun x => idx_setFirst _ _ _ _
  have hmem : t.blk (t.idx b) ∈ t.blocks := by
    unfold blk
    rw [List.getD_eq_getElem?_getD, List.getElem?_eq_getElem (by omega)]
    exact List.getElem_mem _
  have hsh : ∀ k : Int, 0 ≤ k → k < t.blocks.length → ((t.push (t.blk (t.idx b))).setFirst b t.blocks.length).shared k = t.shared k := by
    intro k hk0 hk1
    unfold shared
    rw [hcell k 0 hk0, if_pos hk1]
    rfl
  refine ⟨⟨by show 0 < (t.blocks ++ [_]).length; simp, fun c hc => ?_, fun x y hxy => ?_, fun x y hxy => ?_, h.none0, fun x y hne he => ?_, fun c hc => ?_⟩, fun r => ?_, ?_⟩
  · rcases List.mem_append.1 hc with hc | hc
    · exact h.len c hc
    · simp at hc; subst hc; exact h.len _ hmem
  · have hl : ((t.push (t.blk (t.idx b))).setFirst b t.blocks.length).blocks.length = t.blocks.length + 1 := by show (t.blocks ++ [_]).length = _; simp
    rw [hl]
    have hxy' : (if x = b then some (t.blocks.length : Int) else t.first x) = some y := hxy
    split at hxy'
    · cases hxy'; omega
    · have := h.fst x y hxy'; omega
  · have hl : ((t.push (t.blk (t.idx b))).setFirst b t.blocks.length).blocks.length = t.blocks.length + 1 := by show (t.blocks ++ [_]).length = _; simp
    rw [hl]
    obtain ⟨h1, h2, h3⟩ := h.who x y hxy
    exact ⟨h1, by omega, fun j hj => by rw [hcell y j h1, if_pos h2]; exact h3 j hj⟩
  · rw [hidx, hidx] at he
    rw [hidx]
    have hx := h.idx_lt x
    have hy := h.idx_lt y
    by_cases e1 : x = b
    · rw [if_pos e1] at he
      have e2 : ¬ y = b := fun e => hne (e1.trans e.symm)
      rw [if_neg e2] at he
      omega
    · rw [if_neg e1] at he ⊢
      by_cases e2 : y = b
      · rw [if_pos e2] at he; omega
      · rw [if_neg e2] at he
        rw [hsh _ hx.1 hx.2]
        exact h.excl x y hne he
  · rcases List.mem_append.1 hc with hc | hc
    · exact h.vals c hc
    · simp at hc; subst hc; exact h.vals _ hmem
  · unfold cur
    rw [hidx]
    split
    · rename_i e
      rw [hcell _ _ (by omega), if_neg (by omega), if_pos rfl, e]
    · have hx := h.idx_lt (r / 256)
      rw [hcell _ _ hx.1, if_pos hx.2]
  · unfold shared at hs ⊢
    rw [hcell _ _ (by omega), if_neg (by omega), if_pos rfl]
    show (t.whole (t.cell (t.idx b) 0) == some (t.blocks.length : Int)) = false
    rw [beq_iff_eq.1 hs]
    simp; omega
/-- b's block is b's alone: its places from i to below j turn. -/
theorem fillD {t : TS} {nv : Nat} (h : t.Inv nv) {b v : Int} {i j : Nat} (hs : t.shared (t.idx b) = false) (hv : -1 ≤ v ∧ v < nv) :
    (t.setRange (t.idx b).toNat i j v).Inv nv ∧ ∀ r, (t.setRange (t.idx b).toNat i j v).cur r = if r / 256 = b ∧ i ≤ (r % 256).toNat ∧ (r % 256).toNat < j then v else t.cur r := by
  have hb := h.idx_lt b
  have hlen : (t.setRange (t.idx b).toNat i j v).blocks.length = t.blocks.length := by unfold setRange; simp
  have hcell : ∀ (k : Int) (n : Nat), 0 ≤ k → k < t.blocks.length → n < 256 → (t.setRange (t.idx b).toNat i j v).cell k n = if k = t.idx b ∧ i ≤ n ∧ n < j then v else t.cell k n := by
    intro k n hk0 hk1 hn
    unfold cell blk setRange
    simp only [List.getD_eq_getElem?_getD, List.getElem?_modify, Option.map_eq_map]
    have hkt : t.blocks[k.toNat]? = some t.blocks[k.toNat] := List.getElem?_eq_getElem (by omega)
    have hl := h.len t.blocks[k.toNat] (List.getElem_mem _)
    rw [hkt]
    by_cases e : (t.idx b).toNat = k.toNat
    · have e' : k = t.idx b := by omega
      simp only [e, if_true, Option.map_some, Option.getD_some, List.getElem?_mapIdx]
      rw [List.getElem?_eq_getElem (by omega)]
      simp only [Option.map_some, Option.getD_some]
      by_cases c : i ≤ n ∧ n < j
      · rw [if_pos c, if_pos ⟨e', c⟩]
      · rw [if_neg c, if_neg (fun c' => c c'.2)]
    · have e' : ¬ k = t.idx b := fun e2 => e (by rw [e2])
      rw [if_neg (fun c => e' c.1)]
      simp [e]
  have hwho : ∀ x y, t.whole x = some y → y ≠ t.idx b := by
    intro x y hxy e
    obtain ⟨h1, h2, h3⟩ := h.who x y hxy
    unfold shared at hs
    rw [← e, h3 0 (by omega), hxy] at hs
    simp at hs
  have halone : ∀ x, t.idx x = t.idx b → x = b := by
    intro x hx
    by_cases e : x = b
    · exact e
    · have := h.excl x b e hx
      rw [hx, hs] at this
      cases this
  refine ⟨⟨by rw [hlen]; exact h.pos, fun c hc => ?_, fun x y hxy => by rw [hlen]; exact h.fst x y hxy, fun x y hxy => ?_, h.none0, fun x y hne he => ?_, fun c hc => ?_⟩, fun r => ?_⟩
  · unfold setRange at hc
    obtain ⟨n, hn⟩ := List.mem_iff_getElem?.1 hc
    rw [List.getElem?_modify] at hn
    obtain ⟨c0, hc0, he⟩ := Option.map_eq_some_iff.1 hn
    have := h.len c0 (List.mem_iff_getElem?.2 ⟨n, hc0⟩)
    split at he
    · rw [← he]; simpa using this
    · rw [← he]; exact this
  · obtain ⟨h1, h2, h3⟩ := h.who x y hxy
    refine ⟨h1, by rw [hlen]; exact h2, fun n hn => ?_⟩
    rw [hcell y n h1 h2 hn, if_neg (fun c => hwho x y hxy c.1)]
    exact h3 n hn
  · have he' : t.idx x = t.idx y := he
    have hx := h.idx_lt x
    have hxb : t.idx x ≠ t.idx b := fun e => by
      have e1 := halone x e
      have e2 := halone y (he'.symm.trans e)
      exact hne (e1.trans e2.symm)
    have := h.excl x y hne he'
    unfold shared at this ⊢
    show (t.whole ((t.setRange (t.idx b).toNat i j v).cell (t.idx x) 0) == some (t.idx x)) = true
    rw [hcell _ 0 hx.1 hx.2 (by omega), if_neg (fun c => hxb c.1)]
    exact this
  · intro x hx
    unfold setRange at hc
    obtain ⟨n, hn⟩ := List.mem_iff_getElem?.1 hc
    rw [List.getElem?_modify] at hn
    obtain ⟨c0, hc0, he⟩ := Option.map_eq_some_iff.1 hn
    have hv0 := h.vals c0 (List.mem_iff_getElem?.2 ⟨n, hc0⟩)
    split at he
    · rw [← he] at hx
      obtain ⟨m, hm, hm2⟩ := List.mem_mapIdx.1 hx
      split at hm2
      · rw [← hm2]; exact hv
      · rw [← hm2]; exact hv0 _ (List.getElem_mem _)
    · rw [← he] at hx; exact hv0 x hx
  · unfold cur
    have hx := h.idx_lt (r / 256)
    show (t.setRange (t.idx b).toNat i j v).cell (t.idx (r / 256)) (r % 256).toNat = _
    rw [hcell _ _ hx.1 hx.2 (by omega)]
    by_cases e : r / 256 = b
    · rw [e]
      by_cases c : i ≤ (r % 256).toNat ∧ (r % 256).toNat < j
      · rw [if_pos ⟨rfl, c⟩, if_pos ⟨rfl, c⟩]
      · rw [if_neg (fun c' => c c'.2), if_neg (fun c' => c c'.2)]
    · have : t.idx (r / 256) ≠ t.idx b := fun c => e (halone _ c)
      rw [if_neg (fun c' => this c'.1), if_neg (fun c' => e c'.1)]
def flat (bs : List (List Int)) : List Value := bs.flatMap fun c => c.map (Value.int .i32)
theorem flat_length : ∀ (bs : List (List Int)), (∀ c ∈ bs, c.length = 256) → (flat bs).length = bs.length * 256
  | [], _ => rfl
  | c :: bs, h => by
    unfold flat
    rw [List.flatMap_cons, List.length_append, List.length_map, h c (by simp)]
    have := flat_length bs (fun x hx => h x (by simp [hx]))
    unfold flat at this
    rw [this, List.length_cons]
    omega
theorem flat_append (bs cs : List (List Int)) : flat (bs ++ cs) = flat bs ++ flat cs := List.flatMap_append
theorem flat_one (c : List Int) : flat [c] = c.map (Value.int .i32) := by simp [flat]
theorem flat_get : ∀ (bs : List (List Int)), (∀ c ∈ bs, c.length = 256) → ∀ (k n : Nat), n < 256 → (flat bs)[k * 256 + n]? = (bs[k]?).bind fun c => (c[n]?).map (Value.int .i32)
  | [], _, k, n, _ => by simp [flat]
  | c :: bs, h, 0, n, hn => by
    have hc := h c (by simp)
    unfold flat
    rw [List.flatMap_cons, List.getElem?_append_left (by rw [List.length_map, hc]; omega)]
    simp
  | c :: bs, h, k + 1, n, hn => by
    have hc := h c (by simp)
    have ih := flat_get bs (fun x hx => h x (by simp [hx])) k n hn
    unfold flat at ih ⊢
    rw [List.flatMap_cons, List.getElem?_append_right (by rw [List.length_map, hc]; omega), List.length_map, hc, show (k + 1) * 256 + n - 256 = k * 256 + n by omega, ih]
    simp
theorem setRange_len (t : TS) (k i j : Nat) (v : Int) (h : ∀ c ∈ t.blocks, c.length = 256) : ∀ c ∈ (t.setRange k i j v).blocks, c.length = 256 := by
  intro c hc
  unfold setRange at hc
  obtain ⟨n, hn⟩ := List.mem_iff_getElem?.1 hc
  rw [List.getElem?_modify] at hn
  obtain ⟨c0, hc0, he⟩ := Option.map_eq_some_iff.1 hn
  have := h c0 (List.mem_iff_getElem?.2 ⟨n, hc0⟩)
  split at he
  · rw [← he]; simpa using this
  · rw [← he]; exact this
theorem setRange_blocks (t : TS) (k i j : Nat) (v : Int) : (t.setRange k i j v).blocks.length = t.blocks.length := by unfold setRange; simp
theorem setRange_none (t : TS) (k i : Nat) (v : Int) : (t.setRange k i i v).blocks = t.blocks := by
  unfold setRange
  apply List.ext_getElem?
  intro n
  rw [List.getElem?_modify]
  split
  · cases t.blocks[n]? with
    | none => rfl
    | some c =>
      simp only [Option.map_eq_map, Option.map_some, Option.some.injEq]
      apply List.ext_getElem?
      intro x
      rw [List.getElem?_mapIdx]
      have : ¬ (i ≤ x ∧ x < i) := by omega
      simp [this]
  · cases t.blocks[n]? <;> rfl
theorem flat_set (t : TS) (h : ∀ c ∈ t.blocks, c.length = 256) (k i n : Nat) (v : Int) (hk : k < t.blocks.length) (hi : i ≤ n) (hn : n < 256) :
    (flat (t.setRange k i n v).blocks).set (k * 256 + n) (.int .i32 v) = flat (t.setRange k i (n + 1) v).blocks := by
  have l1 := setRange_len t k i n v h
  have l2 := setRange_len t k i (n + 1) v h
  have f1 := flat_length _ l1
  have f2 := flat_length _ l2
  rw [setRange_blocks] at f1 f2
  apply List.ext_getElem?
  intro x
  by_cases hx : x < t.blocks.length * 256
  · obtain ⟨q, r, hr, rfl⟩ : ∃ q r, r < 256 ∧ x = q * 256 + r := ⟨x / 256, x % 256, Nat.mod_lt _ (by omega), by omega⟩
    have hq : q < t.blocks.length := by omega
    rw [List.getElem?_set, flat_get _ l2 q r hr]
    have hc := h t.blocks[q] (List.getElem_mem _)
    have e2 : (t.setRange k i (n + 1) v).blocks[q]? = some (if k = q then t.blocks[q].mapIdx (fun n' x => if i ≤ n' ∧ n' < n + 1 then v else x) else t.blocks[q]) := by
      unfold setRange
      simp only [List.getElem?_modify, List.getElem?_eq_getElem hq]
      split <;> rfl
    have e1 : (t.setRange k i n v).blocks[q]? = some (if k = q then t.blocks[q].mapIdx (fun n' x => if i ≤ n' ∧ n' < n then v else x) else t.blocks[q]) := by
      unfold setRange
      simp only [List.getElem?_modify, List.getElem?_eq_getElem hq]
      split <;> rfl
    rw [e2]
    by_cases e : k * 256 + n = q * 256 + r
    · obtain ⟨rfl, rfl⟩ : k = q ∧ n = r := by omega
      rw [if_pos rfl, if_pos (by omega)]
      simp only [if_true, Option.bind_some, List.getElem?_mapIdx]
      rw [List.getElem?_eq_getElem (by omega)]
      have : i ≤ n ∧ n < n + 1 := by omega
      simp [this]
    · rw [if_neg e, flat_get _ l1 q r hr, e1]
      by_cases hkq : k = q
      · subst hkq
        simp only [if_true, Option.bind_some, List.getElem?_mapIdx]
        have : (i ≤ r ∧ r < n) ↔ (i ≤ r ∧ r < n + 1) := by omega
        simp [this]
      · simp [hkq]
  · rw [List.getElem?_eq_none (by rw [List.length_set]; omega), List.getElem?_eq_none (by omega)]
end TS
end Go.Proofs.YtmdkjljcnegmeaaDoor
