/- cmp.Compare at int; ranges.Make's comparison; the sort of ranges. -/
import Derived.Test.YtmdkjljcnegmeaaDoorShelf2
import Derived.Test.YtmdkjljcnegmeaaDoorSorts
import Derived.Test.YtmdkjljcnegmeaaDoorTrieA
namespace Go.Proofs.YtmdkjljcnegmeaaDoor
open Go.RowKit Go.Sort
set_option linter.unusedVariables false
set_option linter.unusedSimpArgs false

theorem isnan_walk (x : Int) (w : World) : Calls Tryd.prog 71 #[.int .i64 x] w fun e w' => e = .returned (.bool false) ∧ w' = w := by
  go_enter Tryd.func71, Tryd.ntmps71
  go_wp2_with fail
  go_ret
  simp
def cmpI (x y : Int) : Int := if x < y then -1 else if y < x then 1 else 0
set_option maxRecDepth 100000 in
theorem cmp_walk (x y : Int) (w : World) : Calls Tryd.prog 60 #[.int .i64 x, .int .i64 y] w fun e w' => e = .returned (.int .i64 (cmpI x y)) ∧ w' = w := by
  go_enter Tryd.func60, Tryd.ntmps60
  go_wp2_with fail
  refine (isnan_walk x w).mono ?_
  rintro e w' ⟨rfl, rfl⟩
  go_wp2_with fail
  refine (isnan_walk y w').mono ?_
  rintro e w2 ⟨rfl, rfl⟩
  by_cases h1 : x < y
  · go_wp2_with fail
    go_ret
    simp [cmpI, h1]
  · by_cases h2 : y < x
    · go_wp2_with fail
      go_ret
      simp [cmpI, h1, h2]
    · go_wp2_with fail
      go_ret
      have e0 : cmpI x y = 0 := by unfold cmpI; rw [if_neg (by omega), if_neg (by omega)]
      rw [e0]
      exact ⟨rfl, rfl⟩

/-- A range. -/
structure Rg where
  lo : Int
  hi : Int
deriving Inhabited, DecidableEq
def rgCells (r : Rg) : List Value := [.int .i64 r.lo, .int .i64 r.hi]
def rgCmp (a b : Rg) : Int := cmpI a.lo b.lo
theorem rg_lt (a b : Rg) : ltOf rgCmp a b = decide (a.lo < b.lo) := by
  unfold ltOf rgCmp cmpI
  rw [decide_eq_decide]
  constructor
  · intro h; split at h
    · assumption
    · split at h <;> omega
  · intro h; rw [if_pos h]; decide
theorem rg_swo : SWO (ltOf rgCmp) where
  irrefl x := by rw [rg_lt]; simp
  trans x y z h1 h2 := by rw [rg_lt] at *; simp at *; omega
  ntrans x y z h1 h2 := by rw [rg_lt] at *; simp at *; omega
set_option maxRecDepth 100000 in
theorem make1_walk (a b : Rg) (w : World) : Calls Tryd.prog 59 #[.agg (rgCells a).toArray, .agg (rgCells b).toArray] w fun e w' => e = .returned (.int .i64 (rgCmp a b)) ∧ ∃ os, w' = grow w os := by
  unfold rgCells
  go_enter Tryd.func59, Tryd.ntmps59
  go_wp2_with fail
  refine (cmp_walk a.lo b.lo _).mono ?_
  rintro e w' ⟨rfl, rfl⟩
  go_wp2_with fail
  go_ret
  refine ⟨rfl, #[Obj.cells #[Value.int IntKind.i64 a.lo, Value.int IntKind.i64 a.hi] 43, Obj.cells #[Value.int IntKind.i64 b.lo, Value.int IntKind.i64 b.hi] 43], ?_⟩
  rw [alloc_eq_grow, alloc_eq_grow, grow_grow]
  rfl
theorem rg_len (r : Rg) : (rgCells r).length = 2 := rfl
theorem rg_one (r : Rg) : ∀ v ∈ rgCells r, v.oneCell' = true := by
  intro v hv
  simp [rgCells] at hv
  rcases hv with rfl | rfl <;> rfl
/-- slices.SortFunc, of ranges. -/
theorem sort_walk {w : World} {base : Nat} {v : Value} {s : List Rg} (h : w.ownsRow base 43 2 v s.length (s.flatMap rgCells)) (hl : s.length ≤ 1000000) :
    Calls Tryd.prog 58 #[v, .func (.func 59) #[] #[]] w fun e w' => e = .returned (.tuple #[]) ∧ ∃ s' : List Rg, s'.Perm s ∧ s'.Pairwise (fun a b => a.lo ≤ b.lo) ∧ w'.ownsRow base 43 2 v s'.length (s'.flatMap rgCells) ∧ w.grownBy w' v.ownBlock := by
  rcases Nat.eq_zero_or_pos s.length with h0 | h0
  · obtain ⟨A, c, rfl⟩ := own_slice h
    rw [h0]
    refine (AnyF.slices_SortFunc_none Tryd.laysSort A c _ w).mono ?_
    rintro e w' ⟨rfl, rfl⟩
    obtain rfl := List.length_eq_zero_iff.1 h0
    exact ⟨rfl, [], List.Perm.refl _, List.Pairwise.nil, h, ⟨rfl, rfl, rfl, Nat.le_refl _, fun _ _ _ => rfl⟩⟩
  · obtain ⟨g, cap, rfl, hbg, hgl, hnc, hcm⟩ := own_form h h0
    have hH : HoldsK rgCells 2 w g 0 s.toArray := own_holds rg_len (d := s.toArray) h (by simp)
    have hcmp : CmpLays Tryd.prog 59 #[] rgCells 2 rgCmp g 0 s.toArray.size w := fun m os dk hs x y => by
      rw [Array.append_empty]
      refine (make1_walk x y _).mono ?_
      rintro e w' ⟨rfl, os', rfl⟩
      exact ⟨rfl, 0, os', rfl⟩
    have hz := Tryd.isAgg43
    have := AnyQ.slices_SortFunc Tryd.laysSort 2 (fun w => Tryd.isAgg43 w) (fun w => Tryd.sizeOf43 w) rgCells rg_len rg_one rgCmp rg_swo 59 #[] g 0 cap s.toArray w (enters_of Tryd.func59 (by kernel_rfl) rfl) hcmp hH hgl (by simp; omega)
    simp only [List.size_toArray] at this
    refine Calls.mono this ?_
    rintro e w' ⟨rfl, d', n, os, hp, hs, rfl⟩
    have hsz : d'.size = s.length := by have := hp.1; simpa using this
    obtain ⟨r1, r2⟩ := own_sorted rg_len (d := s.toArray) h (by simp) hsz n os
    refine ⟨rfl, d'.toList, ?_, ?_, ?_, r2⟩
    · have h3 := hp.2.2
      rw [← hsz] at h3
      simp only [Array.extract_size] at h3
      rw [hsz] at h3
      simpa using h3
    · rw [List.pairwise_iff_getElem]
      intro i j hi hj hij
      have h4 := hs i j (Nat.zero_le _) hij (by rw [Array.length_toList, hsz] at hj; simpa using hj)
      rw [rg_lt, getElem!_pos d' j (by simpa using hj), getElem!_pos d' i (by simpa using hi)] at h4
      simp at h4
      simpa using h4
    · have e : d'.toList.length = s.length := by rw [Array.length_toList, hsz]
      rw [e]
      exact r1
end Go.Proofs.YtmdkjljcnegmeaaDoor
