/- NFD of code points: what it is made of, that it stays. No code is walked here. -/
import Derived.Test.YtpmbebofinlmmaaGreatDoorNormW
import Derived.Test.YtpmbebofinlmmaaGreatDoorDecB
namespace Go.Proofs.YtpmbebofinlmmaaGreatDoor
open Go.RowKit Go.Sort Stb
set_option linter.unusedVariables false
set_option linter.unusedSimpArgs false

/-- The parts, and NFD, as the files say. -/
def partsL (Φ : Files) (xs : List It) : List Part := partsG (dall (partsOf Φ.dec)) (combOf Φ) xs
def nfd (Φ : Files) (xs : List It) : List It := nfdG (dall (partsOf Φ.dec)) (combOf Φ) xs
theorem nfd_eq (Φ : Files) (xs : List It) : nfd Φ xs = (Nrm.ord ptKey (partsL Φ xs)).map toIt := rfl
def zit (r : Int) : It := ⟨r, 0, 0⟩
def runesL (Φ : Files) (zs : List Int) : List Int := (nfd Φ (zs.map zit)).map It.r
theorem dfull_ne (P : Int → Option (List Nat)) : ∀ (k : Nat) (r : Int), dfull P k r ≠ []
  | 0, r => by
    unfold dfull
    split
    · unfold sylOf; simp
    · simp
  | k + 1, r => by
    rw [dfull_succ]
    split
    · unfold sylOf; simp
    · split
      · rename_i n l _
        intro h
        rw [List.flatMap_cons, List.append_eq_nil_iff] at h
        exact dfull_ne P k n h.1
      · simp
theorem dall_neI (P : Int → Option (List Nat)) (r : Int) : dall P r ≠ [] := dfull_ne P 5 r
/-- Each record has two parts at most. -/
def short2B (rs : List Rec) : Bool := rs.all fun x => Nat.ble (Sp.pts (fld0 x)).length 2
theorem dec_short2 : short2B (recsOf Tryz.f60) = true := by kernel_rfl
set_option maxRecDepth 100000 in
theorem files_short2 : short2B files.dec = true := dec_short2
theorem parts_two {rs : List Rec} (h : short2B rs = true) {r : Int} {l : List Nat} (hP : partsOf rs r = some l) : l.length ≤ 2 := by
  obtain ⟨x, hx, _, _, rfl⟩ := parts_rec hP
  exact Nat.le_of_ble_eq_true (List.all_eq_true.1 h x hx)
theorem flat_two {α β : Type} (f : α → List β) (c : Nat) (hf : ∀ x, (f x).length ≤ c) : ∀ l : List α, l.length ≤ 2 → (l.flatMap f).length ≤ 2 * c
  | [], _ => by simp
  | [x], _ => by have := hf x; simp; omega
  | [x, y], _ => by have := hf x; have := hf y; simp; omega
  | x :: y :: z :: l, h => by simp at h
theorem dfull_len2 {rs : List Rec} (h : short2B rs = true) : ∀ (k : Nat) (r : Int), (dfull (partsOf rs) k r).length ≤ 3 * 2 ^ k
  | 0, r => by
    unfold dfull
    split
    · exact (sylOf_len r).1
    · simp
  | k + 1, r => by
    have hp : 1 ≤ 2 ^ k := Nat.one_le_two_pow
    rw [dfull_succ, Nat.pow_succ]
    split
    · have := (sylOf_len r).1; omega
    · split
      · rename_i n l hP
        have := flat_two (fun m : Nat => dfull (partsOf rs) k m) (3 * 2 ^ k) (fun m => dfull_len2 h k m) (n :: l) (parts_two h hP)
        omega
      · simp; omega
theorem dall_len {rs : List Rec} (h : short2B rs = true) (r : Int) : (dall (partsOf rs) r).length ≤ 96 := dfull_len2 h 5 r
theorem dfull_wf {rs : List Rec} : ∀ (k : Nat) (r : Int), (Lit.int .i64 r).wf = true → ∀ x ∈ dfull (partsOf rs) k r, (Lit.int .i64 x).wf = true
  | k, r, hr, x, hx => by
    by_cases hs : isSyl r = true
    · have : dfull (partsOf rs) k r = sylOf r := by cases k <;> (unfold dfull; rw [if_pos hs])
      rw [this] at hx
      unfold isSyl at hs
      simp only [Bool.and_eq_true, decide_eq_true_eq] at hs
      have h3 : 0 ≤ x ∧ x ≤ 9223372036854775807 := by
        unfold sylOf at hx
        split at hx
        · simp at hx
          rcases hx with rfl | rfl <;> omega
        · simp at hx
          rcases hx with rfl | rfl | rfl <;> omega
      exact wf_i64 (by omega) (by omega)
    · cases k with
      | zero =>
        rw [dfull, if_neg hs] at hx
        have : x = r := by simpa using hx
        rw [this]; exact hr
      | succ k =>
        rw [dfull_succ, if_neg hs] at hx
        cases hP : partsOf rs r with
        | none => rw [hP] at hx; have : x = r := by simpa using hx
                  rw [this]; exact hr
        | some l =>
          cases l with
          | nil => rw [hP] at hx; have : x = r := by simpa using hx
                   rw [this]; exact hr
          | cons n l =>
            rw [hP] at hx
            obtain ⟨q, hq, hx2⟩ := List.mem_flatMap.1 hx
            obtain ⟨z, _, _, _, hz⟩ := parts_rec hP
            have hq2 : q ≤ 1114111 := by rw [hz] at hq; exact pts_le _ q hq
            exact dfull_wf k q (wf_i64 (by omega) (by omega)) x hx2
theorem dall_wf {rs : List Rec} (r : Int) (hr : (Lit.int .i64 r).wf = true) : ∀ x ∈ dall (partsOf rs) r, (Lit.int .i64 x).wf = true := dfull_wf 5 r hr
section
variable {Φ : Files}
theorem partsL_len (h : short2B Φ.dec = true) : ∀ xs : List It, (partsL Φ xs).length ≤ 96 * xs.length ∧ xs.length ≤ (partsL Φ xs).length
  | [] => by unfold partsL partsG; simp
  | x :: xs => by
    have h1 := partsL_len h xs
    have h2 := dall_len h x.r
    have h3 := List.length_pos_iff.2 (dall_neI (partsOf Φ.dec) x.r)
    have e : partsL Φ (x :: xs) = (dall (partsOf Φ.dec) x.r).map (mkPart (combOf Φ) x) ++ partsL Φ xs := by unfold partsL partsG; rw [List.flatMap_cons]
    rw [e, List.length_append, List.length_map, List.length_cons]
    omega
theorem nfd_mem (xs : List It) (y : It) (hy : y ∈ nfd Φ xs) : ∃ x ∈ xs, y.s = x.s ∧ y.e = x.e ∧ y.r ∈ dall (partsOf Φ.dec) x.r := by
  rw [nfd_eq] at hy
  obtain ⟨p, hp, rfl⟩ := List.mem_map.1 hy
  have hp := (Nrm.ord_perm (cl := ptKey) (partsL Φ xs)).mem_iff.1 hp
  unfold partsL partsG at hp
  obtain ⟨x, hx, hpx⟩ := List.mem_flatMap.1 hp
  obtain ⟨r, hr, rfl⟩ := List.mem_map.1 hpx
  exact ⟨x, hx, rfl, rfl, hr⟩
theorem nfd_len (xs : List It) : (nfd Φ xs).length = (partsL Φ xs).length := by
  rw [nfd_eq]
  rw [List.length_map, (Nrm.ord_perm _).length_eq]
theorem runes_mem (zs : List Int) (y : Int) (hy : y ∈ runesL Φ zs) : ∃ z ∈ zs, y ∈ dall (partsOf Φ.dec) z := by
  unfold runesL at hy
  obtain ⟨p, hp, rfl⟩ := List.mem_map.1 hy
  obtain ⟨x, hx, _, _, hr⟩ := nfd_mem _ p hp
  obtain ⟨z, hz, rfl⟩ := List.mem_map.1 hx
  exact ⟨z, hz, hr⟩
theorem runes_wf (zs : List Int) (hz : ∀ z ∈ zs, (Lit.int .i64 z).wf = true) : ∀ y ∈ runesL Φ zs, (Lit.int .i64 y).wf = true := fun y hy => by
  obtain ⟨z, hz1, hz2⟩ := runes_mem zs y hy
  exact dall_wf z (hz z hz1) y hz2
theorem runes_len (h : short2B Φ.dec = true) (zs : List Int) : (runesL Φ zs).length ≤ 96 * zs.length ∧ zs.length ≤ (runesL Φ zs).length := by
  have := partsL_len h (zs.map zit)
  unfold runesL
  rw [List.length_map, nfd_len]
  rw [List.length_map] at this
  exact this
/-- What is made of nothing else: its parts are itself. -/
theorem partsL_end (xs : List It) (h : ∀ x ∈ xs, dall (partsOf Φ.dec) x.r = [x.r]) : partsL Φ xs = xs.map fun x => mkPart (combOf Φ) x x.r := by
  induction xs with
  | nil => rfl
  | cons x xs ih =>
    have e : partsL Φ (x :: xs) = (dall (partsOf Φ.dec) x.r).map (mkPart (combOf Φ) x) ++ partsL Φ xs := by unfold partsL partsG; rw [List.flatMap_cons]
    rw [e, h x List.mem_cons_self, ih fun y hy => h y (List.mem_cons_of_mem _ hy)]
    rfl
theorem parts_back (xs : List It) : (nfd Φ xs).map (fun x => mkPart (combOf Φ) x x.r) = Nrm.ord ptKey (partsL Φ xs) := by
  rw [nfd_eq]
  rw [List.map_map]
  conv => rhs; rw [← List.map_id (Nrm.ord ptKey (partsL Φ xs))]
  apply List.map_congr_left
  intro p hp
  have hp := (Nrm.ord_perm (cl := ptKey) (partsL Φ xs)).mem_iff.1 hp
  unfold partsL partsG at hp
  obtain ⟨x, hx, hpx⟩ := List.mem_flatMap.1 hp
  obtain ⟨r, hr, rfl⟩ := List.mem_map.1 hpx
  rfl
/-- NFD of NFD is it. -/
theorem nfd_twice (hend : endB Φ.dec = true) (xs : List It) : nfd Φ (nfd Φ xs) = nfd Φ xs := by
  have h := partsL_end (Φ := Φ) (nfd Φ xs) fun y hy => by
    obtain ⟨x, _, _, _, hr⟩ := nfd_mem xs y hy
    exact dall_ends hend x.r y.r hr
  show (Nrm.ord ptKey (partsL Φ (nfd Φ xs))).map toIt = _
  rw [h, parts_back, Nrm.ord_twice]
  rfl
theorem zit_back (zs : List Int) : (nfd Φ (zs.map zit)).map (fun x => zit x.r) = nfd Φ (zs.map zit) := by
  conv => rhs; rw [← List.map_id (nfd Φ (zs.map zit))]
  apply List.map_congr_left
  intro y hy
  obtain ⟨x, hx, h1, h2, _⟩ := nfd_mem _ y hy
  obtain ⟨z, _, rfl⟩ := List.mem_map.1 hx
  cases y
  simp only [zit] at *
  rw [h1, h2]
  rfl
theorem runes_twice (hend : endB Φ.dec = true) (zs : List Int) : runesL Φ (runesL Φ zs) = runesL Φ zs := by
  have h : (runesL Φ zs).map zit = nfd Φ (zs.map zit) := by
    unfold runesL
    rw [List.map_map]
    exact zit_back zs
  unfold runesL
  unfold runesL at h
  rw [h, nfd_twice hend]
/-- No class above 0 stands behind a greater one. -/
theorem runes_order (zs : List Int) (i : Nat) (h : i + 1 < (runesL Φ zs).length) : ¬ (0 < combOf Φ ((runesL Φ zs).getD (i + 1) 0) ∧ combOf Φ ((runesL Φ zs).getD (i + 1) 0) < combOf Φ ((runesL Φ zs).getD i 0)) := by
  have hf := Nrm.ord_fine (cl := ptKey) (partsL Φ (zs.map zit))
  rw [← parts_back] at hf
  have hl : (nfd Φ (zs.map zit)).length = (runesL Φ zs).length := by unfold runesL; rw [List.length_map]
  have g : ∀ j, j < (runesL Φ zs).length → ((nfd Φ (zs.map zit)).map fun x => mkPart (combOf Φ) x x.r)[j]? = some (mkPart (combOf Φ) ((nfd Φ (zs.map zit)).getD j default) ((runesL Φ zs).getD j 0)) := fun j hj => by
    rw [List.getElem?_map, List.getElem?_eq_getElem (by omega)]
    unfold runesL
    rw [List.getD_eq_getElem?_getD, List.getD_eq_getElem?_getD, List.getElem?_map, List.getElem?_eq_getElem (by omega)]
    rfl
  generalize (nfd Φ (zs.map zit)).map (fun x => mkPart (combOf Φ) x x.r) = L at *
  have hL : L = L.take i ++ mkPart (combOf Φ) ((nfd Φ (zs.map zit)).getD i default) ((runesL Φ zs).getD i 0) :: mkPart (combOf Φ) ((nfd Φ (zs.map zit)).getD (i + 1) default) ((runesL Φ zs).getD (i + 1) 0) :: L.drop (i + 2) := by
    have g1 := g i (by omega)
    have g2 := g (i + 1) h
    obtain ⟨l1, e1⟩ := List.getElem?_eq_some_iff.1 g1
    obtain ⟨l2, e2⟩ := List.getElem?_eq_some_iff.1 g2
    conv => lhs; rw [← List.take_append_drop i L]
    rw [List.drop_eq_getElem_cons l1, List.drop_eq_getElem_cons l2, e1, e2]
  rw [hL] at hf
  exact Nrm.fine_mid (cl := ptKey) _ _ _ _ hf
end
theorem comb_aw : numN (firstOf (recsOf Tryz.f55) 97 [48]) = 0 ∧ numN (firstOf (recsOf Tryz.f55) 769 [48]) = 230 ∧ numN (firstOf (recsOf Tryz.f55) 803 [48]) = 220 := ⟨by kernel_rfl, by kernel_rfl, by kernel_rfl⟩
theorem dall_aws : dall (partsOf (recsOf Tryz.f60)) 97 = [97] ∧ dall (partsOf (recsOf Tryz.f60)) 769 = [769] ∧ dall (partsOf (recsOf Tryz.f60)) 803 = [803] := ⟨by kernel_rfl, by kernel_rfl, by kernel_rfl⟩
set_option maxRecDepth 100000 in
theorem files_comb_aw : numN (firstOf files.comb 97 [48]) = 0 ∧ numN (firstOf files.comb 769 [48]) = 230 ∧ numN (firstOf files.comb 803 [48]) = 220 := comb_aw
set_option maxRecDepth 100000 in
theorem files_dall_aw : dall (partsOf files.dec) 97 = [97] ∧ dall (partsOf files.dec) 769 = [769] ∧ dall (partsOf files.dec) 803 = [803] := dall_aws
theorem runes_aw : runesL files [97, 769, 803] = [97, 803, 769] := by
  obtain ⟨c1, c2, c3⟩ := files_comb_aw
  obtain ⟨d1, d2, d3⟩ := files_dall_aw
  have k : ∀ r, combOf files r = ((numN (firstOf files.comb r [48]) : Nat) : Int) := fun r => by
    unfold combOf
    rw [txOf_first (listOk_hi files_ok.comb)]
  have hp : partsL files [zit 97, zit 769, zit 803] = [⟨97, 0, 0, 0⟩, ⟨769, 0, 0, 230⟩, ⟨803, 0, 0, 220⟩] := by
    unfold partsL partsG
    simp only [List.flatMap_cons, List.flatMap_nil, zit, d1, d2, d3, List.map_cons, List.map_nil, mkPart, k, c1, c2, c3]
    rfl
  show (nfd files [zit 97, zit 769, zit 803]).map It.r = _
  rw [nfd_eq]
  rw [hp]
  decide
end Go.Proofs.YtpmbebofinlmmaaGreatDoor
