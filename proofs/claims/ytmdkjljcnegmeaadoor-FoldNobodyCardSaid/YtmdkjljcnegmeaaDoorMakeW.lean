/- ranges.Make. -/
import Derived.Test.YtmdkjljcnegmeaaDoorMakeA
import Derived.StillTailTactics
namespace Go.Proofs.YtmdkjljcnegmeaaDoor
open Go.RowKit
set_option linter.unusedVariables false
set_option linter.unusedSimpArgs false

theorem own_set {w : World} {base g n cap size j : Nat} {e : TypeId} {xs : List Value} {u : Value} (h : w.ownsRow base e size (.slice (some ⟨g, 0, none⟩) n cap) n xs) (hj : j < n * size) :
    (w.setCell ⟨g, j, none⟩ u).ownsRow base e size (.slice (some ⟨g, 0, none⟩) n cap) n (xs.set j u) := by
  refine ⟨by rw [List.length_set]; exact h.1, ?_⟩
  rcases h.2 with ⟨h0, _⟩ | ⟨g', cap', cur, hv, hb, hg, hnc, hcm, hcs, ht⟩
  · cases h0
  · injection hv with e1 e2 e3
    injection e1 with e1
    injection e1 with e1
    subst e1 e3
    have hB : Blk w g e cur := hg
    refine .inr ⟨g, cap, _, rfl, hb, hB.set j u, hnc, hcm, by simpa using hcs, ?_⟩
    rw [← ht]
    simp [List.take_set]
theorem own_free {w : World} {base g n cap size : Nat} {e : TypeId} {xs : List Value} (h : w.ownsRow base e size (.slice (some ⟨g, 0, none⟩) n cap) n xs) (j : Nat) : w.frozen? ⟨g, j, none⟩ = false := by
  rcases h.2 with ⟨h0, _⟩ | ⟨g', cap', cur, hv, hb, hg, hnc, hcm, hcs, ht⟩
  · cases h0
  · injection hv with e1 e2 e3
    injection e1 with e1
    injection e1 with e1
    subst e1 e3
    exact (cells_of_row hg).2 _
theorem rgs_set (o : List Rg) (l : Rg) (h : Int) : ((o ++ [l]).flatMap rgCells).set (o.length * 2 + 1) (.int .i64 h) = (o ++ [(⟨l.lo, h⟩ : Rg)]).flatMap rgCells := by
  rw [List.flatMap_append, List.flatMap_append]
  have hl : (o.flatMap rgCells).length = o.length * 2 := Go.Proofs.YtmdkjljcnegmeaaDoor.flat_len rgCells 2 rg_len o
  rw [List.set_append_right _ _ (by omega), hl, show o.length * 2 + 1 - o.length * 2 = 1 by omega]
  rfl
def Rg.clip (r : Rg) : Rg := ⟨max r.lo 0, min r.hi 1114111⟩
def clipped (rs : List Rg) : List Rg := (rs.map Rg.clip).filter fun r => decide (r.lo ≤ r.hi)
/-- One range more, the ranges that are there being a set all of whose ranges begin no later. -/
def joinRg (out : List Rg) (r : Rg) : List Rg := match out.getLast? with
  | some l => if r.lo ≤ l.hi + 1 then out.dropLast ++ [⟨l.lo, max l.hi r.hi⟩] else out ++ [r]
  | none => [r]
def joinAll (s : List Rg) : List Rg := s.foldl joinRg []
theorem joinAll_snoc (s : List Rg) (r : Rg) : joinAll (s ++ [r]) = joinRg (joinAll s) r := by unfold joinAll; rw [List.foldl_append]; rfl
theorem joinRg_len (out : List Rg) (r : Rg) : (joinRg out r).length ≤ out.length + 1 := by
  unfold joinRg
  split
  · split
    · simp
    · simp
  · simp
theorem joinAll_len (s : List Rg) : (joinAll s).length ≤ s.length := by
  have h : ∀ (s out : List Rg), (s.foldl joinRg out).length ≤ out.length + s.length := by
    intro s
    induction s with
    | nil => intro out; simp
    | cons r s ih => intro out; have := ih (joinRg out r); have := joinRg_len out r; simp; omega
  have := h s []
  simpa [joinAll] using this
def RgIn (r : Rg) : Prop := 0 ≤ r.lo ∧ r.lo ≤ r.hi ∧ r.hi ≤ 1114111
theorem joinRg_in {out : List Rg} {r : Rg} (h : ∀ x ∈ out, RgIn x) (hr : RgIn r) : ∀ x ∈ joinRg out r, RgIn x := by
  unfold joinRg
  split
  · rename_i l hl
    have hl' := h l (List.mem_of_getLast? hl)
    split
    · intro x hx
      rcases List.mem_append.1 hx with hx | hx
      · exact h x (List.dropLast_subset _ hx)
      · simp at hx; subst hx
        unfold RgIn at *
        simp only
        omega
    · intro x hx
      rcases List.mem_append.1 hx with hx | hx
      · exact h x hx
      · simp at hx; subst hx; exact hr
  · intro x hx; simp at hx; subst hx; exact hr
theorem joinAll_in {s : List Rg} (h : ∀ x ∈ s, RgIn x) : ∀ x ∈ joinAll s, RgIn x := by
  have h' : ∀ (s out : List Rg), (∀ x ∈ s, RgIn x) → (∀ x ∈ out, RgIn x) → ∀ x ∈ s.foldl joinRg out, RgIn x := by
    intro s
    induction s with
    | nil => intro out _ h; exact h
    | cons r s ih => intro out h1 h2; exact ih _ (fun x hx => h1 x (List.mem_cons_of_mem _ hx)) (joinRg_in h2 (h1 r (List.mem_cons_self)))
  exact h' s [] h (by simp)
theorem clipped_in (rs : List Rg) : ∀ x ∈ clipped rs, RgIn x := by
  intro x hx
  unfold clipped at hx
  rw [List.mem_filter] at hx
  obtain ⟨h1, h2⟩ := hx
  obtain ⟨r, _, rfl⟩ := List.mem_map.1 h1
  simp only [decide_eq_true_eq] at h2
  unfold RgIn
  refine ⟨?_, h2, ?_⟩ <;> simp only [Rg.clip] <;> omega
theorem clipped_len (rs : List Rg) : (clipped rs).length ≤ rs.length := by
  unfold clipped
  exact Nat.le_trans (List.length_filter_le _ _) (by simp)
theorem clipped_snoc (rs : List Rg) (r : Rg) : clipped (rs ++ [r]) = clipped rs ++ (if r.clip.lo ≤ r.clip.hi then [r.clip] else []) := by
  unfold clipped
  rw [List.map_append, List.filter_append]
  congr 1
  simp only [List.map_cons, List.map_nil, List.filter_cons, List.filter_nil]
  by_cases h : r.clip.lo ≤ r.clip.hi <;> simp [h]
theorem rgs_get (rs : List Rg) (j : Nat) (hj : j < rs.length) : (rs.flatMap rgCells)[j * 2]? = some (.int .i64 rs[j].lo) ∧ (rs.flatMap rgCells)[j * 2 + 1]? = some (.int .i64 rs[j].hi) := by
  induction rs generalizing j with
  | nil => simp at hj
  | cons r rs ih =>
    cases j with
    | zero => exact ⟨rfl, rfl⟩
    | succ j =>
      have := ih j (by simpa using hj)
      have e1 : (r :: rs).flatMap rgCells = .int .i64 r.lo :: .int .i64 r.hi :: rs.flatMap rgCells := rfl
      rw [e1, show (j + 1) * 2 = j * 2 + 2 by omega]
      exact this
theorem slRange : SlT Tryd.prog 35 43 2 16 := ⟨Tryd.underlying35, by kernel_rfl, by decide, by decide⟩
theorem rgs_snoc (rs : List Rg) (r : Rg) : (rs ++ [r]).flatMap rgCells = rs.flatMap rgCells ++ [.int .i64 r.lo, .int .i64 r.hi] := by rw [List.flatMap_append]; rfl

def RgsAt (w : World) (base : Nat) (v : Value) (rs : List Rg) : Prop := w.ownsRow base 43 2 v rs.length (rs.flatMap rgCells)
def MakeSaid (rs : List Rg) (w : World) (e : Ending) (w' : World) : Prop :=
  ∃ v s, e = .returned v ∧ s.Perm (clipped rs) ∧ s.Pairwise (fun a b => a.lo ≤ b.lo) ∧ RgsAt w' w.heap.size v (joinAll s) ∧ Below w.heap.size w w'
set_option maxRecDepth 100000 in
set_option maxHeartbeats 600000 in
theorem make_walk (rs : List Rg) (base : Nat) (v : Value) (w : World) (h : RgsAt w base v rs) (hl : rs.length ≤ 1000000) :
    Calls Tryd.prog 38 #[v] w (MakeSaid rs w) := by
  unfold RgsAt at h
  have H := Lib.hid h
  obtain ⟨A, c, rfl⟩ := own_slice h
  clear h
  go_enter Tryd.func38, Tryd.ntmps38
  go_wp2_with fail
  go_loopw [3, 12] (fun v i wr => ∃ k : Nat, k ≤ rs.length ∧ i = .int .i64 k ∧ Hid (wr.ownsRow w.heap.size 43 2 v (clipped (rs.take k)).length ((clipped (rs.take k)).flatMap rgCells)) ∧ Below w.heap.size w wr) (fun _ i _ => rs.length - (intOf i).toNat)
  case atStart => exact ⟨0, by omega, rfl, World.ownsRow_nil _ _ _ _, Below.refl _ _⟩
  case round =>
    obtain ⟨k, hk, rfl, hR, hB⟩ := hrel
    by_cases hlt : k < rs.length
    · have hrow := own_below H.out hB
      obtain ⟨g, cap, e, _, _, _, _⟩ := own_form hrow (by omega)
      cases e
      obtain ⟨r, hr⟩ : ∃ r, r = rs[k] := ⟨_, rfl⟩
      obtain ⟨g0, g1⟩ := rgs_get rs k hlt
      rw [← hr] at g0 g1
      have c0 := own_cell hrow _ _ g0
      have c1 := own_cell hrow _ _ g1
      have hsn : clipped (rs.take (k + 1)) = clipped (rs.take k) ++ (if r.clip.lo ≤ r.clip.hi then [r.clip] else []) := by rw [List.take_succ_eq_append_getElem hlt, clipped_snoc, hr]
      have Hsn := Lib.hid hsn
      clear hr g0 g1 hrow hsn
      by_cases hc : max r.lo 0 ≤ min r.hi 1114111
      · obtain ⟨X, hX⟩ : ∃ X, X = Obj.cells #[Value.int IntKind.i64 (max r.lo 0), Value.int IntKind.i64 (min r.hi 1114111)] 43 := ⟨_, rfl⟩
        have HR2 := Lib.hid (own_below (own_below hR.out (alloc_below wr X)) (alloc_below (wr.alloc X) X))
        have HB2 := Lib.hid ((hB.alloc hB.size X).alloc (by rw [size_new]; have := hB.size; omega) X)
        have hnews : ∀ j u, [Value.int IntKind.i64 (max r.lo 0), Value.int IntKind.i64 (min r.hi 1114111)][j]? = some u → ((wr.alloc X).alloc X).cell? ((⟨wr.heap.size + 1, 0, none⟩ : Addr).add j) = some u := fun j u hu => by
          have h1 := row_new (wr.alloc X) X
          rw [size_new, hX] at h1
          rw [add_plain, Nat.zero_add, hX, (cells_of_row h1).1 j]
          simpa using hu
        have hcl := clipped_len (rs.take k)
        rw [List.length_take] at hcl
        have hbytes : ((clipped (rs.take k)).length + 1) * 16 ≤ 140737488355328 := by omega
        rw [hX] at HR2 HB2 hnews
        have Hnews := Lib.hid hnews
        have Hsn2 : Hid (clipped (rs.take (k + 1)) = clipped (rs.take k) ++ [⟨max r.lo 0, min r.hi 1114111⟩]) := by
          show _ = _
          rw [Hsn.out, if_pos (show r.clip.lo ≤ r.clip.hi from hc)]
          rfl
        clear hX hnews hR hB Hsn hcl
        go_wp2_with (at_builtin; refine wp_append _ slRange rfl (.tmp 29) (.tmp 31) rfl w.heap.size u3 _ _ rfl (by exact HR2.out) ⟨wr.heap.size + 1, 0, none⟩ 1 1 [.int .i64 (max r.lo 0), .int .i64 (min r.hi 1114111)] rfl rfl (by exact Hnews.out) (by simp [Value.oneCell']) hbytes (by exact HB2.out.size) ?_; intro v5 w5 hown5 hg5 _ _; have hb5 := HB2.out.grown hg5 HB2.out.size (fun k hk => (own_lt HR2.out k hk).1); clear hg5)
        go_roundw
        case rel => exact ⟨k + 1, by omega, by go_num, by
          show _
          rw [Hsn2.out, rgs_snoc, List.length_append]
          exact hown5, hb5⟩
        case measure => simp [intOf]; omega
      · have hc' : decide (max r.lo 0 ≤ min r.hi 1114111) = false := by simpa using hc
        have Hsn2 : Hid (clipped (rs.take (k + 1)) = clipped (rs.take k)) := by
          show _ = _
          rw [Hsn.out, if_neg (show ¬ r.clip.lo ≤ r.clip.hi from hc), List.append_nil]
        clear Hsn
        go_wp2_with fail
        go_roundw
        case rel => exact ⟨k + 1, by omega, by go_num, by
          show _
          rw [Hsn2.out]
          exact own_below hR.out (alloc_below _ _), hB.alloc hB.size _⟩
        case measure => simp [intOf]; omega
    · obtain rfl : k = rs.length := by omega
      have hR1 := hR.out
      rw [List.take_length] at hR1
      have hcl := clipped_len rs
      have hsw := sort_walk hR1 (by omega)
      have HS := Lib.hid hsw
      have HR1 := Lib.hid hR1
      clear hR1 hsw hR
      go_wp2_with fail
      refine HS.out.mono ?_
      rintro e w1 ⟨rfl, s, hp, hpw, hrow, hg1⟩
      have hB1 : Below w.heap.size w w1 := hB.grown hg1 hB.size (fun k hk => (own_lt HR1.out k hk).1)
      have hin : ∀ x ∈ s, RgIn x := fun x hx => clipped_in rs x (hp.mem_iff.1 hx)
      have hsl : s.length ≤ 1000000 := by rw [hp.length_eq]; omega
      have Hrow := Lib.hid hrow
      have Hp := Lib.hid hp
      have Hpw := Lib.hid hpw
      have Hin := Lib.hid hin
      obtain ⟨A3, c3, rfl⟩ := own_slice hrow
      clear hrow hp hpw hin HS HR1 hg1 hB hcl H hlt hk
      go_wp2_with fail
      go_loopw [6, 38] (fun v i wr => ∃ q : Nat, q ≤ s.length ∧ i = .int .i64 q ∧ Hid (wr.ownsRow w1.heap.size 43 2 v (joinAll (s.take q)).length ((joinAll (s.take q)).flatMap rgCells)) ∧ Below w1.heap.size w1 wr) (fun _ i _ => s.length - (intOf i).toNat)
      case atStart => exact ⟨0, by omega, rfl, World.ownsRow_nil _ _ _ _, Below.refl _ _⟩
      case round =>
        obtain ⟨q, hq, rfl, hR, hB⟩ := hrel
        by_cases hlt : q < s.length
        · have hrow := own_below Hrow.out hB
          obtain ⟨g, cap, e, _, _, _, _⟩ := own_form hrow (by omega)
          cases e
          obtain ⟨r, hr⟩ : ∃ r, r = s[q] := ⟨_, rfl⟩
          obtain ⟨g0, g1⟩ := rgs_get s q hlt
          rw [← hr] at g0 g1
          have c0 := own_cell hrow _ _ g0
          have c1 := own_cell hrow _ _ g1
          obtain ⟨r1, r2, r3⟩ := Hin.out s[q] (List.getElem_mem _)
          rw [← hr] at r1 r2 r3
          have Hsn := Lib.hid (show joinAll (s.take (q + 1)) = joinRg (joinAll (s.take q)) r by rw [List.take_succ_eq_append_getElem hlt, joinAll_snoc, hr])
          have hol := joinAll_len (s.take q)
          rw [List.length_take] at hol
          have Hoi := Lib.hid (joinAll_in (s := s.take q) (fun x hx => Hin.out x (List.mem_of_mem_take hx)))
          clear hr g0 g1 hrow
          generalize joinAll (s.take q) = out at *
          obtain ⟨A6, c6, rfl⟩ := own_slice hR.out
          rcases List.eq_nil_or_concat out with rfl | ⟨o', l, rfl⟩
          · have Hsn2 : Hid (joinAll (s.take (q + 1)) = [] ++ [r]) := by
              show _ = _
              rw [Hsn.out]
              rfl
            obtain ⟨W2, hW2⟩ : ∃ W2, W2 = wr.alloc (Obj.cells #[Value.int IntKind.i64 r.lo, Value.int IntKind.i64 r.hi] 43) := ⟨_, rfl⟩
            have hb2 : Below wr.heap.size wr W2 := by rw [hW2]; exact alloc_below _ _
            have hrow2 : Blk W2 wr.heap.size 43 #[Value.int IntKind.i64 r.lo, Value.int IntKind.i64 r.hi] := by rw [hW2]; exact row_new _ _
            simp only [List.length_nil] at *
            go_wp2_with fail
            rw [← hW2]
            clear hW2
            go_quiet (fail)
            simp only [Exit.then]
            obtain ⟨Wd, hWd⟩ : ∃ Wd, Wd = W2.drewN nq := ⟨_, rfl⟩
            have hb3 : Below W2.heap.size W2 Wd := by rw [hWd]; exact below_drewN _ _
            rw [← hWd]
            clear hWd
            have hrd := hrow2.below hb3
            have hRd := Lib.hid (own_below (own_below (own_below hR.out hb2) hb3) (alloc_below Wd (Obj.cells #[Value.int IntKind.i64 r.lo, Value.int IntKind.i64 r.hi] 43)))
            have hBd := hB.trans ((hb2.trans (hb3.mono hb2.size)).mono hB.size)
            have HBd := Lib.hid (hBd.alloc hBd.size (Obj.cells #[Value.int IntKind.i64 r.lo, Value.int IntKind.i64 r.hi] 43))
            have d0 : Wd.cell? ⟨wr.heap.size, 0, none⟩ = some (.int .i64 r.lo) := hrd.cell 0
            have d1 : Wd.cell? ⟨wr.heap.size, 1, none⟩ = some (.int .i64 r.hi) := hrd.cell 1
            have hnews : ∀ j u, [Value.int IntKind.i64 r.lo, Value.int IntKind.i64 r.hi][j]? = some u → (Wd.alloc (Obj.cells #[Value.int IntKind.i64 r.lo, Value.int IntKind.i64 r.hi] 43)).cell? ((⟨Wd.heap.size, 0, none⟩ : Addr).add j) = some u := fun j u hu => by
              rw [add_plain, Nat.zero_add, (cells_of_row (row_new Wd _)).1 j]
              simpa using hu
            have Hnews := Lib.hid hnews
            have hbytes : (0 + 1) * 16 ≤ 140737488355328 := by omega
            clear hrd hBd hnews hR hB hb2 hb3 hrow2
            go_wp2_with (at_builtin; refine wp_append _ slRange rfl (.tmp 72) (.tmp 74) rfl w1.heap.size (.slice A6 _ c6) _ _ rfl (by exact hRd.out) ⟨Wd.heap.size, 0, none⟩ 1 1 [.int .i64 r.lo, .int .i64 r.hi] rfl rfl (by exact Hnews.out) (by simp [Value.oneCell']) hbytes (by exact HBd.out.size) ?_; intro v5 w5 hown5 hg5 _ _; have hb5 := HBd.out.grown hg5 HBd.out.size (fun k hk => (own_lt hRd.out k hk).1); clear hg5)
            go_roundw
            case rel => exact ⟨q + 1, by omega, by go_num, by
              show _
              rw [Hsn2.out, rgs_snoc, List.length_append]
              exact hown5, hb5⟩
            case measure => simp [intOf]; omega
          · obtain ⟨l1, l2, l3⟩ := Hoi.out l (by simp)
            obtain ⟨m, hm⟩ : ∃ m, m = o'.length := ⟨_, rfl⟩
            have hol2 : m + 1 ≤ 1000000 := by simp at hol; omega
            have e0 : (o'.concat l).length = m + 1 := by simp [hm]
            have Hr := Lib.hid (own_below hR.out (Below.refl _ _))
            obtain ⟨g6, cap6, e, hg1, hg2, hg3, hg4⟩ := own_form hR.out (by rw [e0]; omega)
            cases e
            have hl0 := rgs_get (o'.concat l) m (by omega)
            have hgl : (o'.concat l)[m]'(by omega) = l := by subst hm; simp
            rw [hgl] at hl0
            rw [e0] at *
            obtain ⟨W2, hW2⟩ : ∃ W2, W2 = wr.alloc (Obj.cells #[Value.int IntKind.i64 r.lo, Value.int IntKind.i64 r.hi] 43) := ⟨_, rfl⟩
            have hb2 : Below wr.heap.size wr W2 := by rw [hW2]; exact alloc_below _ _
            have hrow2 : Blk W2 wr.heap.size 43 #[Value.int IntKind.i64 r.lo, Value.int IntKind.i64 r.hi] := by rw [hW2]; exact row_new _ _
            have Hro := Lib.hid (own_below hR.out hb2)
            have x1 := own_cell Hro.out _ _ hl0.2
            clear hl0 hgl
            subst hm
            have y0 : W2.cell? ⟨wr.heap.size, 0, none⟩ = some (.int .i64 r.lo) := hrow2.cell 0
            by_cases hle : r.lo ≤ l.hi + 1
            · have Hsn2 := Lib.hid (show joinAll (s.take (q + 1)) = o' ++ [⟨l.lo, max l.hi r.hi⟩] by
                rw [Hsn.out]
                unfold joinRg
                simp [hle])
              go_wp2_with fail
              rw [← hW2]
              clear hW2
              go_quiet (fail)
              simp only [Exit.then]
              obtain ⟨Wd, hWd⟩ : ∃ Wd, Wd = W2.drewN nq := ⟨_, rfl⟩
              have hb3 : Below W2.heap.size W2 Wd := by rw [hWd]; exact below_drewN _ _
              rw [← hWd]
              clear hWd
              have d1 : Wd.cell? ⟨wr.heap.size, 1, none⟩ = some (.int .i64 r.hi) := (hrow2.below hb3).cell 1
              have hRd := own_below (own_below hR.out hb2) hb3
              have x2 : Wd.cell? ⟨g6, o'.length * 2 + 1, none⟩ = some (.int .i64 l.hi) := (hb3.cell (p := ⟨_, _, _⟩) (by have := hb2.size; simp; omega)).trans x1
              have x3 := own_free hRd (o'.length * 2 + 1)
              have HRd := Lib.hid hRd
              have hBd := Lib.hid (hB.trans ((hb2.trans (hb3.mono hb2.size)).mono hB.size))
              clear hRd hR hB hb2 hb3 hrow2 x1 y0
              go_wp2_with fail
              have z1 : Wd.drew.cell? ⟨wr.heap.size, 1, none⟩ = some (.int .i64 r.hi) := d1
              have z2 : Wd.drew.cell? ⟨g6, o'.length * 2 + 1, none⟩ = some (.int .i64 l.hi) := x2
              have b1 : IntKind.i64.wrap (o'.length : Int) = (o'.length : Int) := by rw [IntKind.wrap_i64]; omega
              have b2 : (o'.length : Int) < (o'.length : Int) + 1 := by omega
              go_still_tail 14, (by kernel_rfl)
              change wpList _ _ _ _ _ Wd.drew
              have HRe := Lib.hid (own_set (j := o'.length * 2 + 1) (u := .int .i64 (max l.hi r.hi)) (own_below HRd.out (below_drewN Wd 1)) (by omega))
              have HBe := Lib.hid ((hBd.out.trans ((below_drewN Wd 1).mono hBd.out.size)).setCell (p := ⟨g6, o'.length * 2 + 1, none⟩) hg1 (.int .i64 (max l.hi r.hi)))
              have f3 : Wd.drew.frozen? ⟨g6, o'.length * 2 + 1, none⟩ = false := x3
              rw [show Wd.drewN 1 = Wd.drew from rfl] at HRe HBe
              have Hst := Lib.hid (show ((o'.concat l).flatMap rgCells).set (o'.length * 2 + 1) (.int .i64 (max l.hi r.hi)) = (o' ++ [(⟨l.lo, max l.hi r.hi⟩ : Rg)]).flatMap rgCells by rw [List.concat_eq_append, rgs_set])
              generalize Wd.drew = We at *
              clear x2 x3 d1 z1 HRd hBd Hro Hr
              go_wp2_with fail
              go_roundw
              case rel => exact ⟨q + 1, by omega, by go_num, by
                show _
                rw [Hsn2.out, ← Hst.out, List.length_append]
                exact HRe.out, HBe.out⟩
              case measure => simp [intOf]; omega
            · have hle' : decide (r.lo ≤ l.hi + 1) = false := by simpa using hle
              have Hsn2 := Lib.hid (show joinAll (s.take (q + 1)) = (o'.concat l) ++ [r] by
                rw [Hsn.out]
                unfold joinRg
                simp [hle])
              go_wp2_with fail
              rw [← hW2]
              clear hW2
              go_quiet (fail)
              simp only [Exit.then]
              obtain ⟨Wd, hWd⟩ : ∃ Wd, Wd = W2.drewN nq := ⟨_, rfl⟩
              have hb3 : Below W2.heap.size W2 Wd := by rw [hWd]; exact below_drewN _ _
              rw [← hWd]
              clear hWd
              have hrd := hrow2.below hb3
              have hRd := Lib.hid (own_below (own_below (own_below hR.out hb2) hb3) (alloc_below Wd (Obj.cells #[Value.int IntKind.i64 r.lo, Value.int IntKind.i64 r.hi] 43)))
              have hBd := hB.trans ((hb2.trans (hb3.mono hb2.size)).mono hB.size)
              have HBd := Lib.hid (hBd.alloc hBd.size (Obj.cells #[Value.int IntKind.i64 r.lo, Value.int IntKind.i64 r.hi] 43))
              have d0 : Wd.cell? ⟨wr.heap.size, 0, none⟩ = some (.int .i64 r.lo) := hrd.cell 0
              have d1 : Wd.cell? ⟨wr.heap.size, 1, none⟩ = some (.int .i64 r.hi) := hrd.cell 1
              have hnews : ∀ j u, [Value.int IntKind.i64 r.lo, Value.int IntKind.i64 r.hi][j]? = some u → (Wd.alloc (Obj.cells #[Value.int IntKind.i64 r.lo, Value.int IntKind.i64 r.hi] 43)).cell? ((⟨Wd.heap.size, 0, none⟩ : Addr).add j) = some u := fun j u hu => by
                rw [add_plain, Nat.zero_add, (cells_of_row (row_new Wd _)).1 j]
                simpa using hu
              have Hnews := Lib.hid hnews
              have hbytes : (o'.length + 1 + 1) * 16 ≤ 140737488355328 := by omega
              clear hrd hBd hnews hR hB hb2 hb3 hrow2 x1 y0 Hro Hr
              go_wp2_with (at_builtin; refine wp_append _ slRange rfl (.tmp 72) (.tmp 74) rfl w1.heap.size (.slice (some ⟨g6, 0, none⟩) _ c6) _ _ rfl (by exact hRd.out) ⟨Wd.heap.size, 0, none⟩ 1 1 [.int .i64 r.lo, .int .i64 r.hi] rfl rfl (by exact Hnews.out) (by simp [Value.oneCell']) hbytes (by exact HBd.out.size) ?_; intro v5 w5 hown5 hg5 _ _; have hb5 := HBd.out.grown hg5 HBd.out.size (fun k hk => (own_lt hRd.out k hk).1); clear hg5)
              go_roundw
              case rel => exact ⟨q + 1, by omega, by go_num, by
                show _
                rw [Hsn2.out, rgs_snoc, List.length_append, List.length_concat]
                exact hown5, hb5⟩
              case measure => simp [intOf]; omega
        · obtain rfl : q = s.length := by omega
          have hfin : MakeSaid rs w (.returned u6) wr := by
            have hR1 := hR.out
            rw [List.take_length] at hR1
            exact ⟨u6, s, rfl, Hp.out, Hpw.out, own_base hR1 hB1.size, hB1.trans (hB.mono hB1.size)⟩
          clear hR Hrow Hin Hp Hpw
          go_wp2_with fail
          go_ret
          exact hfin
end Go.Proofs.YtmdkjljcnegmeaaDoor
