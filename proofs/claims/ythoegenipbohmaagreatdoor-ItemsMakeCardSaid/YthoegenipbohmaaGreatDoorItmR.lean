/- items.Text.Runes, rubricatorref12.Text.Runes. Printed by wip/tools/mkrun.py. -/
import Derived.Test.YthoegenipbohmaaGreatDoorItmD
namespace Go.Proofs.YthoegenipbohmaaGreatDoor
open Go.RowKit Utf Itm
set_option linter.unusedVariables false
set_option linter.unusedSimpArgs false
section
variable {w : World} {B p : Nat} {bs : List Nat} {L : List It}
set_option maxRecDepth 100000 in
theorem trunes_walk (h : TextAt w B p bs L) (hl : L.length ≤ 100000) : Calls Tryz.prog 31 #[.pointer (some ⟨p, 0, none⟩)] w (CloneSaid (L.map It.r) w) := by
  have HN := Lib.hid (tnone_walk h)
  obtain ⟨_, _, vb, vl, vn, h2, _, h4, _⟩ := h
  have c2 := h2.cell 2
  obtain ⟨Al, cl, rfl⟩ := own_slice h4
  have HV := Lib.hid (show ItemsAt w B (.slice Al L.length cl) L from h4)
  clear h2 h4
  go_enter Tryz.func31, Tryz.ntmps31
  go_wp2_with fail
  refine HN.out.mono ?_
  rintro e w1 ⟨rfl, rfl⟩
  clear HN
  go_wp2_with fail
  go_loopw [3, 13] (fun vo i wr => ∃ k : Nat, k ≤ L.length ∧ i = .int .i64 k ∧ Hid (IntsAt wr w.heap.size vo ((L.take k).map It.r)) ∧ Hid (Below w.heap.size w wr)) (fun _ i _ => L.length - (intOf i).toNat)
  case atStart => exact ⟨0, by omega, rfl, World.ownsRow_nil _ _ _ _, Below.refl _ _⟩
  case round =>
    obtain ⟨k, hk, rfl, HO, HB⟩ := hrel
    by_cases hkl : k < L.length
    · obtain ⟨gl, cap, hv, _⟩ := own_form HV.out (by omega)
      injection hv with hA h0 h1
      subst hA h1
      clear h0
      obtain ⟨x, hx⟩ : ∃ x, x = L[k] := ⟨_, rfl⟩
      obtain ⟨p0, p1, p2⟩ := items_get L k hkl
      rw [← hx] at p0 p1 p2
      have q0 := cell_later HB.out (own_cell HV.out _ _ p0)
      have q1 := cell_later HB.out (own_cell HV.out _ _ p1)
      have q2 := cell_later HB.out (own_cell HV.out _ _ p2)
      have HS := Lib.hid (show (L.take k).map It.r ++ [x.r] = (L.take (k + 1)).map It.r by rw [List.take_succ_eq_append_getElem hkl, List.map_append, ← hx]; rfl)
      have hql : ((L.take k).map It.r).length = k := by rw [List.length_map, List.length_take]; omega
      obtain ⟨Ao, co, hvo⟩ := own_slice HO.out
      subst hvo
      have HO0 := Lib.hid (show wr.ownsRow w.heap.size 3 1 (.slice Ao k co) k (intz ((L.take k).map It.r)) by
        have := HO.out
        unfold IntsAt at this
        rwa [hql] at this)
      rw [hql]
      obtain ⟨X, hX⟩ : ∃ X, X = Obj.cells #[Value.int IntKind.i64 x.r, Value.int IntKind.i64 x.s, Value.int IntKind.i64 x.e] 25 := ⟨_, rfl⟩
      have hbx := alloc_below wr X
      have HX7 := Lib.hid (show Blk (wr.alloc X) wr.heap.size 25 #[Value.int IntKind.i64 x.r, Value.int IntKind.i64 x.s, Value.int IntKind.i64 x.e] by rw [hX]; exact row_new _ _)
      have HO1 := Lib.hid (own_below HO0.out hbx)
      have HB1 := Lib.hid (HB.out.trans (hbx.mono HB.out.size))
      rw [hX] at HX7 HO1 HB1
      clear p0 p1 p2 hx hql hbx HO HB HO0 hX X
      go_upto_region 7 with fail
      clear q0 q1 q2
      generalize wr.alloc _ = W1 at *
      generalize wr.heap.size = xb at *
      have q0 := HX7.out.cell 0
      go_wp2_with (at_builtin; refine wp_append_lit slIntN rfl (.tmp 17) (.tmp 20) rfl w.heap.size (.slice Ao k co) k (intz ((L.take k).map It.r)) rfl (by exact HO1.out) #[.int .i64 x.r] rfl rfl (by simp [Value.oneCell']) (by omega) (by exact HB1.out.size) ?_; intro v6 w6 hown6 hg6; have HO6 := Lib.hid hown6; have HB6 := Lib.hid (HB1.out.grown hg6 HB1.out.size (fun k hk => (own_lt HO1.out k hk).1)); clear hown6 hg6)
      go_roundw
      case rel => exact ⟨k + 1, by omega, by go_num, (show IntsAt _ _ _ _ by
        unfold IntsAt
        rw [show ((L.take (k + 1)).map It.r).length = k + 1 by rw [List.length_map, List.length_take]; omega, ← HS.out, ← intz_snocN]
        exact HO6.out), HB6⟩
      case measure => simp [intOf]; omega
    · have hke : k = L.length := by omega
      subst hke
      have HO1 := Lib.hid (show IntsAt wr w.heap.size _ (L.map It.r) by have := HO.out; rwa [List.take_length] at this)
      clear HO HV
      go_wp2_with fail
      go_ret
      exact ⟨_, rfl, HO1.out, HB.out⟩
set_option maxRecDepth 100000 in
theorem rrunes_walk (h : RTextAt w B p bs L) (hl : L.length ≤ 100000) : Calls Tryz.prog 32 #[.pointer (some ⟨p, 0, none⟩)] w (CloneSaid (L.map It.r) w) := by
  obtain ⟨_, _, vb, vl, h2, _, h4⟩ := h
  have c1 := h2.cell 1
  obtain ⟨Al, cl, rfl⟩ := own_slice h4
  have HV := Lib.hid (show ItemsAt w B (.slice Al L.length cl) L from h4)
  clear h2 h4
  go_enter Tryz.func32, Tryz.ntmps32
  go_wp2_with fail
  go_loopw [3, 11] (fun vo i wr => ∃ k : Nat, k ≤ L.length ∧ i = .int .i64 k ∧ Hid (IntsAt wr w.heap.size vo ((L.take k).map It.r)) ∧ Hid (Below w.heap.size w wr)) (fun _ i _ => L.length - (intOf i).toNat)
  case atStart => exact ⟨0, by omega, rfl, World.ownsRow_nil _ _ _ _, Below.refl _ _⟩
  case round =>
    obtain ⟨k, hk, rfl, HO, HB⟩ := hrel
    by_cases hkl : k < L.length
    · obtain ⟨gl, cap, hv, _⟩ := own_form HV.out (by omega)
      injection hv with hA h0 h1
      subst hA h1
      clear h0
      obtain ⟨x, hx⟩ : ∃ x, x = L[k] := ⟨_, rfl⟩
      obtain ⟨p0, p1, p2⟩ := items_get L k hkl
      rw [← hx] at p0 p1 p2
      have q0 := cell_later HB.out (own_cell HV.out _ _ p0)
      have q1 := cell_later HB.out (own_cell HV.out _ _ p1)
      have q2 := cell_later HB.out (own_cell HV.out _ _ p2)
      have HS := Lib.hid (show (L.take k).map It.r ++ [x.r] = (L.take (k + 1)).map It.r by rw [List.take_succ_eq_append_getElem hkl, List.map_append, ← hx]; rfl)
      have hql : ((L.take k).map It.r).length = k := by rw [List.length_map, List.length_take]; omega
      obtain ⟨Ao, co, hvo⟩ := own_slice HO.out
      subst hvo
      have HO0 := Lib.hid (show wr.ownsRow w.heap.size 3 1 (.slice Ao k co) k (intz ((L.take k).map It.r)) by
        have := HO.out
        unfold IntsAt at this
        rwa [hql] at this)
      rw [hql]
      obtain ⟨X, hX⟩ : ∃ X, X = Obj.cells #[Value.int IntKind.i64 x.r, Value.int IntKind.i64 x.s, Value.int IntKind.i64 x.e] 25 := ⟨_, rfl⟩
      have hbx := alloc_below wr X
      have HX7 := Lib.hid (show Blk (wr.alloc X) wr.heap.size 25 #[Value.int IntKind.i64 x.r, Value.int IntKind.i64 x.s, Value.int IntKind.i64 x.e] by rw [hX]; exact row_new _ _)
      have HO1 := Lib.hid (own_below HO0.out hbx)
      have HB1 := Lib.hid (HB.out.trans (hbx.mono HB.out.size))
      rw [hX] at HX7 HO1 HB1
      clear p0 p1 p2 hx hql hbx HO HB HO0 hX X
      go_upto_region 5 with fail
      clear q0 q1 q2
      generalize wr.alloc _ = W1 at *
      generalize wr.heap.size = xb at *
      have q0 := HX7.out.cell 0
      go_wp2_with (at_builtin; refine wp_append_lit slIntN rfl (.tmp 15) (.tmp 18) rfl w.heap.size (.slice Ao k co) k (intz ((L.take k).map It.r)) rfl (by exact HO1.out) #[.int .i64 x.r] rfl rfl (by simp [Value.oneCell']) (by omega) (by exact HB1.out.size) ?_; intro v6 w6 hown6 hg6; have HO6 := Lib.hid hown6; have HB6 := Lib.hid (HB1.out.grown hg6 HB1.out.size (fun k hk => (own_lt HO1.out k hk).1)); clear hown6 hg6)
      go_roundw
      case rel => exact ⟨k + 1, by omega, by go_num, (show IntsAt _ _ _ _ by
        unfold IntsAt
        rw [show ((L.take (k + 1)).map It.r).length = k + 1 by rw [List.length_map, List.length_take]; omega, ← HS.out, ← intz_snocN]
        exact HO6.out), HB6⟩
      case measure => simp [intOf]; omega
    · have hke : k = L.length := by omega
      subst hke
      have HO1 := Lib.hid (show IntsAt wr w.heap.size _ (L.map It.r) by have := HO.out; rwa [List.take_length] at this)
      clear HO HV
      go_wp2_with fail
      go_ret
      exact ⟨_, rfl, HO1.out, HB.out⟩
end
end Go.Proofs.YthoegenipbohmaaGreatDoor
