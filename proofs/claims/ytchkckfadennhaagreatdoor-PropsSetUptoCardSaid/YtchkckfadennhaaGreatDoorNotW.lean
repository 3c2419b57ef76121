/- ranges.Not: all others. -/
import Derived.Test.YtchkckfadennhaaGreatDoorSetQ
import Derived.Test.YtchkckfadennhaaGreatDoorLod
namespace Go.Proofs.YtchkckfadennhaaGreatDoor
open Go.RowKit
set_option linter.unusedVariables false
set_option linter.unusedSimpArgs false

/-- The set that a call makes. -/
def SetIs (F : Int → Prop) (w : World) (e : Ending) (w' : World) : Prop := ∃ v L, e = .returned v ∧ RgsAt w' w.heap.size v L ∧ CanL L ∧ (∀ r, inSet L r ↔ F r) ∧ Below w.heap.size w w'
def notFrom : Int → List Rg → List Rg
  | a, [] => if a ≤ 1114111 then [⟨a, 1114111⟩] else []
  | a, r :: L => (if a < r.lo then [⟨a, r.lo - 1⟩] else []) ++ notFrom (r.hi + 1) L
theorem notFrom_set : ∀ (L : List Rg) (a : Int), CanL L → (∀ x ∈ L, a ≤ x.lo ∧ x.hi ≤ 1114111) → CanL (notFrom a L) ∧ (∀ x ∈ notFrom a L, a ≤ x.lo) ∧ ∀ r, inSet (notFrom a L) r ↔ (a ≤ r ∧ r ≤ 1114111) ∧ ¬ inSet L r
  | [], a, _, _ => by
    unfold notFrom
    by_cases h : a ≤ 1114111
    · rw [if_pos h]
      refine ⟨⟨by simp, by simpa using h⟩, by simp, fun r => ?_⟩
      rw [inSet_one]
      exact ⟨fun h => ⟨h, inSet_nil r⟩, fun h => h.1⟩
    · rw [if_neg h]
      refine ⟨⟨List.Pairwise.nil, by simp⟩, by simp, fun r => ?_⟩
      constructor
      · intro h'; exact absurd h' (inSet_nil r)
      · intro h'; omega
  | y :: L, a, hc, hb => by
    obtain ⟨c1, c2, c3⟩ := hc.tail
    obtain ⟨b1, b2⟩ := hb y (by simp)
    obtain ⟨i1, i2, i3⟩ := notFrom_set L (y.hi + 1) c1 fun x hx => ⟨by have := c2 x hx; omega, (hb x (List.mem_cons_of_mem _ hx)).2⟩
    have hL : ∀ r, inSet L r → y.hi + 1 < r := by
      rintro r ⟨x, hx, h1, h2⟩
      have := c2 x hx
      omega
    unfold notFrom
    by_cases h : a < y.lo
    · rw [if_pos h]
      refine ⟨⟨?_, ?_⟩, ?_, fun r => ?_⟩
      · rw [List.singleton_append, List.pairwise_cons]
        exact ⟨fun x hx => by have := i2 x hx; show y.lo - 1 + 1 < x.lo; omega, i1.1⟩
      · intro x hx
        rcases List.mem_append.1 hx with hx | hx
        · simp at hx; subst hx; show a ≤ y.lo - 1; omega
        · exact i1.2 x hx
      · intro x hx
        rcases List.mem_append.1 hx with hx | hx
        · simp at hx; subst hx; exact Int.le_refl _
        · have := i2 x hx; omega
      · rw [List.singleton_append, inSet_cons, inSet_cons, i3]
        constructor
        · rintro (⟨h1, h2⟩ | ⟨⟨h1, h2⟩, h3⟩)
          · have h2' : r ≤ y.lo - 1 := h2
            have h1' : a ≤ r := h1
            refine ⟨by omega, ?_⟩
            rintro (h | h)
            · omega
            · have := hL r h; omega
          · refine ⟨by omega, ?_⟩
            rintro (h | h)
            · omega
            · exact h3 h
        · rintro ⟨h1, h2⟩
          by_cases hr : r < y.lo
          · left; show a ≤ r ∧ r ≤ y.lo - 1; omega
          · right
            refine ⟨⟨?_, h1.2⟩, fun h => h2 (.inr h)⟩
            by_cases hq : r ≤ y.hi
            · exact absurd (.inl ⟨by omega, hq⟩) h2
            · omega
    · rw [if_neg h, List.nil_append]
      refine ⟨i1, fun x hx => by have := i2 x hx; omega, fun r => ?_⟩
      rw [inSet_cons, i3]
      constructor
      · rintro ⟨⟨h1, h2⟩, h3⟩
        refine ⟨by omega, ?_⟩
        rintro (h | h)
        · omega
        · exact h3 h
      · rintro ⟨h1, h2⟩
        refine ⟨⟨?_, h1.2⟩, fun h => h2 (.inr h)⟩
        by_cases hq : r ≤ y.hi
        · exact absurd (.inl ⟨by omega, hq⟩) h2
        · omega
theorem drop_step (L : List Rg) (k : Nat) (hk : k < L.length) (a : Int) : notFrom a (L.drop k) = (if a < L[k].lo then [⟨a, L[k].lo - 1⟩] else []) ++ notFrom (L[k].hi + 1) (L.drop (k + 1)) := by
  rw [List.drop_eq_getElem_cons hk]
  rfl
set_option maxRecDepth 100000 in
theorem not_walk (rs : List Rg) (base : Nat) (v : Value) (w : World) (h : RgsAt w base v rs) (hl : rs.length ≤ 900000) :
    Calls Tryz.prog 30 #[v] w (SetIs (fun r => (0 ≤ r ∧ r ≤ 1114111) ∧ ¬ inSet rs r) w) := by
  have HM := Lib.hid (make_walk rs base v w h (by omega))
  obtain ⟨A0, c0, rfl⟩ := own_slice h
  clear h
  go_enter Tryz.func30, Tryz.ntmps30
  go_wp2_with fail
  refine HM.out.mono ?_
  rintro e w1 ⟨v1, s, rfl, hp, hpw, hr, hb1⟩
  obtain ⟨hcan, hset⟩ := make_set hp hpw
  have hin : ∀ x ∈ joinAll s, RgIn x := joinAll_in fun x hx => clipped_in rs x (hp.mem_iff.1 hx)
  have hlen : (joinAll s).length ≤ 900000 := Nat.le_trans (joinAll_len s) (by rw [hp.length_eq]; exact Nat.le_trans (clipped_len rs) hl)
  have HFin := Lib.hid (show ∀ w' u O, RgsAt w' w1.heap.size u O → Below w1.heap.size w1 w' → O = notFrom 0 (joinAll s) → SetIs (fun r => (0 ≤ r ∧ r ≤ 1114111) ∧ ¬ inSet rs r) w (.returned u) w' from fun w' u O ho hb he => by
    obtain ⟨k1, _, k3⟩ := notFrom_set (joinAll s) 0 hcan fun x hx => ⟨(hin x hx).1, (hin x hx).2.2⟩
    subst he
    refine ⟨u, _, rfl, own_base ho hb1.size, k1, fun r => ?_, hb1.trans (hb.mono hb1.size)⟩
    rw [k3, hset]
    constructor
    · rintro ⟨h1, h2⟩
      exact ⟨h1, fun h => h2 ⟨h1, h⟩⟩
    · rintro ⟨h1, h2⟩
      exact ⟨h1, fun h => h2 h.2⟩)
  have HIn := Lib.hid hin
  have HR := Lib.hid hr
  obtain ⟨A1, c1, rfl⟩ := own_slice hr
  clear hp hpw hr hset hcan hin HM
  generalize joinAll s = L at *
  go_wp2_with fail
  go_loopw [3, 4, 10] (fun u a i wr => ∃ (k : Nat) (z : Int) (O : List Rg), k ≤ L.length ∧ i = .int .i64 k ∧ a = .int .i64 z ∧ (0 ≤ z ∧ z ≤ 1114112) ∧ O.length ≤ k ∧ Hid (RgsAt wr w1.heap.size u O) ∧ Hid (notFrom 0 L = O ++ notFrom z (L.drop k)) ∧ Hid (Below w1.heap.size w1 wr)) (fun _ _ i _ => L.length - (intOf i).toNat)
  case atStart => exact ⟨0, 0, [], by omega, rfl, rfl, by omega, by simp, World.ownsRow_nil _ _ _ _, (by show _ = _; rw [List.drop_zero, List.nil_append]), Below.refl _ _⟩
  case round =>
    obtain ⟨k, z, O, hk, rfl, rfl, hz, hOk, HO, HE, HB⟩ := hrel
    by_cases hlt : k < L.length
    · obtain ⟨g, cap, e, _, hgl, _, _⟩ := own_form HR.out (by omega)
      cases e
      have hrow := own_below HR.out HB.out
      obtain ⟨g0, g1⟩ := rgs_get L k hlt
      have d0 := own_cell hrow _ _ g0
      have d1 := own_cell hrow _ _ g1
      obtain ⟨r1, r2, r3⟩ := HIn.out L[k] (List.getElem_mem _)
      have HE1 := Lib.hid (HE.out.trans (by rw [drop_step L k hlt z]))
      clear g0 g1 hrow HE
      generalize L[k] = r at *
      obtain ⟨lo, hi⟩ := r
      simp only at r1 r2 r3 d0 d1
      change Hid (notFrom 0 L = O ++ ((if z < lo then [⟨z, lo - 1⟩] else []) ++ notFrom (hi + 1) (L.drop (k + 1)))) at HE1
      obtain ⟨X, hX⟩ : ∃ X, X = Obj.cells #[Value.int IntKind.i64 lo, Value.int IntKind.i64 hi] 37 := ⟨_, rfl⟩
      have HO2 := Lib.hid (own_below HO.out (alloc_below wr X))
      have HB2 := Lib.hid (HB.out.alloc HB.out.size X)
      have HX := Lib.hid (row_new wr X)
      have hs2 := size_new wr X
      rw [hX] at HO2 HB2 HX hs2
      have a1 : IntKind.i64.wrap (lo - 1) = lo - 1 := by rw [IntKind.wrap_i64]; omega
      have a2 : IntKind.i64.wrap (hi + 1) = hi + 1 := by rw [IntKind.wrap_i64]; omega
      clear hX
      by_cases hzl : z < lo
      · have b1 : decide (z < lo) = true := decide_eq_true hzl
        have HE2 := Lib.hid (show notFrom 0 L = (O ++ [⟨z, lo - 1⟩]) ++ notFrom (hi + 1) (L.drop (k + 1)) by rw [HE1.out, if_pos hzl, List.append_assoc])
        have hbt : (O.length + 1) * 16 ≤ 140737488355328 := by omega
        clear HE1
        go_wp2_with (at_builtin; refine wp_append_new slRange rfl (.tmp 18) (.tmp 24) rfl w1.heap.size u3 _ _ rfl (by exact HO2.out) #[.int .i64 z, .int .i64 (lo - 1)] (by rw [size_new]; rfl) rfl (by simp [Value.oneCell']) (by exact hbt) (by exact HB2.out.size) ?_; intro v5 w5 hown5 hg5; have HB5 := Lib.hid (HB2.out.grown hg5 HB2.out.size (fun k hk => (own_lt HO2.out k hk).1)); have d5 : w5.cell? ⟨wr.heap.size, 1, none⟩ = some (.int .i64 hi) := Blk.cell (show Blk w5 wr.heap.size 37 #[Value.int IntKind.i64 lo, Value.int IntKind.i64 hi] from (hg5.block _ (by rw [hs2]; omega) (fun h => by have := (own_lt HO.out _ h.symm).2; omega)).trans HX.out) 1; clear hg5)
        go_roundw
        case rel => exact ⟨k + 1, hi + 1, O ++ [⟨z, lo - 1⟩], by omega, by go_num, rfl, by omega, by simp; omega, (by show RgsAt _ _ _ _; unfold RgsAt; rw [rgs_snoc, List.length_append]; exact hown5), HE2, HB5⟩
        case measure => simp [intOf]; omega
      · have b1 : decide (z < lo) = false := decide_eq_false hzl
        have HE2 := Lib.hid (show notFrom 0 L = O ++ notFrom (hi + 1) (L.drop (k + 1)) by rw [HE1.out, if_neg hzl, List.nil_append])
        clear HE1
        go_wp2_with fail
        go_roundw
        case rel => exact ⟨k + 1, hi + 1, O, by omega, by go_num, rfl, by omega, by omega, HO2, HE2, HB2⟩
        case measure => simp [intOf]; omega
    · obtain rfl : k = L.length := by omega
      have HE1 := Lib.hid (show notFrom 0 L = O ++ (if z ≤ 1114111 then [⟨z, 1114111⟩] else []) by rw [HE.out, List.drop_length]; rfl)
      clear HE
      by_cases hzl : z ≤ 1114111
      · have b1 : decide (z ≤ 1114111) = true := decide_eq_true hzl
        have HE2 := Lib.hid (show O ++ [⟨z, 1114111⟩] = notFrom 0 L by rw [HE1.out, if_pos hzl])
        have hbt : (O.length + 1) * 16 ≤ 140737488355328 := by omega
        clear HE1
        go_wp2_with (at_builtin; refine wp_append_new slRange rfl (.tmp 32) (.tmp 35) rfl w1.heap.size u3 _ _ rfl (by exact HO.out) #[.int .i64 z, .int .i64 1114111] rfl rfl (by simp [Value.oneCell']) (by exact hbt) (by exact HB.out.size) ?_; intro v5 w5 hown5 hg5; have HB5 := Lib.hid (HB.out.grown hg5 HB.out.size (fun k hk => (own_lt HO.out k hk).1)); have hfin := HFin.out w5 v5 (O ++ [⟨z, 1114111⟩]) (by unfold RgsAt; rw [rgs_snoc, List.length_append]; exact hown5) HB5.out HE2.out; clear hg5 hown5)
        go_ret
        exact hfin
      · have b1 : decide (z ≤ 1114111) = false := decide_eq_false hzl
        have hfin := HFin.out wr u3 O HO.out HB.out (by rw [HE1.out, if_neg hzl, List.append_nil])
        clear HE1
        go_wp2_with fail
        go_ret
        exact hfin
end Go.Proofs.YtchkckfadennhaaGreatDoor
