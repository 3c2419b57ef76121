/- rubricatorref03: in, both, Make, Minus, Union, Can. -/
import Derived.Test.YtchkckfadennhaaGreatDoorRef3X
import Derived.Test.YtchkckfadennhaaGreatDoorCloP
import Derived.Deep.DeepCutAuto
namespace Go.Proofs.YtchkckfadennhaaGreatDoor
open Go.RowKit
set_option linter.unusedVariables false
set_option linter.unusedSimpArgs false

/-- The kinds of sets that are asked here: 0: one of two; 2: the first alone. -/
def InSaid (kd : Int) (va vb : Value) (a b : List Rg) (w : World) : Prop := ∀ W, Below w.heap.size w W → ∀ r : Int, Calls Tryz.prog 96 #[va, vb, .int .i64 kd, .int .i64 r] W fun e W' => e = .returned (.bool (inK kd (hasB a r) (hasB b r))) ∧ Below W.heap.size W W'
set_option maxRecDepth 100000 in
theorem in0_walk (w : World) (va vb : Value) (a b : List Rg) (ha : RListAt w va a) (hb : RListAt w vb b) : InSaid 0 va vb a b w := by
  intro W hW r
  have HA := Lib.hid (ha.below hW)
  have HB := Lib.hid (fun W' (h : Below W.heap.size W W') => (hb.below hW).below h)
  have HHa := Lib.hid (has3_walk W va a r HA.out)
  have HHb := Lib.hid (fun W' (h : Below W.heap.size W W') => has3_walk W' vb b r (HB.out W' h))
  have Hk := Lib.hid (show inK 0 (hasB a r) (hasB b r) = (hasB a r || hasB b r) from rfl)
  obtain ⟨_, _, rfl, _⟩ := ha
  obtain ⟨_, _, rfl, _⟩ := hb
  clear hW HA HB
  generalize hasB a r = x at *
  generalize hasB b r = y at *
  rw [Hk.out]
  clear Hk
  go_enter Tryz.func96, Tryz.ntmps96
  go_wp2_with fail
  refine HHa.out.mono ?_
  rintro e w1 ⟨rfl, hb1⟩
  have HB1 := Lib.hid hb1
  clear hb1 HHa
  go_wp2_with fail
  refine (HHb.out _ HB1.out).mono ?_
  rintro e w2 ⟨rfl, hb2⟩
  have HB2 := Lib.hid (HB1.out.trans (hb2.mono HB1.out.size))
  clear hb2 HHb HB1
  cases x <;> cases y
  all_goals
    go_wp2_with fail
    go_ret
    exact ⟨rfl, HB2.out⟩
set_option maxRecDepth 100000 in
theorem in2_walk (w : World) (va vb : Value) (a b : List Rg) (ha : RListAt w va a) (hb : RListAt w vb b) : InSaid 2 va vb a b w := by
  intro W hW r
  have HA := Lib.hid (ha.below hW)
  have HB := Lib.hid (fun W' (h : Below W.heap.size W W') => (hb.below hW).below h)
  have HHa := Lib.hid (has3_walk W va a r HA.out)
  have HHb := Lib.hid (fun W' (h : Below W.heap.size W W') => has3_walk W' vb b r (HB.out W' h))
  have Hk := Lib.hid (show inK 2 (hasB a r) (hasB b r) = (hasB a r && !hasB b r) from rfl)
  obtain ⟨_, _, rfl, _⟩ := ha
  obtain ⟨_, _, rfl, _⟩ := hb
  clear hW HA HB
  generalize hasB a r = x at *
  generalize hasB b r = y at *
  rw [Hk.out]
  clear Hk
  go_enter Tryz.func96, Tryz.ntmps96
  go_wp2_with fail
  refine HHa.out.mono ?_
  rintro e w1 ⟨rfl, hb1⟩
  have HB1 := Lib.hid hb1
  clear hb1 HHa
  go_wp2_with fail
  refine (HHb.out _ HB1.out).mono ?_
  rintro e w2 ⟨rfl, hb2⟩
  have HB2 := Lib.hid (HB1.out.trans (hb2.mono HB1.out.size))
  clear hb2 HHb HB1
  cases x <;> cases y
  all_goals
    go_wp2_with fail
    go_ret
    exact ⟨rfl, HB2.out⟩
def BothSaid (P : Int → Bool) (rs : List Rg) (w : World) (e : Ending) (w' : World) : Prop :=
  ∃ v l, e = .returned v ∧ RgsAt w' w.heap.size v (bothGo P [] l) ∧ l.Pairwise (· < ·) ∧ (∀ x, x ∈ l ↔ x = 0 ∨ x ∈ edgePts rs) ∧ (bothGo P [] l).length ≤ 2 * rs.length + 1 ∧ Below w.heap.size w w'
theorem hiOf_cons (x : Int) (l : List Int) : hiOf (x :: l) = x - 1 := rfl
theorem hiOf_nil : hiOf [] = 1114111 := rfl
theorem hi_next (l : List Int) (k : Nat) (h : k + 1 < l.length) : hiOf (l.drop (k + 1)) = l[k + 1] - 1 := by rw [List.drop_eq_getElem_cons h, hiOf_cons]
theorem hi_last (l : List Int) (k : Nat) (h : ¬ k + 1 < l.length) : hiOf (l.drop (k + 1)) = 1114111 := by rw [List.drop_of_length_le (by omega), hiOf_nil]
theorem dec_next (k n : Nat) (h : k + 1 < n) : decide (((k + 1 : Nat) : Int) < (n : Int)) = true ∧ decide (k + 1 < n) = true := by
  rw [decide_eq_true_eq, decide_eq_true_eq]
  omega
theorem dec_last (k n : Nat) (h : ¬ k + 1 < n) : decide (((k + 1 : Nat) : Int) < (n : Int)) = false ∧ decide (k + 1 < n) = false := by
  rw [decide_eq_false_iff_not, decide_eq_false_iff_not]
  omega
theorem wrap_pred (x : Int) (h : 0 ≤ x ∧ x ≤ 1114111) : IntKind.i64.wrap (x - 1) = x - 1 ∧ wrap64 (x - 1) = x - 1 := ⟨by rw [IntKind.wrap_i64]; omega, by unfold wrap64; omega⟩
theorem wrap_back (m : Nat) (h : m ≤ 1000000) : (IntKind.i64.wrap ((m : Int) + 1 - 1) = m ∧ wrap64 ((m : Int) + 1 - 1) = m) ∧ (IntKind.i64.wrap (m : Int) = m ∧ wrap64 (m : Int) = m) ∧ decide ((m : Int) + 1 > 0) = true :=
  ⟨⟨by rw [IntKind.wrap_i64]; omega, by unfold wrap64; omega⟩, ⟨by rw [IntKind.wrap_i64]; omega, by unfold wrap64; omega⟩, decide_eq_true (by omega)⟩
theorem wrap_next (k q : Nat) (h : k ≤ 1000000) (e : q = k + 1) : IntKind.i64.wrap ((k : Int) + 1) = (q : Int) ∧ wrap64 ((k : Int) + 1) = (q : Int) := ⟨by rw [IntKind.wrap_i64]; omega, by unfold wrap64; omega⟩
theorem next_facts {w1 wr : World} {base g c : Nat} {l : List Int} (hl : IntsAt w1 base (.slice (some ⟨g, 0, none⟩) l.length c) l) (hg : g < w1.heap.size) (hb : Below w1.heap.size w1 wr) (hr : ∀ x ∈ l, 0 ≤ x ∧ x ≤ 1114111) (k : Nat) (h : k + 1 < l.length) :
    ∃ nx, wr.cell? ⟨g, k + 1, none⟩ = some (.int .i64 nx) ∧ IntKind.i64.wrap (nx - 1) = nx - 1 ∧ wrap64 (nx - 1) = nx - 1 ∧ hiOf (l.drop (k + 1)) = nx - 1 ∧ decide (((k + 1 : Nat) : Int) < (l.length : Int)) = true ∧ decide (k + 1 < l.length) = true := by
  have h1 := wrap_pred (l[k + 1]) (hr _ (List.getElem_mem h))
  have h2 := dec_next k l.length h
  have h3 : (intz l)[k + 1]? = some (.int .i64 l[k + 1]) := intz_get? _ _ _ (List.getElem?_eq_getElem h)
  have h4 := own_cell hl (k + 1) _ h3
  exact ⟨l[k + 1], (hb.cell (p := ⟨g, k + 1, none⟩) hg).trans h4, h1.1, h1.2, hi_next l k h, h2.1, h2.2⟩
theorem joinEq_nil (lo hi : Int) : joinEq [] lo hi = [⟨lo, hi⟩] := rfl
theorem joinEq_hit (o : List Rg) (x : Rg) (lo hi : Int) (h : x.hi = lo - 1) : joinEq (o ++ [x]) lo hi = o ++ [⟨x.lo, hi⟩] := by
  unfold joinEq
  rw [List.getLast?_concat, List.dropLast_concat]
  simp only
  rw [if_pos h]
theorem joinEq_miss (o : List Rg) (x : Rg) (lo hi : Int) (h : x.hi ≠ lo - 1) : joinEq (o ++ [x]) lo hi = (o ++ [x]) ++ [⟨lo, hi⟩] := by
  unfold joinEq
  rw [List.getLast?_concat]
  simp only
  rw [if_neg h]
set_option maxRecDepth 100000 in
set_option maxHeartbeats 3200000 in
theorem both_walk (w : World) (va vb : Value) (a b : List Rg) (kd : Int) (ha : RVal w va a) (hb : RVal w vb b) (hal : a.length ≤ 240000) (hbl : b.length ≤ 240000) (hin : InSaid kd va vb a b w) :
    Calls Tryz.prog 68 #[va, vb, .int .i64 kd] w (BothSaid (fun r => inK kd (hasB a r) (hasB b r)) (a ++ b) w) := by
  have HE := Lib.hid (edges_walk w va vb a b ha hb hal hbl)
  have HIn := Lib.hid hin
  obtain ⟨⟨_, _, rfl, x1, x2⟩, x3⟩ := ha
  obtain ⟨⟨_, _, rfl, x4, x5⟩, x6⟩ := hb
  clear x1 x2 x3 x4 x5 x6
  have hrl : (a ++ b).length ≤ 480000 := by rw [List.length_append]; omega
  obtain ⟨rs, hrs⟩ : ∃ rs, rs = a ++ b := ⟨_, rfl⟩
  rw [← hrs] at HE hrl ⊢
  obtain ⟨P, hP⟩ : ∃ P : Int → Bool, P = fun r => inK kd (hasB a r) (hasB b r) := ⟨_, rfl⟩
  rw [← hP]
  have HP := Lib.hid (fun r => (show inK kd (hasB a r) (hasB b r) = P r by rw [hP]))
  clear hin hrs hP
  go_enter Tryz.func68, Tryz.ntmps68
  go_wp2_with fail
  refine HE.out.mono ?_
  rintro e w1 ⟨v1, l, rfl, hl1, hs1, hm1, hn1, hb1⟩
  have hpos : 0 < l.length := List.length_pos_iff.2 (fun h => by have := (hm1 0).2 (.inl rfl); rw [h] at this; cases this)
  obtain ⟨g1, k1, rfl, hg1, hg2, _, _⟩ := own_form hl1 hpos
  have HL := Lib.hid hl1
  have HS := Lib.hid hs1
  have HM := Lib.hid hm1
  have HB1 := Lib.hid hb1
  have Hrg := Lib.hid (show ∀ x ∈ l, 0 ≤ x ∧ x ≤ 1114111 from fun x hx => by
    rcases (hm1 x).1 hx with rfl | h
    · omega
    · have := edgePts_in _ x h
      omega)
  clear hl1 hs1 hm1 hb1 HE
  go_wp2_with fail
  go_loopw [7, 18] (fun u i wr => ∃ (k : Nat) (outs : List Rg), k ≤ l.length ∧ i = .int .i64 k ∧ Hid (bothGo P [] l = bothGo P outs (l.drop k)) ∧ Hid (RgsAt wr w1.heap.size u outs) ∧ outs.length ≤ k ∧ Hid (Below w1.heap.size w1 wr)) (fun _ i _ => l.length - (intOf i).toNat)
  case atStart => exact ⟨0, [], by omega, rfl, rfl, World.ownsRow_nil _ _ _ _, by simp, Below.refl _ _⟩
  case round =>
    obtain ⟨k, outs, hk, rfl, HI, HR, hol, HB⟩ := hrel
    by_cases hlt : k < l.length
    · obtain ⟨lo, hlo⟩ : ∃ lo, lo = l[k] := ⟨_, rfl⟩
      have hlor : 0 ≤ lo ∧ lo ≤ 1114111 := by rw [hlo]; exact Hrg.out _ (List.getElem_mem _)
      have c0 : wr.cell? ⟨g1, k, none⟩ = some (.int .i64 lo) := (HB.out.cell (p := ⟨_, _, _⟩) hg2).trans (own_cell HL.out k _ (intz_get? _ _ _ (by rw [List.getElem?_eq_getElem hlt, hlo])))
      have Hd := Lib.hid (show bothGo P outs (l.drop k) = bothGo P (if P lo then joinEq outs lo (hiOf (l.drop (k + 1))) else outs) (l.drop (k + 1)) by rw [List.drop_eq_getElem_cons hlt, hlo]; rfl)
      have hhr : -1 ≤ hiOf (l.drop (k + 1)) ∧ hiOf (l.drop (k + 1)) ≤ 1114111 := by
        by_cases h1 : k + 1 < l.length
        · have h2 := Hrg.out _ (List.getElem_mem h1)
          rw [List.drop_eq_getElem_cons h1]
          show -1 ≤ l[k + 1] - 1 ∧ l[k + 1] - 1 ≤ 1114111
          omega
        · rw [List.drop_of_length_le (by omega)]
          show -1 ≤ (1114111 : Int) ∧ (1114111 : Int) ≤ 1114111
          omega
      have Hnx := Lib.hid (fun h1 : k + 1 < l.length => next_facts HL.out hg2 HB.out Hrg.out k h1)
      have Hno := Lib.hid (fun h1 : ¬ k + 1 < l.length => And.intro (hi_last l k h1) (dec_last k l.length h1))
      have hbt : (outs.length + 1) * 16 ≤ 140737488355328 := by omega
      have Hk := Lib.hid (And.intro hk (And.intro hol hlt))
      obtain ⟨q, hq⟩ : ∃ q : Nat, q = k + 1 := ⟨_, rfl⟩
      have hol6 : outs.length ≤ 1000000 := by omega
      have HAA := Lib.hid (And.intro (wrap_pred lo hlor) (wrap_next k q (by omega) hq))
      have Hq := Lib.hid hq
      have Hhr := Lib.hid hhr
      rw [← hq] at Hnx Hno Hd Hhr
      clear hq hhr hk hol hlor
      clear hlo
      obtain ⟨⟨a1, a2⟩, a3, a4⟩ := HAA.out
      go_upto_if 27 with fail
      go_cut [11] (fun h wx => h = .int .i64 (hiOf (l.drop q)) ∧ wx = wr)
      case first =>
        by_cases h1 : q < l.length
        · obtain ⟨nx, c1, a5, a6, hh, d1, d2⟩ := Hnx.out h1
          have Hh := Lib.hid hh
          clear hh
          go_wp2_with fail
          go_meet
          case rel => exact ⟨by rw [Hh.out], rfl⟩
        · obtain ⟨hh, d1, d2⟩ := Hno.out h1
          have Hh := Lib.hid hh
          clear hh
          go_wp2_with fail
          go_meet
          case rel => exact ⟨by rw [Hh.out], rfl⟩
      case rest =>
      obtain ⟨rfl, rfl⟩ := hcut
      obtain ⟨hi, hhi⟩ : ∃ hi, hi = hiOf (l.drop q) := ⟨_, rfl⟩
      rw [← hhi] at Hd
      rw [← hhi]
      clear hhi c0
      go_wp2_with fail
      refine (HIn.out _ (HB1.out.trans (HB.out.mono HB1.out.size)) lo).mono ?_
      rintro e w2 ⟨rfl, hb2⟩
      clear a1 a2 a3 a4
      rw [HP.out]
      have HR2 := Lib.hid (show RgsAt w2 w1.heap.size u7 outs from own_below HR.out hb2)
      have HB2 := Lib.hid (HB.out.trans (hb2.mono HB.out.size))
      clear hb2 HR HB
      cases hPl : P lo with
      | false =>
        have HI2 := Lib.hid (show bothGo P [] l = bothGo P outs (l.drop q) by rw [HI.out, Hd.out, hPl]; rfl)
        clear HI Hd hPl
        obtain ⟨⟨a1, a2⟩, a3, a4⟩ := HAA.out
        go_wp2_with fail
        go_roundw
        case rel => clear a1 a2 a3 a4; exact ⟨q, outs, by have := Hq.out; have := Hk.out; omega, by first | rfl | go_num, HI2, HR2, by have := Hq.out; have := Hk.out; omega, HB2⟩
        case measure => clear a1 a2 a3 a4; (try clear b1 b2 b3 b4 b5); have := Hq.out; have := Hk.out; first | (simp [intOf]; done) | (simp [intOf]; omega)
      | true =>
        have HI2 := Lib.hid (show bothGo P [] l = bothGo P (joinEq outs lo hi) (l.drop q) by rw [HI.out, Hd.out, hPl]; rfl)
        clear HI Hd hPl
        obtain ⟨A7, c7, rfl⟩ := own_slice HR2.out
        rcases List.eq_nil_or_concat outs with rfl | ⟨o', x, rfl⟩
        · rw [joinEq_nil] at HI2
          simp only [List.length_nil] at hbt HR2 ⊢
          obtain ⟨⟨a1, a2⟩, a3, a4⟩ := HAA.out
          go_wp2_with (at_builtin; refine wp_append_lit slRange rfl (.tmp 61) (.tmp 65) rfl w1.heap.size (.slice A7 _ c7) _ _ rfl (by exact HR2.out) #[.int .i64 lo, .int .i64 hi] rfl rfl (by simp [Value.oneCell']) (by exact hbt) (by exact HB2.out.size) ?_; intro v5 w5 hown5 hg5; have HB5 := Lib.hid (HB2.out.grown hg5 HB2.out.size (fun k hk => (own_lt HR2.out k hk).1)); have HR5 := Lib.hid hown5; clear hg5 hown5)
          go_roundw
          case rel => clear a1 a2 a3 a4; exact ⟨q, [⟨lo, hi⟩], by have := Hq.out; have := Hk.out; omega, by first | rfl | go_num, HI2, HR5, by have := Hq.out; simp; omega, HB5⟩
          case measure => clear a1 a2 a3 a4; (try clear b1 b2 b3 b4 b5); have := Hq.out; have := Hk.out; first | (simp [intOf]; done) | (simp [intOf]; omega)
        · simp only [List.concat_eq_append] at hbt HR2 HI2 Hk ⊢
          have e0 : (o' ++ [x]).length = o'.length + 1 := by simp
          obtain ⟨g7, cap7, e, hg71, hg72, _, _⟩ := own_form HR2.out (by rw [e0]; omega)
          injection e with e1 e2 e3
          subst e1 e3
          have hl0 := rgs_get (o' ++ [x]) o'.length (by omega)
          have hgl : (o' ++ [x])[o'.length]'(by omega) = x := by simp
          rw [hgl] at hl0
          have x1 := own_cell HR2.out _ _ hl0.2
          have x3 := own_free HR2.out (o'.length * 2 + 1)
          rw [e0] at hbt
          have hml : o'.length ≤ 1000000 := by simp at hol6; omega
          have HBB := Lib.hid (wrap_back o'.length hml)
          have hvr := HR2.out
          unfold RgsAt at hvr
          rw [e0] at hvr
          have HVR := Lib.hid hvr
          have He0 := Lib.hid e0
          rw [e0]
          clear hl0 hgl hvr e0
          by_cases hj : x.hi = lo - 1
          · have q1 : (x.hi == lo - 1) = true := beq_iff_eq.2 hj
            rw [joinEq_hit o' x lo hi hj] at HI2
            have HRe := Lib.hid (own_set (j := o'.length * 2 + 1) (u := .int .i64 hi) HVR.out (by omega))
            have HBe := Lib.hid (HB2.out.setCell (p := ⟨g7, o'.length * 2 + 1, none⟩) hg71 (.int .i64 hi))
            have Hst := Lib.hid (show ((o' ++ [x]).flatMap rgCells).set (o'.length * 2 + 1) (.int .i64 hi) = (o' ++ [(⟨x.lo, hi⟩ : Rg)]).flatMap rgCells by rw [rgs_set])
            clear hj HVR
            have b6 : (o'.length : Int) < (o'.length : Int) + 1 := by omega
            have b7 : o'.length < o'.length + 1 := by omega
            obtain ⟨⟨b1, b2⟩, ⟨b3, b4⟩, b5⟩ := HBB.out
            obtain ⟨⟨a1, a2⟩, a3, a4⟩ := HAA.out
            clear hol6 hbt
            go_upto_region 12 with fail
            clear a1 a2 a3 a4
            go_upto_region 14 with fail
            obtain ⟨⟨a1, a2⟩, a3, a4⟩ := HAA.out
            clear b1 b2 b3 b4 b5 b6 b7
            go_wp2_with fail
            go_roundw
            case rel => clear a1 a2 a3 a4; (try clear b1 b2 b3 b4 b5); exact ⟨q, o' ++ [⟨x.lo, hi⟩], by have := Hq.out; have := Hk.out; omega, by first | rfl | go_num, HI2, by
              show RgsAt _ _ _ _
              unfold RgsAt
              rw [← Hst.out, show (o' ++ [(⟨x.lo, hi⟩ : Rg)]).length = o'.length + 1 by simp]
              exact HRe.out, by have := Hq.out; have := Hk.out; simp at *; omega, HBe⟩
            case measure => clear a1 a2 a3 a4; (try clear b1 b2 b3 b4 b5); have := Hq.out; have := Hk.out; first | (simp [intOf]; done) | (simp [intOf]; omega)
          · have q1 : (x.hi == lo - 1) = false := beq_eq_false_iff_ne.2 hj
            rw [joinEq_miss o' x lo hi hj] at HI2
            clear hj
            have b6 : (o'.length : Int) < (o'.length : Int) + 1 := by omega
            have b7 : o'.length < o'.length + 1 := by omega
            have Hbt := Lib.hid hbt
            obtain ⟨⟨b1, b2⟩, ⟨b3, b4⟩, b5⟩ := HBB.out
            obtain ⟨⟨a1, a2⟩, a3, a4⟩ := HAA.out
            clear hol6 hbt
            go_upto_region 13 with fail
            clear a1 a2 a3 a4 b1 b2 b3 b4 b5 b6 b7
            have hbt := Hbt.out
            obtain ⟨⟨a1, a2⟩, a3, a4⟩ := HAA.out
            go_wp2_with (at_builtin; refine wp_append_lit slRange rfl (.tmp 61) (.tmp 65) rfl w1.heap.size _ (o'.length + 1) _ rfl (by exact HVR.out) #[.int .i64 lo, .int .i64 hi] rfl rfl (by simp [Value.oneCell']) (by exact hbt) (by exact HB2.out.size) ?_; intro v5 w5 hown5 hg5; have HB5 := Lib.hid (HB2.out.grown hg5 HB2.out.size (fun k hk => (own_lt HVR.out k hk).1)); have HR5 := Lib.hid hown5; clear hg5 hown5)
            go_roundw
            case rel => clear a1 a2 a3 a4; (try clear b1 b2 b3 b4 b5); exact ⟨q, (o' ++ [x]) ++ [⟨lo, hi⟩], by have := Hq.out; have := Hk.out; omega, by first | rfl | go_num, HI2, by
              show RgsAt _ _ _ _
              unfold RgsAt
              rw [rgs_snoc, List.length_append, He0.out]
              exact HR5.out, by have := Hq.out; have := Hk.out; simp at *; omega, HB5⟩
            case measure => clear a1 a2 a3 a4; (try clear b1 b2 b3 b4 b5); have := Hq.out; have := Hk.out; first | (simp [intOf]; done) | (simp [intOf]; omega)
    · have hkl : k = l.length := by omega
      have Hfin := Lib.hid (show BothSaid P rs w (.returned u7) wr from ⟨u7, l, rfl, by
        rw [HI.out, hkl, List.drop_length]
        exact own_base HR.out HB1.out.size, HS.out, HM.out, by
        rw [HI.out, hkl, List.drop_length]
        show outs.length ≤ _
        omega, HB1.out.trans (HB.out.mono HB1.out.size)⟩)
      obtain ⟨A7, c7, rfl⟩ := own_slice HR.out
      subst hkl
      clear HI HR HS HM HL
      go_wp2_with fail
      go_ret
      exact Hfin.out
/-- What a set of sets comes to. -/
def SetSaid (F : Int → Prop) (n : Nat) (w : World) (e : Ending) (w' : World) : Prop :=
  ∃ v L, e = .returned v ∧ RgsAt w' w.heap.size v L ∧ CanL L ∧ (∀ r, inSet L r ↔ F r) ∧ L.length ≤ n ∧ Below w.heap.size w w'
theorem both_said {kd : Int} {a b : List Rg} {w w' : World} {e : Ending} (h : BothSaid (fun r => inK kd (hasB a r) (hasB b r)) (a ++ b) w e w') {F : Int → Prop} (hF : ∀ r, (0 ≤ r ∧ r ≤ 1114111) ∧ inK kd (hasB a r) (hasB b r) = true ↔ F r) : SetSaid F (2 * (a.length + b.length) + 1) w e w' := by
  obtain ⟨v, l, rfl, h1, h2, h3, h4, h5⟩ := h
  obtain ⟨k1, k2⟩ := both_set a b kd l h2 h3
  exact ⟨v, _, rfl, h1, k1, fun r => (k2 r).trans (hF r), by rw [List.length_append] at h4; exact h4, h5⟩
theorem inRange_iff (rs : List Rg) (r : Int) : ((0 ≤ r ∧ r ≤ 1114111) ∧ hasB rs r = true) ↔ (0 ≤ r ∧ r ≤ 1114111) ∧ inSet rs r := by
  rw [hasB_iff]
  exact ⟨fun h => h.2, fun h => ⟨h.1, h⟩⟩
set_option maxRecDepth 100000 in
theorem make3_walk (w : World) (va : Value) (a : List Rg) (ha : RVal w va a) (hal : a.length ≤ 240000) :
    Calls Tryz.prog 69 #[va] w (SetSaid (fun r => (0 ≤ r ∧ r ≤ 1114111) ∧ inSet a r) (2 * a.length + 1) w) := by
  have HB := Lib.hid (both_walk w va (.slice none 0 0) a [] 0 ha (RVal.nil w) hal (by simp) (in0_walk w va _ a [] ha.list (RVal.nil w).list))
  have HF := Lib.hid (fun e w' h => both_said (kd := 0) (a := a) (b := []) (w := w) (w' := w') (e := e) h (F := fun r => (0 ≤ r ∧ r ≤ 1114111) ∧ inSet a r) (fun r => by
    show _ ∧ (hasB a r || hasB [] r) = true ↔ _
    rw [show hasB [] r = false by unfold hasB; simp, Bool.or_false]
    exact inRange_iff a r))
  obtain ⟨⟨_, _, rfl, _⟩, _⟩ := ha
  go_enter Tryz.func69, Tryz.ntmps69
  go_wp2_with fail
  refine HB.out.mono ?_
  intro e w1 h
  obtain ⟨v1, L, rfl, h1, h2, h3, h4, h5⟩ := HF.out e w1 h
  have H1 := Lib.hid (show SetSaid (fun r => (0 ≤ r ∧ r ≤ 1114111) ∧ inSet a r) (2 * a.length + 1) w (.returned v1) w1 from ⟨v1, L, rfl, h1, h2, h3, by simpa using h4, h5⟩)
  obtain ⟨A1, c1, rfl⟩ := own_slice h1
  clear h h1 h2 h3 h4 h5 HB HF
  go_wp2_with fail
  go_ret
  exact H1.out
set_option maxRecDepth 100000 in
theorem union3_walk (w : World) (va vb : Value) (a b : List Rg) (ha : RVal w va a) (hb : RVal w vb b) (hal : a.length ≤ 240000) (hbl : b.length ≤ 240000) :
    Calls Tryz.prog 41 #[va, vb] w (SetSaid (fun r => (0 ≤ r ∧ r ≤ 1114111) ∧ (inSet a r ∨ inSet b r)) (2 * (a.length + b.length) + 1) w) := by
  have HB := Lib.hid (both_walk w va vb a b 0 ha hb hal hbl (in0_walk w va _ a b ha.list hb.list))
  have HF := Lib.hid (fun e w' h => both_said (kd := 0) (a := a) (b := b) (w := w) (w' := w') (e := e) h (F := fun r => (0 ≤ r ∧ r ≤ 1114111) ∧ (inSet a r ∨ inSet b r)) (fun r => by
    show _ ∧ (hasB a r || hasB b r) = true ↔ _
    rw [Bool.or_eq_true, hasB_iff, hasB_iff]
    constructor
    · rintro ⟨h0, h | h⟩
      · exact ⟨h0, .inl h.2⟩
      · exact ⟨h0, .inr h.2⟩
    · rintro ⟨h0, h | h⟩
      · exact ⟨h0, .inl ⟨h0, h⟩⟩
      · exact ⟨h0, .inr ⟨h0, h⟩⟩))
  obtain ⟨⟨_, _, rfl, _⟩, _⟩ := ha
  obtain ⟨⟨_, _, rfl, _⟩, _⟩ := hb
  go_enter Tryz.func41, Tryz.ntmps41
  go_wp2_with fail
  refine HB.out.mono ?_
  intro e w1 h
  obtain ⟨v1, L, rfl, h1, h2, h3, h4, h5⟩ := HF.out e w1 h
  have H1 := Lib.hid (show SetSaid (fun r => (0 ≤ r ∧ r ≤ 1114111) ∧ (inSet a r ∨ inSet b r)) (2 * (a.length + b.length) + 1) w (.returned v1) w1 from ⟨v1, L, rfl, h1, h2, h3, h4, h5⟩)
  obtain ⟨A1, c1, rfl⟩ := own_slice h1
  clear h h1 h2 h3 h4 h5 HB HF
  go_wp2_with fail
  go_ret
  exact H1.out
end Go.Proofs.YtchkckfadennhaaGreatDoor
