/- rubricatorref09.Closure; rubricatorlaw09.FoldCloses answers true. -/
import Derived.Test.YtkgomgfhfoomhaaGreatDoorRef9
import Derived.Test.YtkgomgfhfoomhaaGreatDoorTwiceW
import Derived.Lib.SliceRun
namespace Go.Proofs.YtkgomgfhfoomhaaGreatDoor
open Go.RowKit
set_option linter.unusedVariables false
set_option linter.unusedSimpArgs false

theorem ListAt.cell9 {w : World} {A : Option Addr} {n c : Nat} {zs : List Int} (h : ListAt w (.slice A n c) zs) (i : Nat) (hi : i < zs.length) : ∃ ad, A = some ad ∧ w.cell? (ad.add i) = some (.int .i64 (zs.getD i 0)) := by
  obtain ⟨A', c', e, hn, hz⟩ := h
  injection e with e1 e2 e3
  subst e1
  obtain ⟨ad, h4, h5⟩ := hz (by omega)
  exact ⟨ad, h4, h5 i _ (intz_get zs i hi)⟩
/-- The ranges of those of a list that are in a set, as what they fold to. -/
def foldsOf9 (Φ : Files) (rs : List Rg) (l : List Int) : List Rg := (l.filter (hasB rs)).map fun r => ⟨simpleOf Φ r, simpleOf Φ r⟩
def moreOf9 (Φ : Files) (F : List Rg) (l : List Int) : List Rg := (l.filter fun r => hasB F (simpleOf Φ r)).map fun r => ⟨r, r⟩
theorem foldsOf9_hit {Φ : Files} {rs : List Rg} {l : List Int} {k : Nat} (h : k < l.length) (hh : hasB rs l[k] = true) : foldsOf9 Φ rs (l.take (k + 1)) = foldsOf9 Φ rs (l.take k) ++ [⟨simpleOf Φ l[k], simpleOf Φ l[k]⟩] := by
  unfold foldsOf9
  rw [List.take_succ_eq_append_getElem h, List.filter_append, List.filter_cons, hh, List.map_append]
  rfl
theorem foldsOf9_miss {Φ : Files} {rs : List Rg} {l : List Int} {k : Nat} (h : k < l.length) (hh : hasB rs l[k] = false) : foldsOf9 Φ rs (l.take (k + 1)) = foldsOf9 Φ rs (l.take k) := by
  unfold foldsOf9
  rw [List.take_succ_eq_append_getElem h, List.filter_append, List.filter_cons, hh]
  simp
theorem moreOf9_hit {Φ : Files} {F : List Rg} {l : List Int} {k : Nat} (h : k < l.length) (hh : hasB F (simpleOf Φ l[k]) = true) : moreOf9 Φ F (l.take (k + 1)) = moreOf9 Φ F (l.take k) ++ [⟨l[k], l[k]⟩] := by
  unfold moreOf9
  rw [List.take_succ_eq_append_getElem h, List.filter_append, List.filter_cons, hh, List.map_append]
  rfl
theorem moreOf9_miss {Φ : Files} {F : List Rg} {l : List Int} {k : Nat} (h : k < l.length) (hh : hasB F (simpleOf Φ l[k]) = false) : moreOf9 Φ F (l.take (k + 1)) = moreOf9 Φ F (l.take k) := by
  unfold moreOf9
  rw [List.take_succ_eq_append_getElem h, List.filter_append, List.filter_cons, hh]
  simp
theorem foldsOf9_len (Φ : Files) (rs : List Rg) (l : List Int) (k : Nat) : (foldsOf9 Φ rs (l.take k)).length ≤ l.length := by
  unfold foldsOf9
  rw [List.length_map]
  have h1 := List.length_filter_le (hasB rs) (l.take k)
  rw [List.length_take] at h1
  omega
theorem moreOf9_len (Φ : Files) (F : List Rg) (l : List Int) (k : Nat) : (moreOf9 Φ F (l.take k)).length ≤ l.length := by
  unfold moreOf9
  rw [List.length_map]
  have h1 := List.length_filter_le (fun r => hasB F (simpleOf Φ r)) (l.take k)
  rw [List.length_take] at h1
  omega
theorem ref_clo_set {Φ : Files} (hok : FilesOk Φ) (hS : Settled Φ) (hf : fitB Φ.fol = true) {rs : List Rg} {l : List Int} (hl : ∀ y, y ∈ l ↔ touchIn Φ Φ.fol y) (r : Int) :
    ((0 ≤ r ∧ r ≤ 1114111) ∧ (((0 ≤ r ∧ r ≤ 1114111) ∧ inSet rs r) ∨ inSet (moreOf9 Φ (foldsOf9 Φ rs l) l) r)) ↔ cloSet Φ rs r := by
  have hF : ∀ k, (0 ≤ k ∧ k ≤ 1114111) → (hasB (foldsOf9 Φ rs l) k = true ↔ allHits Φ rs k) := by
    intro k hk
    rw [hasB_iff, allHits_iff hS]
    constructor
    · rintro ⟨_, y, hy, h1, h2⟩
      unfold foldsOf9 at hy
      obtain ⟨q, hq, rfl⟩ := List.mem_map.1 hy
      obtain ⟨hq1, hq2⟩ := List.mem_filter.1 hq
      have h1 : simpleOf Φ q ≤ k := h1
      have h2 : k ≤ simpleOf Φ q := h2
      exact ⟨q, (touch_dom hok hS q).1 ((hl q).1 hq1), hq2, by omega⟩
    · rintro ⟨q, hq1, hq2, rfl⟩
      refine ⟨hk, ⟨simpleOf Φ q, simpleOf Φ q⟩, ?_, Int.le_refl _, Int.le_refl _⟩
      unfold foldsOf9
      exact List.mem_map.2 ⟨q, List.mem_filter.2 ⟨(hl q).2 ((touch_dom hok hS q).2 hq1), hq2⟩, rfl⟩
  have hM : (0 ≤ r ∧ r ≤ 1114111) → (inSet (moreOf9 Φ (foldsOf9 Φ rs l) l) r ↔ pairDom Φ r ∧ allHits Φ rs (simpleOf Φ r)) := by
    intro hr
    have hs := simple_in hf r hr
    constructor
    · rintro ⟨y, hy, h1, h2⟩
      unfold moreOf9 at hy
      obtain ⟨q, hq, rfl⟩ := List.mem_map.1 hy
      obtain ⟨hq1, hq2⟩ := List.mem_filter.1 hq
      have h1 : q ≤ r := h1
      have h2 : r ≤ q := h2
      obtain rfl : q = r := by omega
      exact ⟨(touch_dom hok hS q).1 ((hl q).1 hq1), (hF _ hs).1 hq2⟩
    · rintro ⟨h1, h2⟩
      refine ⟨⟨r, r⟩, ?_, Int.le_refl _, Int.le_refl _⟩
      unfold moreOf9
      exact List.mem_map.2 ⟨r, List.mem_filter.2 ⟨(hl r).2 ((touch_dom hok hS r).2 h1), (hF _ hs).2 h2⟩, rfl⟩
  unfold cloSet
  constructor
  · rintro ⟨h0, h | h⟩
    · exact ⟨h0, .inl h.2⟩
    · exact ⟨h0, .inr ((hM h0).1 h)⟩
  · rintro ⟨h0, h | h⟩
    · exact ⟨h0, .inl ⟨h0, h⟩⟩
    · exact ⟨h0, .inr ((hM h0).2 h)⟩
set_option maxRecDepth 100000 in
set_option maxHeartbeats 3200000 in
theorem closure09_walk {w : World} {B b : Nat} {Φ : Files} (hr : RefAt w B b Φ) (hok : FilesOk Φ) (hS : Settled Φ) (hf : fitB Φ.fol = true) (hwd : widthOf Φ.fol ≤ 100000) {va : Value} {rs : List Rg} (ha : RVal w va rs) (hal : rs.length ≤ 1000) :
    Calls Tryz.prog 42 #[.pointer (some ⟨b, 0, none⟩), va] w (SetSaid (cloSet Φ rs) 1000000 w) := by
  have HR := Lib.hid hr
  have HA := Lib.hid ha
  have HMk := Lib.hid (make3_walk w va rs ha (by omega))
  have HT := Lib.hid (fun W (h : RefAt W B b Φ) => touched_walk h hok hwd)
  have HSi := Lib.hid (fun W (h : RefAt W B b Φ) (r : Int) => simple09_walk h hok r)
  have Hset := Lib.hid (fun (l : List Int) (hl : ∀ y, y ∈ l ↔ touchIn Φ Φ.fol y) (r : Int) => ref_clo_set hok hS hf (rs := rs) hl r)
  obtain ⟨⟨A, c, rfl, _, x1⟩, x2⟩ := ha
  clear hr x1 x2 hf hS
  go_enter Tryz.func42, Tryz.ntmps42
  go_wp2_with fail
  refine HMk.out.mono ?_
  rintro e w1 ⟨v1, L1, rfl, h1, h2, h3, h4, h5⟩
  have HL1 := Lib.hid (RVal.of_own h1)
  have HS1 := Lib.hid h3
  have hn1 : L1.length ≤ 2001 := by omega
  have HB1 := Lib.hid h5
  have HR1 := Lib.hid (HR.out.below h5)
  have HA1 := Lib.hid (HA.out.below h5)
  obtain ⟨A1, c1, rfl⟩ := own_slice h1
  clear h1 h2 h3 h4 h5 HMk HR HA
  go_wp2_with fail
  refine (HT.out _ HR1.out).mono ?_
  rintro e w2 ⟨v2, l, rfl, k1, k2, k3, k4⟩
  have Hl := Lib.hid k1
  have Hmem := Lib.hid k2
  have hln : l.length ≤ 200000 := by omega
  have HB2 := Lib.hid (HB1.out.trans (k4.mono HB1.out.size))
  have HR2 := Lib.hid (HR1.out.below k4)
  have HA2 := Lib.hid (HA1.out.below k4)
  have HL2 := Lib.hid (HL1.out.below k4)
  have HLl := Lib.hid (ListAt.of_own k1)
  obtain ⟨A2, c2, rfl⟩ := own_slice k1
  clear k1 k2 k3 k4 HT HR1 HA1 HL1 HB1 Hl
  go_wp2_with fail
  go_loopw [7, 19] (fun u i wr => ∃ k : Nat, k ≤ l.length ∧ i = .int .i64 k ∧ Hid (RgsAt wr w2.heap.size u (foldsOf9 Φ rs (l.take k))) ∧ Hid (Below w2.heap.size w2 wr)) (fun _ i _ => l.length - (intOf i).toNat)
  case atStart => exact ⟨0, by omega, rfl, World.ownsRow_nil _ _ _ _, Below.refl _ _⟩
  case round =>
    obtain ⟨k, hk, rfl, HF, HB⟩ := hrel
    by_cases hlt : k < l.length
    · obtain ⟨ad, rfl, cx⟩ := (ListAt.below HLl.out HB.out).cell9 k hlt
      have hgd : l.getD k 0 = l[k] := by rw [List.getD_eq_getElem?_getD, List.getElem?_eq_getElem hlt]; rfl
      rw [hgd] at cx
      have hbt : ((foldsOf9 Φ rs (l.take k)).length + 1) * 16 ≤ 140737488355328 := by have := foldsOf9_len Φ rs l k; omega
      have Hhit := Lib.hid (fun h => foldsOf9_hit (Φ := Φ) (rs := rs) hlt h)
      have Hmiss := Lib.hid (fun h => foldsOf9_miss (Φ := Φ) (rs := rs) hlt h)
      clear hgd
      generalize l[k] = x at *
      generalize foldsOf9 Φ rs (l.take k) = fs at *
      have HBw := Lib.hid (HB2.out.trans (HB.out.mono HB2.out.size))
      go_wp2_with fail
      refine (has3_walk _ _ rs x (HA2.out.list.below HB.out)).mono ?_
      rintro e w3 ⟨rfl, hb3⟩
      have HF3 := Lib.hid (show RgsAt w3 w2.heap.size u7 fs from own_below HF.out hb3)
      have HB3 := Lib.hid (HB.out.trans (hb3.mono HB.out.size))
      clear hb3 HF HB cx
      cases hh : hasB rs x with
      | false =>
        have HN := Lib.hid (Hmiss.out hh)
        clear hh
        go_wp2_with fail
        go_roundw
        case rel => exact ⟨k + 1, by omega, by go_num, (by show RgsAt _ _ _ _; rw [HN.out]; exact HF3.out), HB3⟩
        case measure => simp [intOf]; omega
      | true =>
        have HN := Lib.hid (Hhit.out hh)
        obtain ⟨s, Hs⟩ : ∃ s, Hid (s = simpleOf Φ x) := ⟨_, rfl⟩
        rw [← Hs.out] at HN
        have HSx := Lib.hid (fun W (h : RefAt W B b Φ) => HSi.out W h x)
        rw [← Hs.out] at HSx
        clear hh
        go_wp2_with fail
        refine (HSx.out _ (HR2.out.below HB3.out)).mono ?_
        rintro e w4 ⟨rfl, hb4⟩
        have HF4 := Lib.hid (show RgsAt w4 w2.heap.size u7 fs from own_below HF3.out hb4)
        have HB4 := Lib.hid (HB3.out.trans (hb4.mono HB3.out.size))
        clear hb4 HF3 HB3
        go_wp2_with fail
        refine (HSx.out _ (HR2.out.below HB4.out)).mono ?_
        rintro e w5 ⟨rfl, hb5⟩
        have HF5 := Lib.hid (show RgsAt w5 w2.heap.size u7 fs from own_below HF4.out hb5)
        have HB5 := Lib.hid (HB4.out.trans (hb5.mono HB4.out.size))
        clear hb5 HF4 HB4
        go_wp2_with (at_builtin; refine wp_append_lit slRange rfl (.tmp 26) (.tmp 34) rfl w2.heap.size u7 _ _ rfl (by exact HF5.out) #[.int .i64 s, .int .i64 s] rfl rfl (by simp [Value.oneCell']) (by exact hbt) (by exact HB5.out.size) ?_; intro v6 w6 hown6 hg6; have HB6 := Lib.hid (HB5.out.grown hg6 HB5.out.size (fun k hk => (own_lt HF5.out k hk).1)); have HR6 := Lib.hid hown6; clear hg6 hown6)
        go_roundw
        case rel => exact ⟨k + 1, by omega, by go_num, (by
          show RgsAt _ _ _ _
          rw [HN.out]
          unfold RgsAt
          rw [rgs_snoc, List.length_append]
          exact HR6.out), HB6⟩
        case measure => simp [intOf]; omega
    · have hkl : k = l.length := by omega
      have HF2 := Lib.hid (show RVal wr u7 (foldsOf9 Φ rs l) by have := HF.out; rw [hkl, List.take_length] at this; exact RVal.of_own this)
      have hFl := foldsOf9_len Φ rs l l.length
      rw [List.take_length] at hFl
      obtain ⟨A7, c7, rfl⟩ := own_slice HF.out
      subst hkl
      have HB3 := Lib.hid (HB2.out.trans (HB.out.mono HB2.out.size))
      have HR3 := Lib.hid (HR2.out.below HB.out)
      have HL3 := Lib.hid (HL2.out.below HB.out)
      have HLl3 := Lib.hid (HLl.out.below HB.out)
      rw [List.take_length] at HF HF2
      obtain ⟨fs, Hfs⟩ : ∃ fs, Hid (fs = foldsOf9 Φ rs l) := ⟨_, rfl⟩
      rw [List.take_length]
      rw [← Hfs.out] at HF2 hFl
      rw [← Hfs.out]
      clear HF HB HB2 HR2 HA2 HL2 HLl
      obtain ⟨Wr, rfl⟩ : ∃ W, W = wr := ⟨_, rfl⟩
      go_wp2_with fail
      go_loopw [10, 39] (fun u i w4 => ∃ k : Nat, k ≤ l.length ∧ i = .int .i64 k ∧ Hid (RgsAt w4 Wr.heap.size u (moreOf9 Φ fs (l.take k))) ∧ Hid (Below Wr.heap.size Wr w4)) (fun _ i _ => l.length - (intOf i).toNat)
      case atStart => exact ⟨0, by omega, rfl, World.ownsRow_nil _ _ _ _, Below.refl _ _⟩
      case round =>
        obtain ⟨k, hk, rfl, HM, HB⟩ := hrel
        by_cases hlt : k < l.length
        · obtain ⟨ad, rfl, cx⟩ := (ListAt.below HLl3.out HB.out).cell9 k hlt
          have hgd : l.getD k 0 = l[k] := by rw [List.getD_eq_getElem?_getD, List.getElem?_eq_getElem hlt]; rfl
          rw [hgd] at cx
          have hbt : ((moreOf9 Φ fs (l.take k)).length + 1) * 16 ≤ 140737488355328 := by have := moreOf9_len Φ fs l k; omega
          have Hhit := Lib.hid (fun h => moreOf9_hit (Φ := Φ) (F := fs) hlt h)
          have Hmiss := Lib.hid (fun h => moreOf9_miss (Φ := Φ) (F := fs) hlt h)
          clear hgd
          generalize l[k] = x at *
          generalize moreOf9 Φ fs (l.take k) = ms at *
          have HSx := Lib.hid (HSi.out _ (HR3.out.below HB.out) x)
          generalize simpleOf Φ x = s at *
          go_wp2_with fail
          refine HSx.out.mono ?_
          rintro e w5 ⟨rfl, hb5⟩
          have HM5 := Lib.hid (show RgsAt w5 Wr.heap.size u10 ms from own_below HM.out hb5)
          have HB5 := Lib.hid (HB.out.trans (hb5.mono HB.out.size))
          clear hb5 HM HB cx HSx
          go_wp2_with fail
          refine (has3_walk _ _ fs s (HF2.out.list.below HB5.out)).mono ?_
          rintro e w6 ⟨rfl, hb6⟩
          have HM6 := Lib.hid (show RgsAt w6 Wr.heap.size u10 ms from own_below HM5.out hb6)
          have HB6 := Lib.hid (HB5.out.trans (hb6.mono HB5.out.size))
          clear hb6 HM5 HB5
          cases hh : hasB fs s with
          | false =>
            have HN := Lib.hid (Hmiss.out hh)
            clear hh
            go_wp2_with fail
            go_roundw
            case rel => exact ⟨k + 1, by omega, by go_num, (by show RgsAt _ _ _ _; rw [HN.out]; exact HM6.out), HB6⟩
            case measure => simp [intOf]; omega
          | true =>
            have HN := Lib.hid (Hhit.out hh)
            clear hh
            go_wp2_with (at_builtin; refine wp_append_lit slRange rfl (.tmp 48) (.tmp 52) rfl Wr.heap.size u10 _ _ rfl (by exact HM6.out) #[.int .i64 x, .int .i64 x] rfl rfl (by simp [Value.oneCell']) (by exact hbt) (by exact HB6.out.size) ?_; intro v7 w7 hown7 hg7; have HB7 := Lib.hid (HB6.out.grown hg7 HB6.out.size (fun k hk => (own_lt HM6.out k hk).1)); have HR7 := Lib.hid hown7; clear hg7 hown7)
            go_roundw
            case rel => exact ⟨k + 1, by omega, by go_num, (by
              show RgsAt _ _ _ _
              rw [HN.out]
              unfold RgsAt
              rw [rgs_snoc, List.length_append]
              exact HR7.out), HB7⟩
            case measure => simp [intOf]; omega
        · have hkl : k = l.length := by omega
          have HM2 := Lib.hid (show RVal wr u10 (moreOf9 Φ fs l) by have := HM.out; rw [hkl, List.take_length] at this; exact RVal.of_own this)
          have hMl := moreOf9_len Φ fs l l.length
          rw [List.take_length] at hMl
          obtain ⟨A10, c10, rfl⟩ := own_slice HM.out
          subst hkl
          rw [List.take_length] at HM2 ⊢
          have HB4 := Lib.hid (HB3.out.trans (HB.out.mono HB3.out.size))
          have HL4 := Lib.hid (HL3.out.below HB.out)
          have HUn := Lib.hid (union3_walk _ _ _ L1 (moreOf9 Φ fs l) HL4.out HM2.out (by omega) (by omega))
          clear HM HB HB3 HR3 HL3 HLl3
          go_wp2_with fail
          refine HUn.out.mono ?_
          rintro e w8 ⟨v8, L8, rfl, j1, j2, j3, j4, j5⟩
          have Hfin := Lib.hid (show SetSaid (cloSet Φ rs) 1000000 w (.returned v8) w8 from ⟨v8, L8, rfl, own_base j1 HB4.out.size, j2, fun r => by
            have q1 : inSet L1 r ↔ (0 ≤ r ∧ r ≤ 1114111) ∧ inSet rs r := HS1.out r
            have q2 := Hset.out l Hmem.out r
            rw [← Hfs.out] at q2
            rw [j3 r]
            show (0 ≤ r ∧ r ≤ 1114111) ∧ (inSet L1 r ∨ inSet (moreOf9 Φ fs l) r) ↔ _
            rw [q1]
            exact q2, by omega, HB4.out.trans (j5.mono HB4.out.size)⟩)
          obtain ⟨A8, c8, rfl⟩ := own_slice j1
          clear j1 j2 j3 j4 j5
          go_wp2_with fail
          go_ret
          exact Hfin.out
set_option maxRecDepth 100000 in
theorem rclone_walk {w : World} {v : Value} {rs : List Rg} (h : RValC w v rs) (hl : rs.length ≤ 1000000) : Calls Tryz.prog 41 #[v] w fun e w' => ∃ v', e = .returned v' ∧ RgsAt w' w.heap.size v' rs ∧ Below w.heap.size w w' := by
  obtain ⟨hv, A, c, rfl, hnc, hA⟩ := h
  have q44 : ∀ (w : World) (a : Option Addr) (n c n' c' : Nat), (binOp .eql 44 (.slice a n c) (.slice none n' c')).run Tryz.prog w = .ok (.bool a.isNone) w := fun w a n c n' c' => Lib.run_eql_slice_nil w _ _ a n c n' c' Tryz.underlying44
  have hba := alloc_below w (Obj.cells #[] 48)
  cases A with
  | none =>
    have h0 : rs = [] := by
      have := hA rfl
      exact List.length_eq_zero_iff.1 (by omega)
    subst h0
    clear hv hA hba
    go_enter Tryz.func41, Tryz.ntmps41
    go_wp2_with fail
    go_ret
    exact ⟨_, rfl, World.ownsRow_nil _ _ _ _, Below.refl _ _⟩
  | some ad =>
    have HC := Lib.hid (show ∀ ad', some ad = some ad' → ∀ j u, (rs.flatMap rgCells)[j]? = some u → (w.alloc (Obj.cells #[] 48)).cell? (ad'.add j) = some u by
      rintro ad' e
      cases e
      exact RListAt.cells (hv.list.below hba))
    have HO := Lib.hid (own_fresh0 w 48 2)
    have HB := Lib.hid hba
    have Hfl := Lib.hid (flat_len rgCells 2 (fun _ => rfl) rs)
    clear hv hA hba
    go_enter Tryz.func41, Tryz.ntmps41
    go_wp2_with (at_builtin; refine wp_append_more (w.alloc (Obj.cells #[] 48)) slRange rfl (.tmp 5) (.tmp 6) rfl w.heap.size _ 0 [] rfl (by exact HO.out) (some ad) rs.length c (rs.flatMap rgCells) rfl (by intro h; cases h) (by exact Hfl.out) HC.out (rgs_one rs) (by omega) HB.out.size ?_; intro v3 w3 hown hg; have HB3 := Lib.hid (HB.out.grown hg HB.out.size (fun k hk => (by have e : w.heap.size = k := Option.some.inj (show some w.heap.size = some k from hk); omega))); have HO3 := Lib.hid hown; clear hown hg)
    go_ret
    refine ⟨_, rfl, ?_, HB3.out⟩
    have := HO3.out
    rw [Nat.zero_add, List.nil_append] at this
    exact this
set_option maxRecDepth 100000 in
set_option maxHeartbeats 1600000 in
theorem foldCloses_walk {v0 : Value} {rs0 : List Rg} (w : World) (hl0 : RValC w v0 rs0) (hE : Env w) (hT : EnvT w) : Calls Tryz.prog 10 #[v0] w fun e w' => e = .returned (.bool true) ∧ Below w.heap.size w w' := by
  have HLD := Lib.hid (fun (W : World) (hb : Below w.heap.size w W) => load_calls W (hE.below hb) (hT.below hb))
  have HRL := Lib.hid (fun W => ref_load W)
  have HA := Lib.hid (fun (W : World) (hb : Below w.heap.size w W) => awake9_walk W (hE.below hb) (hT.below hb))
  have HC := Lib.hid (fun (W : World) (m : Nat) (v : Value) (rs : List Rg) (ht : TabAt W m files) (hb : Below w.heap.size w W) (hl : RVal W v rs) (hn : rs.length ≤ 500000) => clof_walk ht (hE.below hb) hl.list hl.form hn)
  have HCr := Lib.hid (fun (W : World) (B b : Nat) (v : Value) (rs : List Rg) (hr : RefAt W B b files) (hl : RVal W v rs) (hn : rs.length ≤ 1000) => closure09_walk hr files_ok files_settled files_fit (awakeK_of files_awake).2 hl hn)
  have Hset := Lib.hid files_settled
  generalize files = Φ at *
  clear hE hT
  obtain ⟨hv0, A, c, rfl, hac, hA⟩ := hl0
  obtain ⟨k, hk1, hk2⟩ : ∃ k : Nat, (if 30 < (rs0.length : Int) then 30 else (rs0.length : Int)) = k ∧ (k ≤ 30 ∧ k ≤ rs0.length) := by
    by_cases h : 30 < (rs0.length : Int)
    · exact ⟨30, by rw [if_pos h]; rfl, by omega⟩
    · exact ⟨rs0.length, by rw [if_neg h], by omega⟩
  have m2 : min (rs0.length : Int) 30 = k := by rw [← hk1]; split <;> omega
  have m3 : (if (rs0.length : Int) ≤ 30 then (rs0.length : Int) else 30) = k := by rw [← hk1]; split <;> split <;> omega
  obtain ⟨rs, hrs, hrl⟩ : ∃ rs : List Rg, rs = rs0.take k ∧ rs.length = k := ⟨_, rfl, by rw [List.length_take]; omega⟩
  have HAL := Lib.hid (show RValC w (.slice A k c) rs from ⟨by rw [hrs]; exact hv0.cut hk2.2, A, c, by rw [hrl], by omega, hA⟩)
  have hln : rs0.length ≤ 9223372036854775807 := by
    obtain ⟨⟨_, _, _, h, _⟩, _⟩ := hv0
    exact h
  clear hv0 hrs hA
  subst hrl
  have hk30 := hk2.1
  go_enter Tryz.func10, Tryz.ntmps10
  go_wp2_with fail
  refine (rclone_walk HAL.out (by omega)).mono ?_
  rintro e w0 ⟨v3, rfl, hr0, hb0⟩
  have HG0 := Lib.hid (RVal.of_own hr0)
  have HA0 := Lib.hid (HAL.out.1.below hb0)
  have HB0 := Lib.hid hb0
  obtain ⟨A3, c3, rfl⟩ := own_slice hr0
  clear hr0 hb0 HAL hk1 hk2 m2 m3
  go_wp2_with fail
  refine (HLD.out _ HB0.out).mono ?_
  rintro e w1 ⟨rfl, ht, hb1⟩
  have HT1 := Lib.hid ht
  have HB1 := Lib.hid (HB0.out.trans (hb1.mono HB0.out.size))
  have HG1 := Lib.hid (HG0.out.below hb1)
  have HA1 := Lib.hid (HA0.out.below hb1)
  clear ht hb1 HLD HG0 HA0 HB0
  go_wp2_with fail
  refine (HC.out _ _ _ rs HT1.out HB1.out HG1.out (by omega)).mono ?_
  intro e w2 hcl
  obtain ⟨v2, L, rfl, hr2, hcan, hset, hb2, hLl⟩ := closure_set2 Hset.out hcl
  have HB2 := Lib.hid (HB1.out.trans (hb2.mono HB1.out.size))
  have HG2 := Lib.hid (HG1.out.below hb2)
  have HA2 := Lib.hid (HA1.out.below hb2)
  have HL2 := Lib.hid (RListAt.of_own hr2)
  have Hcan := Lib.hid hcan
  have HS := Lib.hid hset
  obtain ⟨A2, c2, rfl⟩ := own_slice hr2
  clear hcl hb2 hr2 hcan hset HT1 HB1 HG1 HA1 hLl HC
  go_wp2_with fail
  refine (HRL.out _).mono ?_
  rintro e w3 ⟨b, rfl, hr, hb3⟩
  generalize w2.heap.size = B at hr
  have HR3 := Lib.hid hr
  have HB3 := Lib.hid (HB2.out.trans (hb3.mono HB2.out.size))
  have HG3 := Lib.hid (HG2.out.below hb3)
  have HA3 := Lib.hid (HA2.out.below hb3)
  have HL3 := Lib.hid (HL2.out.below hb3)
  clear hr hb3 HRL HB2 HG2 HA2 HL2
  go_wp2_with fail
  refine (HCr.out _ B b _ rs HR3.out HA3.out (by omega)).mono ?_
  rintro e w4 ⟨v4, L4, rfl, hr4, hcan4, hset4, _, hb4⟩
  obtain rfl : L4 = L := can_unique hcan4 Hcan.out fun r => (hset4 r).trans (HS.out r).symm
  have HB4 := Lib.hid (HB3.out.trans (hb4.mono HB3.out.size))
  have HG4 := Lib.hid (HG3.out.below hb4)
  have HA4 := Lib.hid (HA3.out.below hb4)
  have HL4 := Lib.hid (HL3.out.below hb4)
  have HV4 := Lib.hid (RListAt.of_own hr4)
  obtain ⟨A4, c4, rfl⟩ := own_slice hr4
  clear hr4 hcan4 hset4 hb4 HR3 HB3 HG3 HA3 HL3 HCr
  go_wp2_with fail
  refine (requal_walk HL4.out HV4.out).mono ?_
  rintro e w5 ⟨rfl, hb5⟩
  have HB5 := Lib.hid (HB4.out.trans (hb5.mono HB4.out.size))
  have HG5 := Lib.hid (HG4.out.below hb5)
  have HA5 := Lib.hid (HA4.out.below hb5)
  clear hb5 HB4 HG4 HA4 HL4 HV4
  go_wp2_with fail
  refine (requal_walk HG5.out.list HA5.out.list).mono ?_
  rintro e w6 ⟨rfl, hb6⟩
  have HB6 := Lib.hid (HB5.out.trans (hb6.mono HB5.out.size))
  clear hb6 HB5
  go_wp2_with fail
  refine (HA.out _ HB6.out).mono ?_
  rintro e w7 ⟨rfl, hb7⟩
  have HB7 := Lib.hid (HB6.out.trans (hb7.mono HB6.out.size))
  clear hb7
  go_wp2_with fail
  go_ret
  exact ⟨rfl, HB7.out⟩
end Go.Proofs.YtkgomgfhfoomhaaGreatDoor
