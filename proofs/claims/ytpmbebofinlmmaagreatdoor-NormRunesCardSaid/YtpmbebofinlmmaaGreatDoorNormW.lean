/- norm.Items. Printed by wip/tools/mknormw.py. -/
import Derived.Test.YtpmbebofinlmmaaGreatDoorNormI
import Derived.Test.YtpmbebofinlmmaaGreatDoorStb2
import Derived.Test.YtpmbebofinlmmaaGreatDoorRefP
namespace Go.Proofs.YtpmbebofinlmmaaGreatDoor
open Go.RowKit Go.Sort Stb
set_option linter.unusedVariables false
set_option linter.unusedSimpArgs false

def mkPart (K : Int → Int) (x : It) (r : Int) : Part := ⟨r, x.s, x.e, K r⟩
def partsG (D : Int → List Int) (K : Int → Int) (xs : List It) : List Part := xs.flatMap fun x => (D x.r).map (mkPart K x)
def toIt (p : Part) : It := ⟨p.r, p.s, p.e⟩
def nfdG (D : Int → List Int) (K : Int → Int) (xs : List It) : List It := (Nrm.ord ptKey (partsG D K xs)).map toIt
theorem partsG_snoc (D : Int → List Int) (K : Int → Int) (xs : List It) (x : It) : partsG D K (xs ++ [x]) = partsG D K xs ++ (D x.r).map (mkPart K x) := by
  unfold partsG
  rw [List.flatMap_append]
  simp
theorem partsG_take_le (D : Int → List Int) (K : Int → Int) (xs : List It) (k : Nat) : (partsG D K (xs.take k)).length ≤ (partsG D K xs).length := by
  have h : xs = xs.take k ++ xs.drop k := (List.take_append_drop k xs).symm
  conv => rhs; rw [h]
  unfold partsG
  rw [List.flatMap_append, List.length_append]
  omega
theorem partsG_key {D : Int → List Int} {K : Int → Int} (hK : ∀ r, 0 ≤ K r) (xs : List It) : ∀ p ∈ partsG D K xs, 0 ≤ ptKey p := by
  intro p hp
  unfold partsG at hp
  obtain ⟨x, _, hx⟩ := List.mem_flatMap.1 hp
  obtain ⟨r, _, rfl⟩ := List.mem_map.1 hx
  exact hK r
theorem parts_snoc (ps : List Part) (p : Part) : ps.flatMap ptCells ++ [.int .i64 p.r, .int .i64 p.s, .int .i64 p.e, .int .i64 p.c] = (ps ++ [p]).flatMap ptCells := by
  rw [List.flatMap_append]
  rfl
theorem items_snoc (xs : List It) (x : It) : xs.flatMap itCells ++ [.int .i64 x.r, .int .i64 x.s, .int .i64 x.e] = (xs ++ [x]).flatMap itCells := by
  rw [List.flatMap_append]
  rfl
/-- What stands at the label. -/
structure NI (L0 : List Part) (w w' : World) (v5 : Value) (at_ : Nat) (L : List Part) : Prop where
  le : at_ ≤ L0.length
  len : L.length = L0.length
  eq : L = Nrm.ord ptKey (L0.take at_) ++ L0.drop at_
  base : Nrm.Base ptKey (L0.take at_) ∨ ∀ y, L0[at_]? = some y → ptKey y ≤ 0
  own : PartsAt w' w.heap.size v5 L
  bel : Below w.heap.size w w'
theorem NI.rest {L0 L : List Part} {w w' : World} {v5 : Value} {at_ : Nat} (h : NI L0 w w' v5 at_ L) (i : Nat) (h1 : at_ ≤ i) : L[i]? = L0[i]? := by
  have hl : (Nrm.ord ptKey (L0.take at_)).length = at_ := by rw [(Nrm.ord_perm _).length_eq, List.length_take]; have := h.le; omega
  rw [h.eq, List.getElem?_append_right (by omega), hl, List.getElem?_drop]
  congr 1
  omega
/-- One of class 0 is passed. -/
theorem NI.skip {L0 L : List Part} {w w' : World} {v5 : Value} {at_ : Nat} (h : NI L0 w w' v5 at_ L) {y : Part} (hy : L0[at_]? = some y) (hk : ptKey y ≤ 0) : NI L0 w w' v5 (at_ + 1) L := by
  have hlt := (List.getElem?_eq_some_iff.1 hy).1
  have e : L0.take (at_ + 1) = L0.take at_ ++ [y] := by
    rw [List.take_succ_eq_append_getElem hlt]
    congr 2
    exact (List.getElem?_eq_some_iff.1 hy).2
  refine ⟨hlt, h.len, ?_, .inl (.inr ⟨_, y, e, hk⟩), h.own, h.bel⟩
  rw [e, Nrm.ord_zero _ hk, h.eq, List.append_assoc]
  congr 1
  rw [List.drop_eq_getElem_cons hlt]
  have := (List.getElem?_eq_some_iff.1 hy).2
  rw [this]
  rfl
theorem NI.done {L0 L : List Part} {w w' : World} {v5 : Value} {at_ : Nat} (h : NI L0 w w' v5 at_ L) (hn : at_ = L0.length) : L = Nrm.ord ptKey L0 := by
  rw [h.eq, hn, List.take_length, List.drop_length, List.append_nil]
/-- A run is sorted. -/
theorem NI.run {L0 L : List Part} {w w' w2 : World} {g cap : Nat} {at_ e2 : Nat} (h : NI L0 w w' (.slice (some ⟨g, 0, none⟩) L0.length cap) at_ L) (h1 : at_ < e2) (h2 : e2 ≤ L0.length) (hpos : ∀ y ∈ (L0.drop at_).take (e2 - at_), 0 < ptKey y)
    (hnext : ∀ y, L0[e2]? = some y → ptKey y ≤ 0) {d' : Array Part} (hst : Stable ptKey (((L0.drop at_).take (e2 - at_)).toArray).toList d'.toList) (hsz : d'.size = (((L0.drop at_).take (e2 - at_)).toArray).size)
    (hw : SWK ptCells 4 w' g (at_ * 4) d' w2) : ∃ L', NI L0 w w2 (.slice (some ⟨g, 0, none⟩) L0.length cap) e2 L' := by
  have hlo : (Nrm.ord ptKey (L0.take at_)).length = at_ := by rw [(Nrm.ord_perm _).length_eq, List.length_take]; have := h.le; omega
  have hdr : L0.drop at_ = (L0.drop at_).take (e2 - at_) ++ L0.drop e2 := by
    have := List.take_append_drop (e2 - at_) (L0.drop at_)
    rw [List.drop_drop, show at_ + (e2 - at_) = e2 by omega] at this
    exact this.symm
  have hrl : ((L0.drop at_).take (e2 - at_)).length = e2 - at_ := by rw [List.length_take, List.length_drop]; omega
  have hown : w'.ownsRow w.heap.size 110 4 (.slice (some ⟨g, 0, none⟩) L0.length cap) L0.length ((Nrm.ord ptKey (L0.take at_) ++ ((((L0.drop at_).take (e2 - at_)).toArray).toList ++ L0.drop e2)).flatMap ptCells) := by
    have := h.own
    unfold PartsAt at this
    rw [h.len, h.eq, hdr] at this
    exact this
  obtain ⟨r1, r2⟩ := own_seg (X := L0) pt_len hown (by rw [hlo, List.size_toArray, hrl, List.length_drop]; omega) hsz (by rw [hlo]; exact hw)
  have hbase : Nrm.Base ptKey (L0.take at_) := by
    rcases h.base with hb | hb
    · exact hb
    · have hlt : at_ < L0.length := by omega
      have h3 := hb L0[at_] (List.getElem?_eq_getElem hlt)
      have h4 := hpos L0[at_] (by
        rw [List.drop_eq_getElem_cons hlt, show e2 - at_ = (e2 - at_ - 1) + 1 by omega, List.take_succ_cons]
        exact List.mem_cons_self)
      omega
  have htk : L0.take e2 = L0.take at_ ++ (L0.drop at_).take (e2 - at_) := by
    have := List.take_add (l := L0) (i := at_) (j := e2 - at_)
    rw [show at_ + (e2 - at_) = e2 by omega] at this
    exact this
  have hord : Nrm.ord ptKey (L0.take e2) = Nrm.ord ptKey (L0.take at_) ++ d'.toList := by
    rw [htk]
    exact Nrm.ord_run hbase hpos hst
  have hdl : d'.toList.length = e2 - at_ := by rw [Array.length_toList, hsz, List.size_toArray, hrl]
  refine ⟨Nrm.ord ptKey (L0.take at_) ++ (d'.toList ++ L0.drop e2), h2, ?_, ?_, .inr hnext, ?_, ?_⟩
  · rw [List.length_append, List.length_append, hlo, hdl, List.length_drop]; omega
  · rw [hord, List.append_assoc]
  · unfold PartsAt
    rw [show (Nrm.ord ptKey (L0.take at_) ++ (d'.toList ++ L0.drop e2)).length = L0.length by rw [List.length_append, List.length_append, hlo, hdl, List.length_drop]; omega]
    exact r1
  · exact h.bel.grown r2 h.bel.size (fun k hk => by cases hk; exact (own_lt h.own g rfl).1)
theorem NI.holds {L0 L : List Part} {w w' : World} {g cap : Nat} {at_ e2 : Nat} (h : NI L0 w w' (.slice (some ⟨g, 0, none⟩) L0.length cap) at_ L) (h1 : at_ < e2) (h2 : e2 ≤ L0.length) : HoldsK ptCells 4 w' g (at_ * 4) ((L0.drop at_).take (e2 - at_)).toArray ∧ g < w'.heap.size := by
  have hlo : (Nrm.ord ptKey (L0.take at_)).length = at_ := by rw [(Nrm.ord_perm _).length_eq, List.length_take]; have := h.le; omega
  have hdr : L0.drop at_ = (L0.drop at_).take (e2 - at_) ++ L0.drop e2 := by
    have := List.take_append_drop (e2 - at_) (L0.drop at_)
    rw [List.drop_drop, show at_ + (e2 - at_) = e2 by omega] at this
    exact this.symm
  have hH : HoldsK ptCells 4 w' g 0 L.toArray := own_holds pt_len (d := L.toArray) (n := L0.length) (by
    have := h.own
    unfold PartsAt at this
    rw [h.len] at this
    exact this) (by rw [List.size_toArray]; exact h.len)
  have := seg_holds pt_len (p := Nrm.ord ptKey (L0.take at_)) (s := L0.drop e2) (d := ((L0.drop at_).take (e2 - at_)).toArray) (D := L.toArray) (by
    show L = _
    conv => lhs; rw [h.eq, hdr]) hH
  rw [hlo] at this
  exact ⟨this, (own_lt h.own g rfl).2⟩
def NJ (T : Value) (A1 : Option Addr) (c1 : Nat) (xs : List It) (L0 : List Part) (w : World) (n : Nat) (a' : Act) (w' : World) : Prop :=
  ∃ u2 u3 u4 u6 u7 u8 u9 u11 u12 u13 u14 u15 u16 u17 u18 u19 u20 u21 u22 u23 u24 u25 u26 u27 u28 u29 u30 u31 u32 u33 u34 u35 u36 u37 u38 u39 u40 u41 u42 u43 u44 u45 u46 u47 u48 u49 u50 u51 u52 u53 u54 u55 u56 u57 u58 u59 u60 u61 u62 u63 u64 u65 u66 u67 u68 u69 u70 u71 u72 u73 u74 u75 u76 u77 u78 u79 u80 u81 u82 u83 u84 u85 u86 u87 u88 u89 u90 u91 u92 u93 u94 u95 u96 v5 at_, a' = { tmps := #[T, .slice A1 xs.length c1, u2, u3, u4, v5, u6, u7, u8, u9, .int .i64 ((at_ : Nat) : Int), u11, u12, u13, u14, u15, u16, u17, u18, u19, u20, u21, u22, u23, u24, u25, u26, u27, u28, u29, u30, u31, u32, u33, u34, u35, u36, u37, u38, u39, u40, u41, u42, u43, u44, u45, u46, u47, u48, u49, u50, u51, u52, u53, u54, u55, u56, u57, u58, u59, u60, u61, u62, u63, u64, u65, u66, u67, u68, u69, u70, u71, u72, u73, u74, u75, u76, u77, u78, u79, u80, u81, u82, u83, u84, u85, u86, u87, u88, u89, u90, u91, u92, u93, u94, u95, u96], defers := [] } ∧ ∃ L, n = L0.length - at_ ∧ NI L0 w w' v5 at_ L
def ItemsSaid (l : List It) (w : World) (e : Ending) (w' : World) : Prop := ∃ v', e = .returned v' ∧ ItemsAt w' w.heap.size v' l ∧ Below w.heap.size w w'
set_option maxRecDepth 100000 in
set_option maxHeartbeats 6400000 in
theorem items_walk {w : World} {T : Value} {D : Int → List Int} {K : Int → Int} (hFull : ∀ W, Below w.heap.size w W → ∀ r, (Lit.int .i64 r).wf = true → Calls Tryz.prog 30 #[T, .int .i64 r] W (CloneSaid (D r) W))
    (hComb : ∀ W, Below w.heap.size w W → ∀ r, Calls Tryz.prog 32 #[T, .int .i64 r] W fun e W' => e = .returned (.int .i64 (K r)) ∧ Below W.heap.size W W') (hcb : ∀ r, 0 ≤ K r)
    {v : Value} {xs : List It} (hxs : ItsAt w v xs) (hwf : ∀ x ∈ xs, (Lit.int .i64 x.r).wf = true) (hlen : (partsG D K xs).length ≤ 10000000) (hxl : xs.length ≤ 10000000) :
    Calls Tryz.prog 45 #[T, v] w (ItemsSaid (nfdG D K xs) w) := by
  have HX := Lib.hid hxs
  obtain ⟨A1, c1, rfl, hn1, _⟩ := hxs
  have HF := Lib.hid hFull
  have HC := Lib.hid hComb
  have HW := Lib.hid hwf
  obtain ⟨L0, hL0⟩ : ∃ L0, L0 = partsG D K xs := ⟨_, rfl⟩
  have HL0 := Lib.hid hL0
  have HKey := Lib.hid (show ∀ p ∈ L0, 0 ≤ ptKey p by rw [hL0]; exact partsG_key hcb xs)
  rw [← hL0] at hlen
  clear hFull hComb hcb hwf hL0
  go_enter Tryz.func45, Tryz.ntmps45
  go_wp2_with fail
  refine wp_scope_label 0 (NJ T A1 c1 xs L0 w) rfl ?_ ?_
  · rintro n a w1 ⟨u2, u3, u4, u6, u7, u8, u9, u11, u12, u13, u14, u15, u16, u17, u18, u19, u20, u21, u22, u23, u24, u25, u26, u27, u28, u29, u30, u31, u32, u33, u34, u35, u36, u37, u38, u39, u40, u41, u42, u43, u44, u45, u46, u47, u48, u49, u50, u51, u52, u53, u54, u55, u56, u57, u58, u59, u60, u61, u62, u63, u64, u65, u66, u67, u68, u69, u70, u71, u72, u73, u74, u75, u76, u77, u78, u79, u80, u81, u82, u83, u84, u85, u86, u87, u88, u89, u90, u91, u92, u93, u94, u95, u96, v5, at_, rfl, L, hnn, hNI⟩
    obtain ⟨A5, c5, hv5⟩ := own_slice hNI.own
    rw [hNI.len] at hv5
    subst hv5
    have HNI0 := Lib.hid hNI
    have hat0 := hNI.le
    clear hNI
    go_wp2_with fail
    go_loopw [10] (fun vi wr => ∃ at2 : Nat, at_ ≤ at2 ∧ at2 ≤ L0.length ∧ vi = .int .i64 at2 ∧ Hid (NI L0 w w1 (.slice A5 L0.length c5) at2 L) ∧ w1 = wr) (fun vi _ => L0.length - (intOf vi).toNat)
    case atStart => exact ⟨at_, Nat.le_refl _, hat0, rfl, HNI0, rfl⟩
    case round =>
      clear HNI0
      obtain ⟨at2, h1, h2, rfl, HNI, rfl⟩ := hrel
      by_cases hlt : at2 < L0.length
      · as_aux_lemma =>
        obtain ⟨g, cap, hv, _, _, hcap, _⟩ := own_form HNI.out.own (by rw [HNI.out.len]; omega)
        injection hv with hA hn0 hc0
        subst hA hc0
        rw [HNI.out.len] at hcap
        clear hn0
        have hlL : at2 < L.length := by rw [HNI.out.len]; exact hlt
        obtain ⟨y, hy⟩ : ∃ y, y = L0[at2] := ⟨_, rfl⟩
        have hyL : L[at2] = y := by
          have := HNI.out.rest at2 (Nat.le_refl _)
          rw [List.getElem?_eq_getElem hlL, List.getElem?_eq_getElem hlt] at this
          rw [hy]
          exact Option.some.inj this
        have hown := HNI.out.own
        unfold PartsAt at hown
        rw [HNI.out.len] at hown
        have q3 := own_cell hown _ _ (parts_get L at2 hlL).2.2.2
        rw [hyL] at q3
        have hyk := HKey.out y (by rw [hy]; exact List.getElem_mem _)
        have Hy := Lib.hid (show L0[at2]? = some y by rw [hy]; exact List.getElem?_eq_getElem hlt)
        unfold ptKey at hyk
        clear hy hyL hlL hown
        by_cases hc : y.c = 0
        · have d1 : (y.c == 0) = true := by rw [beq_iff_eq]; exact hc
          have HNI2 := Lib.hid (HNI.out.skip Hy.out (by unfold ptKey; omega))
          clear HNI hc hyk
          go_wp2_with fail
          go_roundw
          case rel => exact ⟨at2 + 1, by omega, by omega, by go_num, HNI2, by first | rfl | trivial⟩
          case measure => simp [intOf]; omega
        · have d1 : (y.c == 0) = false := by rw [beq_eq_false_iff_ne]; exact hc
          have hyp : 0 < ptKey y := by unfold ptKey; omega
          have HYP := Lib.hid hyp
          clear hc hyk hyp
          go_wp2_with fail
          clear q3 d1
          go_loopw [11] (fun vi wr => ∃ e2 : Nat, at2 ≤ e2 ∧ e2 ≤ L0.length ∧ vi = .int .i64 e2 ∧ Hid (∀ z ∈ (L0.drop at2).take (e2 - at2), 0 < ptKey z) ∧ w1 = wr) (fun vi _ => L0.length - (intOf vi).toNat)
          case atStart => exact ⟨at2, Nat.le_refl _, h2, rfl, (fun z hz => by rw [Nat.sub_self] at hz; cases hz), rfl⟩
          case round =>
            obtain ⟨e2, he1, he2, rfl, HPos, rfl⟩ := hrel
            by_cases hle : e2 < L0.length
            · have hlL : e2 < L.length := by rw [HNI.out.len]; exact hle
              obtain ⟨z, hz⟩ : ∃ z, z = L0[e2] := ⟨_, rfl⟩
              have hzL : L[e2] = z := by
                have := HNI.out.rest e2 he1
                rw [List.getElem?_eq_getElem hlL, List.getElem?_eq_getElem hle] at this
                rw [hz]
                exact Option.some.inj this
              have hown := HNI.out.own
              unfold PartsAt at hown
              rw [HNI.out.len] at hown
              have q3 := own_cell hown _ _ (parts_get L e2 hlL).2.2.2
              rw [hzL] at q3
              have hzk := HKey.out z (by rw [hz]; exact List.getElem_mem _)
              have Hz := Lib.hid (show L0[e2]? = some z by rw [hz]; exact List.getElem?_eq_getElem hle)
              unfold ptKey at hzk
              clear hz hzL hlL hown
              by_cases hc : 0 < z.c
              · have d1 : decide (z.c > 0) = true := by rw [decide_eq_true_eq]; exact hc
                have HPos2 := Lib.hid (show ∀ u ∈ (L0.drop at2).take (e2 + 1 - at2), 0 < ptKey u from fun u hu => by
                  rw [show e2 + 1 - at2 = (e2 - at2) + 1 by omega, List.take_add_one, List.getElem?_drop, show at2 + (e2 - at2) = e2 by omega, Hz.out] at hu
                  rcases List.mem_append.1 hu with hu | hu
                  · exact HPos.out u hu
                  · have : u = z := by simpa using hu
                    rw [this]
                    exact hc)
                clear HPos hc hzk
                go_wp2_with fail
                go_roundw
                case rel => exact ⟨e2 + 1, by omega, by omega, by go_num, HPos2, by first | rfl | trivial⟩
                case measure => simp [intOf]; omega
              · as_aux_lemma =>
                have d1 : decide (z.c > 0) = false := by rw [decide_eq_false_iff_not]; exact hc
                have hnext : ∀ u, L0[e2]? = some u → ptKey u ≤ 0 := fun u hu => by
                  rw [Hz.out] at hu
                  cases hu
                  unfold ptKey
                  omega
                have hne : at2 ≠ e2 := fun h => by
                  subst h
                  have h3 := Hy.out
                  rw [Hz.out] at h3
                  cases h3
                  have := HYP.out
                  unfold ptKey at this
                  exact hc this
                clear hzk hc
                have hlt2 : at2 < e2 := by omega
                have hrl : ((L0.drop at2).take (e2 - at2)).length = e2 - at2 := by rw [List.length_take, List.length_drop]; omega
                obtain ⟨hH1, hH2⟩ := NI.holds HNI.out hlt2 he2
                have hsc := sortStable_walk (cap := c5 - at2) hH1 hH2 (by rw [List.size_toArray, hrl]; omega)
                rw [List.size_toArray, hrl] at hsc
                have HSC := Lib.hid hsc
                have HNX := Lib.hid hnext
                clear hH1 hH2 hsc hnext
                have b1 : (((e2 - at2 : Nat)) : Int) = (e2 : Int) - (at2 : Int) := by omega
                have b2 : (((c5 - at2 : Nat)) : Int) = (c5 : Int) - (at2 : Int) := by omega
                go_wp2_with fail
                refine HSC.out.mono ?_
                rintro e w2 ⟨rfl, d', hst, hsz, hw⟩
                obtain ⟨L', hNI'⟩ := NI.run HNI.out hlt2 he2 HPos.out HNX.out hst (by rw [hsz, List.size_toArray]; exact hrl.symm ▸ rfl) hw
                have HNI2 := Lib.hid hNI'
                clear hst hsz hw hNI' HSC b1 b2
                go_wp2_with fail
                go_step3
                simp only [Exit.then, Exit.jump]
                refine ⟨by first | rfl | trivial, L0.length - e2, by omega, ?_⟩
                unfold NJ
                (repeat apply Exists.intro)
                exact ⟨rfl, L', rfl, HNI2.out⟩
            · as_aux_lemma =>
              have hee : e2 = L0.length := by omega
              have hnext : ∀ u, L0[e2]? = some u → ptKey u ≤ 0 := fun u hu => by
                rw [List.getElem?_eq_none (by omega)] at hu
                cases hu
              have hne : at2 ≠ e2 := by omega
              clear hee
              have hlt2 : at2 < e2 := by omega
              have hrl : ((L0.drop at2).take (e2 - at2)).length = e2 - at2 := by rw [List.length_take, List.length_drop]; omega
              obtain ⟨hH1, hH2⟩ := NI.holds HNI.out hlt2 he2
              have hsc := sortStable_walk (cap := c5 - at2) hH1 hH2 (by rw [List.size_toArray, hrl]; omega)
              rw [List.size_toArray, hrl] at hsc
              have HSC := Lib.hid hsc
              have HNX := Lib.hid hnext
              clear hH1 hH2 hsc hnext
              have b1 : (((e2 - at2 : Nat)) : Int) = (e2 : Int) - (at2 : Int) := by omega
              have b2 : (((c5 - at2 : Nat)) : Int) = (c5 : Int) - (at2 : Int) := by omega
              go_wp2_with fail
              refine HSC.out.mono ?_
              rintro e w2 ⟨rfl, d', hst, hsz, hw⟩
              obtain ⟨L', hNI'⟩ := NI.run HNI.out hlt2 he2 HPos.out HNX.out hst (by rw [hsz, List.size_toArray]; exact hrl.symm ▸ rfl) hw
              have HNI2 := Lib.hid hNI'
              clear hst hsz hw hNI' HSC b1 b2
              go_wp2_with fail
              go_step3
              simp only [Exit.then, Exit.jump]
              refine ⟨by first | rfl | trivial, L0.length - e2, by omega, ?_⟩
              unfold NJ
              (repeat apply Exists.intro)
              exact ⟨rfl, L', rfl, HNI2.out⟩
      · as_aux_lemma =>
        have hat2 : at2 = L0.length := by omega
        have hLe := HNI.out.done hat2
        have HLe := Lib.hid hLe
        have HP0 := Lib.hid HNI.out.own
        have HB1 := Lib.hid HNI.out.bel
        have hLl := HNI.out.len
        subst hat2
        clear HNI hLe
        go_wp2_with fail
        go_loopw [12, 86] (fun vo i wr => ∃ (k : Nat) (qs : List It), k ≤ L0.length ∧ i = .int .i64 k ∧ Hid (qs = (L.take k).map toIt) ∧ Hid (ItemsAt wr w.heap.size vo qs) ∧ Hid (PartsAt wr w.heap.size (.slice A5 L0.length c5) L) ∧ Hid (Below w.heap.size w wr)) (fun _ i _ => L0.length - (intOf i).toNat)
        case atStart => exact ⟨0, [], by omega, rfl, rfl, World.ownsRow_nil _ _ _ _, HP0, HB1⟩
        case round =>
          clear HP0 HB1
          obtain ⟨k, qs, hk, rfl, HQ, HO, HP, HB⟩ := hrel
          obtain ⟨Ao, co, hvo⟩ := own_slice HO.out
          subst hvo
          by_cases hlk : k < L0.length
          · have hlL : k < L.length := by rw [hLl]; exact hlk
            obtain ⟨g, cap, hv, _⟩ := own_form HP.out (by rw [hLl]; omega)
            injection hv with hA hn0 hc0
            subst hA hc0
            clear hn0
            obtain ⟨y, hy⟩ : ∃ y, y = L[k] := ⟨_, rfl⟩
            obtain ⟨p0, p1, p2, p3⟩ := parts_get L k hlL
            rw [← hy] at p0 p1 p2 p3
            have hown := HP.out
            unfold PartsAt at hown
            rw [hLl] at hown
            have q0 := own_cell hown _ _ p0
            have q1 := own_cell hown _ _ p1
            have q2 := own_cell hown _ _ p2
            have q3 := own_cell hown _ _ p3
            have hql : qs.length = k := by rw [HQ.out, List.length_map, List.length_take]; omega
            have hb9 : (qs.length + 1) * 24 ≤ 140737488355328 := by omega
            have HQ2 := Lib.hid (show qs ++ [toIt y] = (L.take (k + 1)).map toIt by rw [HQ.out, List.take_succ_eq_append_getElem hlL, List.map_append, ← hy]; rfl)
            obtain ⟨X, hX⟩ : ∃ X, X = Obj.cells #[Value.int IntKind.i64 y.r, Value.int IntKind.i64 y.s, Value.int IntKind.i64 y.e, Value.int IntKind.i64 y.c] 110 := ⟨_, rfl⟩
            have hbx := alloc_below wr X
            have HX7 := Lib.hid (show Blk (wr.alloc X) wr.heap.size 110 #[Value.int IntKind.i64 y.r, Value.int IntKind.i64 y.s, Value.int IntKind.i64 y.e, Value.int IntKind.i64 y.c] by rw [hX]; exact row_new _ _)
            have HO1 := Lib.hid (show ItemsAt (wr.alloc X) w.heap.size _ qs from own_below HO.out hbx)
            have HP1 := Lib.hid (show PartsAt (wr.alloc X) w.heap.size (.slice (some ⟨g, 0, none⟩) L0.length c5) L from own_below HP.out hbx)
            have HB1 := Lib.hid (HB.out.trans (hbx.mono HB.out.size))
            rw [hX] at HX7 HO1 HP1 HB1
            clear p0 p1 p2 p3 hy hlL hql hbx HO HP HB HQ hown hX X
            go_upto_region 24 with fail
            clear q0 q1 q2 q3
            generalize wr.alloc _ = W1 at *
            generalize wr.heap.size = xb at *
            have q0 := HX7.out.cell 0
            have q1 := HX7.out.cell 1
            have q2 := HX7.out.cell 2
            go_wp2_with (at_builtin; refine wp_append_lit slItem rfl (.tmp 90) (.tmp 93) rfl w.heap.size (.slice Ao qs.length co) qs.length (qs.flatMap itCells) rfl (by exact HO1.out) #[.int .i64 y.r, .int .i64 y.s, .int .i64 y.e] rfl rfl (by simp [Value.oneCell']) hb9 (by exact HB1.out.size) ?_; intro v6 w6 hown6 hg6; have HP6 := Lib.hid (HP1.out.kept hg6 (own_types HP1.out HO1.out (by decide))); have HO6 := Lib.hid hown6; have HB6 := Lib.hid (HB1.out.grown hg6 HB1.out.size (fun k hk => (own_lt HO1.out k hk).1)); clear hown6 hg6)
            go_roundw
            case rel => exact ⟨k + 1, qs ++ [toIt y], by omega, by go_num, HQ2, (show ItemsAt _ _ _ _ by unfold ItemsAt; rw [List.length_append, ← items_snoc]; exact HO6.out), HP6, HB6⟩
            case measure => simp [intOf]; omega
          · have hke : k = L0.length := by omega
            have hfin : qs = nfdG D K xs := by
              rw [HQ.out, hke, ← hLl, List.take_length, HLe.out]
              unfold nfdG
              rw [← HL0.out]
            subst hfin
            clear HQ HP
            go_wp2_with fail
            simp only [Exit.jump]
            go_ret
            exact ⟨_, rfl, HO.out, HB.out⟩
  · intro hp
    have Hp := Lib.hid hp
    clear hp
    go_wp2_with fail
    -- the parts
    go_loopw [5, 17] (fun v5 i wr => ∃ (k : Nat) (ps : List Part), k ≤ xs.length ∧ i = .int .i64 k ∧ Hid (ps = partsG D K (xs.take k)) ∧ Hid (PartsAt wr w.heap.size v5 ps) ∧ Hid (Below w.heap.size w wr)) (fun _ i _ => xs.length - (intOf i).toNat)
    case atStart => exact ⟨0, [], by omega, rfl, rfl, World.ownsRow_nil _ _ _ _, Below.refl _ _⟩
    case round =>
      obtain ⟨k, ps, hk, rfl, HPS, HU, HB⟩ := hrel
      by_cases hlt : k < xs.length
      · as_aux_lemma =>
        obtain ⟨A', c', e', _, hz⟩ := HX.out.below HB.out
        injection e' with e1 _ e3
        obtain ⟨ad, hA, hcell⟩ := hz (by omega)
        rw [← e1] at hA
        subst hA
        obtain ⟨q0, q1, q2⟩ := hcell k hlt
        obtain ⟨x, hx⟩ : ∃ x, x = xs[k] := ⟨_, rfl⟩
        rw [← hx] at q0 q1 q2
        have q1' : wr.cell? ⟨(ad.add (k * 3)).block, (ad.add (k * 3)).off + 1, none⟩ = some (.int .i64 x.s) := q1
        have q2' : wr.cell? ⟨(ad.add (k * 3)).block, (ad.add (k * 3)).off + 2, none⟩ = some (.int .i64 x.e) := q2
        clear q1 q2
        have hxw := HW.out x (by rw [hx]; exact List.getElem_mem _)
        have hsn : partsG D K (xs.take (k + 1)) = ps ++ (D x.r).map (mkPart K x) := by
          rw [List.take_succ_eq_append_getElem hlt, ← hx, partsG_snoc, HPS.out]
        have hle := partsG_take_le D K xs (k + 1)
        rw [hsn, ← HL0.out, List.length_append, List.length_map] at hle
        have HSN := Lib.hid hsn
        obtain ⟨X, hX⟩ : ∃ X, X = Obj.cells #[Value.int IntKind.i64 x.r, Value.int IntKind.i64 x.s, Value.int IntKind.i64 x.e] 54 := ⟨_, rfl⟩
        have hbx := alloc_below wr X
        have HX7 := Lib.hid (show Blk (wr.alloc X) wr.heap.size 54 #[Value.int IntKind.i64 x.r, Value.int IntKind.i64 x.s, Value.int IntKind.i64 x.e] by rw [hX]; exact row_new _ _)
        have HU0 := Lib.hid (show PartsAt (wr.alloc X) w.heap.size u5 ps from own_below HU.out hbx)
        have HB0 := Lib.hid (HB.out.trans (hbx.mono HB.out.size))
        rw [hX] at HX7 HU0 HB0
        clear hz hcell hx hsn hX hbx HU HB HPS e3 e1 X
        go_upto_region 5 with fail
        clear q0 q1' q2'
        generalize wr.alloc _ = W1 at *
        generalize wr.heap.size = xb at *
        have q0 := HX7.out.cell 0
        have HFW := Lib.hid (HF.out W1 HB0.out x.r hxw)
        go_wp2_with fail
        refine HFW.out.mono ?_
        rintro e w2 ⟨v24, rfl, hv24, hb2⟩
        have HX2 := Lib.hid (HX7.out.below hb2)
        have HU2 := Lib.hid (own_below HU0.out hb2)
        have HB2 := Lib.hid (HB0.out.trans (hb2.mono HB0.out.size))
        obtain ⟨A24, c24, rfl⟩ := own_slice hv24
        have HV := Lib.hid hv24
        clear hv24 hb2 HX7 HU0 HB0 HFW q0
        generalize D x.r = full at *
        generalize W1.heap.size = b24 at *
        clear W1
        have hfl := own_len HV.out
        unfold maxLen at hfl
        go_wp2_with fail
        go_loopw [5, 26] (fun v5 i wx => ∃ (q : Nat) (qs : List Part), q ≤ full.length ∧ i = .int .i64 q ∧ Hid (qs = ps ++ (full.take q).map (mkPart K x)) ∧ Hid (PartsAt wx w.heap.size v5 qs) ∧ Hid (Blk wx xb 54 #[Value.int IntKind.i64 x.r, Value.int IntKind.i64 x.s, Value.int IntKind.i64 x.e]) ∧ Hid (IntsAt wx b24 (.slice A24 full.length c24) full) ∧ Hid (Below w.heap.size w wx)) (fun _ i _ => full.length - (intOf i).toNat)
        case atStart => exact ⟨0, ps, by omega, rfl, (show ps = ps ++ _ by simp), HU2, HX2, HV, HB2⟩
        case round =>
          clear HU2 HX2 HV HB2
          obtain ⟨q, qs, hq, rfl, HQ, HU, HX7, HV, HB⟩ := hrel
          by_cases hqlt : q < full.length
          · as_aux_lemma =>
            obtain ⟨g24, cap24, hv, _⟩ := own_form HV.out (by omega)
            injection hv with hA hn0 hc0
            subst hA hc0
            obtain ⟨r, hr⟩ : ∃ r, r = full.getD q 0 := ⟨_, rfl⟩
            have cq := own_cell HV.out q _ (intz_get full q hqlt)
            rw [← hr] at cq
            have HQ2 := Lib.hid (show qs ++ [mkPart K x r] = ps ++ (full.take (q + 1)).map (mkPart K x) by
              rw [HQ.out, List.take_succ_eq_append_getElem hqlt, List.map_append, List.append_assoc]
              congr 2
              rw [hr, List.getD_eq_getElem?_getD, List.getElem?_eq_getElem hqlt]
              rfl)
            have hql : qs.length ≤ 10000000 := by
              rw [HQ.out, List.length_append, List.length_map, List.length_take]
              omega
            have hb9 : (qs.length + 1) * 32 ≤ 140737488355328 := by omega
            have HCW := Lib.hid (fun W (hW : Below wr.heap.size wr W) => HC.out W (HB.out.trans (hW.mono HB.out.size)) r)
            have hlv : ∀ k, u5.ownBlock = some k → w.heap.size ≤ k := fun k hk => (own_lt HU.out k hk).1
            have HLV := Lib.hid hlv
            clear hr hlv HQ
            go_upto_region 8 with fail
            refine regionN _ _ _ _ wr _ u5 xb w.heap.size qs.length (qs.flatMap ptCells) r x.r x.s x.e (K r) rfl (by kernel_rfl) (by kernel_rfl) (by kernel_rfl) (by first | exact Nat.le_refl _ | decide | simp) rfl rfl rfl rfl HX7.out HCW.out HU.out HB.out.size hb9 ?_
            intro V v' w' hown hV13 hb3
            obtain ⟨W2, hbW, hgW⟩ := hb3
            have hne : some xb ≠ u5.ownBlock := blk_neN HX7.out HU.out (by decide)
            have hne2 : (Value.slice (some ⟨g24, 0, none⟩) full.length c24).ownBlock = none ∨ (Value.slice (some ⟨g24, 0, none⟩) full.length c24).ownBlock ≠ u5.ownBlock := own_types HV.out HU.out (by decide)
            have HX8 := Lib.hid ((HX7.out.below hbW).grown hgW hne)
            have HV8 := Lib.hid (show IntsAt w' b24 (.slice (some ⟨g24, 0, none⟩) full.length c24) full from (own_below HV.out hbW).kept hgW hne2)
            have HB8 := Lib.hid ((HB.out.trans (hbW.mono HB.out.size)).grown hgW (HB.out.trans (hbW.mono HB.out.size)).size HLV.out)
            have HU8 := Lib.hid (show PartsAt w' w.heap.size v' (qs ++ [mkPart K x r]) by
              unfold PartsAt
              rw [List.length_append, ← parts_snoc]
              exact hown)
            clear hown hbW hgW hne hne2 HX7 HV HU HB HCW HLV W2 cq
            simp [frS, stepS, Exit.then, hV13]
            go_wp2_with fail
            go_roundw
            case rel => exact ⟨q + 1, qs ++ [mkPart K x r], by omega, by go_num, HQ2, HU8, HX8, HV8, HB8⟩
            case measure => simp [intOf]; omega
          · have hqe : q = full.length := by omega
            have HQ2 := Lib.hid (show qs = partsG D K (xs.take (k + 1)) by rw [HQ.out, hqe, List.take_length, HSN.out])
            clear HX7 HV HQ
            go_wp2_with fail
            go_roundw
            case rel => exact ⟨k + 1, qs, by omega, by go_num, HQ2, HU, HB⟩
            case measure => simp [intOf]; omega
      · as_aux_lemma =>
        have hke : k = xs.length := by omega
        subst hke
        have hps : ps = L0 := by rw [HPS.out, List.take_length, HL0.out]
        subst hps
        clear HPS
        go_wp2_with fail
        go_step3
        simp only [Exit.then]
        refine ‹∀ (a : Act) (w : World), Code.wp _ _ _ a w → _› _ _ ?_
        refine Hp.out ps.length _ _ ?_
        unfold NJ
        (repeat apply Exists.intro)
        exact ⟨rfl, ps, rfl, ⟨Nat.zero_le _, rfl, rfl, .inl (.inl rfl), HU.out, HB.out⟩⟩
end Go.Proofs.YtpmbebofinlmmaaGreatDoor
