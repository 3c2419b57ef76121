/- fold.pairs. -/
import Derived.Test.YtmdkjljcnegmeaaDoorPairK
import Derived.Test.YtmdkjljcnegmeaaDoorFoldLawW
namespace Go.Proofs.YtmdkjljcnegmeaaDoor
open Go.RowKit
set_option linter.unusedVariables false
set_option linter.unusedSimpArgs false

noncomputable def inF (S : Int × Int → Prop) : PK → Option Value := fun x => open Classical in if S x.1 then some (.bool true) else none
theorem inF_set (S : Int × Int → Prop) (x : PK) : setF (inF S) x (.bool true) = inF (fun y => y = x.1 ∨ S y) := by
  funext y
  unfold setF inF
  by_cases h : y = x
  · subst h
    rw [if_pos rfl, if_pos (.inl rfl)]
  · rw [if_neg h]
    have h' : ¬ y.1 = x.1 := fun e => h (Subtype.ext e)
    by_cases hS : S y.1
    · rw [if_pos hS, if_pos (.inr hS)]
    · rw [if_neg hS, if_neg (by rintro (e | e); exact h' e; exact hS e)]
theorem inF_congr {S T : Int × Int → Prop} (h : ∀ y, S y ↔ T y) : inF S = inF T := by
  have : S = T := funext fun y => propext (h y)
  rw [this]
/-- The pairs of a record's code points below one. -/
def pairsTo (Φ : Files) (x : Rec) (q : Nat) (p : Int × Int) : Prop := ∃ r : Nat, x.lo ≤ r ∧ r < q ∧ (p = ((r : Int), simpleOf Φ r) ∨ p = (simpleOf Φ r, simpleOf Φ r))
def pairsIn (Φ : Files) (rs : List Rec) (p : Int × Int) : Prop := ∃ x ∈ rs, pairsTo Φ x (x.hi + 1) p
theorem pairsIn_snoc (Φ : Files) (rs : List Rec) (x : Rec) (p : Int × Int) : pairsIn Φ (rs ++ [x]) p ↔ pairsIn Φ rs p ∨ pairsTo Φ x (x.hi + 1) p := by
  unfold pairsIn
  constructor
  · rintro ⟨y, hy, h⟩
    rcases List.mem_append.1 hy with hy | hy
    · exact .inl ⟨y, hy, h⟩
    · obtain rfl : y = x := by simpa using hy
      exact .inr h
  · rintro (⟨y, hy, h⟩ | h)
    · exact ⟨y, List.mem_append_left _ hy, h⟩
    · exact ⟨x, by simp, h⟩
theorem pairsTo_next (Φ : Files) (x : Rec) (q : Nat) (h : x.lo ≤ q) (p : Int × Int) : pairsTo Φ x (q + 1) p ↔ p = (simpleOf Φ q, simpleOf Φ q) ∨ p = ((q : Int), simpleOf Φ q) ∨ pairsTo Φ x q p := by
  unfold pairsTo
  constructor
  · rintro ⟨r, h1, h2, h3⟩
    by_cases e : r = q
    · subst e
      rcases h3 with h3 | h3
      · exact .inr (.inl h3)
      · exact .inl h3
    · exact .inr (.inr ⟨r, h1, by omega, h3⟩)
  · rintro (h3 | h3 | ⟨r, h1, h2, h3⟩)
    · exact ⟨q, h, by omega, .inr h3⟩
    · exact ⟨q, h, by omega, .inl h3⟩
    · exact ⟨r, h1, by omega, h3⟩
def widthOf (rs : List Rec) : Nat := (rs.map fun x => x.hi + 1 - x.lo).sum
theorem widthOf_snoc (rs : List Rec) (x : Rec) : widthOf (rs ++ [x]) = widthOf rs + (x.hi + 1 - x.lo) := by unfold widthOf; simp
theorem widthOf_take (rs : List Rec) (k : Nat) : widthOf (rs.take k) ≤ widthOf rs := by
  have h : widthOf rs = widthOf (rs.take k) + widthOf (rs.drop k) := by
    unfold widthOf
    rw [← List.sum_append, ← List.map_append, List.take_append_drop]
  omega
structure PrSt (w0 wr : World) (mb rb : Nat) (S : Int × Int → Prop) (n : Nat) (v : Value) (rs : List Rec) (fv : List Value) : Prop where
  B : Below w0.heap.size w0 wr
  m0 : w0.heap.size ≤ mb
  m1 : mb < rb
  map : MapF wr kPair mb n (inF S)
  recs : RecsAt wr rb v rs fv
section
variable {w0 w w' : World} {mb rb n n' : Nat} {S T : Int × Int → Prop} {v : Value} {rs : List Rec} {fv : List Value}
theorem PrSt.below (h : PrSt w0 w mb rb S n v rs fv) (hb : Below w.heap.size w w') : PrSt w0 w' mb rb S n v rs fv := ⟨h.B.trans (hb.mono h.B.size), h.m0, h.m1, h.map.below hb h.map.lt, h.recs.below hb⟩
theorem PrSt.put (h : PrSt w0 w mb rb S n v rs fv) {x : PK} (hm : MapF w' kPair mb (n + 1) (setF (inF S) x (.bool true))) (hg : w.grownBy w' (some mb)) : PrSt w0 w' mb rb (fun y => y = x.1 ∨ S y) (n + 1) v rs fv := by
  have hl := h.map.lt
  have hs := h.B.size
  have hm1 := h.m1
  rw [inF_set] at hm
  exact ⟨h.B.grown hg (by have := h.m0; omega) (fun k hk => by cases hk; exact h.m0), h.m0, h.m1, hm, h.recs.above fun k h1 h2 => hg.block k h2 (by simp; omega)⟩
end
def PairsSaid (Φ : Files) (w : World) (e : Ending) (w' : World) : Prop := ∃ mb n, e = .returned (.map (some mb)) ∧ w.heap.size ≤ mb ∧ n ≤ 2 * widthOf Φ.fol ∧ MapF w' kPair mb n (inF (pairsIn Φ Φ.fol)) ∧ Below w.heap.size w w'
set_option maxRecDepth 100000 in
set_option maxHeartbeats 1600000 in
theorem pairs_walk {w : World} {m : Nat} {Φ : Files} (ht : TabAt w m Φ) (hok : FilesOk Φ) (htx : TextIs 29 Φ.fol) (hE : Env w) (hwd : widthOf Φ.fol ≤ 100000) (hsw : ∀ r : Int, (Lit.int .i64 r).wf = true → (Lit.int .i64 (simpleOf Φ r)).wf = true) :
    Calls Tryd.prog 36 #[.pointer (some ⟨m + 3, 0, none⟩)] w (PairsSaid Φ w) := by
  obtain ⟨x6, hx6, hl6⟩ := htx
  have X6 := Lib.hid hx6
  have L6 := Lib.hid hl6
  have HT := Lib.hid ht
  have HE := Lib.hid hE
  have Hok := Lib.hid hok
  have Hsw := Lib.hid hsw
  have hmm := @run_makeMap Tryd.prog
  have hmap := MapF.made w kPair
  have hb0 := alloc_below w (.map #[] 0)
  have hs0 := size_new w (.map #[] 0)
  clear hx6 hl6 ht hE hok hsw
  go_enter Tryd.func36, Tryd.ntmps36
  go_wp2_with fail
  generalize w.alloc (Obj.map #[] 0) = W0 at *
  have HM := Lib.hid hmap
  have HB0 := Lib.hid hb0
  clear hmm hmap hb0
  refine (X6.out _).mono ?_
  rintro e w' ⟨rfl, rfl⟩
  go_wp2_with fail
  refine (L6.out _ (HE.out.below HB0.out)).mono ?_
  rintro e w1 ⟨v, fv, rfl, hR, hb1⟩
  obtain ⟨gd, cd, rfl, hgd1, hgd2, hgd3, hgd4⟩ := own_form hR.row Hok.out.foll.pos
  have hP : PrSt w w1 w.heap.size W0.heap.size (fun _ => False) 0 (.slice (some ⟨gd, 0, none⟩) Φ.fol.length cd) Φ.fol fv := by
    refine ⟨HB0.out.trans (hb1.mono HB0.out.size), Nat.le_refl _, by omega, ?_, hR⟩
    have := HM.out.below hb1 HM.out.lt
    refine this.congr fun x _ => ?_
    unfold inF
    rw [if_neg id]
  have HP := Lib.hid hP
  have Hlen := Lib.hid hR.len
  have hfl := Hok.out.foll.le
  clear hP hR hb1 X6 L6 HM
  go_wp2_with fail
  go_loopw [20] (fun i wr => ∃ k : Nat, k ≤ Φ.fol.length ∧ i = .int .i64 k ∧ Hid (∃ n, n ≤ 2 * widthOf (Φ.fol.take k) ∧ PrSt w wr w.heap.size W0.heap.size (pairsIn Φ (Φ.fol.take k)) n (.slice (some ⟨gd, 0, none⟩) Φ.fol.length cd) Φ.fol fv)) (fun i _ => Φ.fol.length - (intOf i).toNat)
  case atStart =>
    refine ⟨0, by omega, rfl, 0, Nat.zero_le _, ?_⟩
    have e : pairsIn Φ (Φ.fol.take 0) = fun _ => False := by
      funext p
      apply propext
      constructor
      · rintro ⟨x, hx, _⟩
        simp at hx
      · exact False.elim
    show PrSt _ _ _ _ (pairsIn Φ (Φ.fol.take 0)) _ _ _ _
    rw [e]
    exact HP.out
  case round =>
    obtain ⟨k, hk, rfl, HPk⟩ := hrel
    clear HP
    by_cases hlt : k < Φ.fol.length
    · obtain ⟨n, hn, hPr⟩ := HPk.out
      obtain ⟨u, hu⟩ : ∃ u, u = fv[k]'(by rw [← Hlen.out]; exact hlt) := ⟨_, rfl⟩
      obtain ⟨r, hr⟩ : ∃ r, r = Φ.fol[k] := ⟨_, rfl⟩
      obtain ⟨g0, g1, g2⟩ := recCells_get Φ.fol fv k Hlen.out hlt
      rw [← hr] at g0 g1
      rw [← hu] at g2
      have c0 := own_cell hPr.recs.row _ _ g0
      have c1 := own_cell hPr.recs.row _ _ g1
      have c2 := own_cell hPr.recs.row _ _ g2
      have hfld := hPr.recs.fld k r u (by rw [hr]; exact List.getElem?_eq_getElem hlt) (by rw [hu]; exact List.getElem?_eq_getElem _)
      have hfok : FoldOk r := by rw [hr]; exact Hok.out.fol _ (List.getElem_mem _)
      obtain ⟨A8, c8, rfl⟩ := own_slice hfld
      have htk : ∀ p, pairsIn Φ (Φ.fol.take (k + 1)) p ↔ pairsIn Φ (Φ.fol.take k) p ∨ pairsTo Φ r (r.hi + 1) p := fun p => by rw [List.take_succ_eq_append_getElem hlt, ← hr]; exact pairsIn_snoc Φ _ r p
      have Htk := Lib.hid htk
      have hwk : widthOf (Φ.fol.take (k + 1)) = widthOf (Φ.fol.take k) + (r.hi + 1 - r.lo) := by rw [List.take_succ_eq_append_getElem hlt, ← hr, widthOf_snoc]
      have hwt := widthOf_take Φ.fol (k + 1)
      have Hwk := Lib.hid hwk
      rw [hwk] at hwt
      generalize widthOf (Φ.fol.take k) = wk at *
      have hlo := hfok.le
      have hhi := hfok.hi
      have HPr := Lib.hid hPr
      generalize pairsIn Φ (Φ.fol.take k) = SS at *
      obtain ⟨nf, hnf⟩ : ∃ nf, nf = r.fields.length := ⟨_, rfl⟩
      rw [← hnf] at c2
      clear HPk hPr htk hwk hfld hfok g0 g1 g2 hu hr hnf
      go_wp2_with fail
      obtain ⟨W2, hW2⟩ : ∃ W2, W2 = wr.alloc (Obj.cells #[Value.int IntKind.i64 r.lo, Value.int IntKind.i64 r.hi, Value.slice A8 nf c8] 58) := ⟨_, rfl⟩
      have hbw := alloc_below wr (Obj.cells #[Value.int IntKind.i64 r.lo, Value.int IntKind.i64 r.hi, Value.slice A8 nf c8] 58)
      rw [← hW2] at hbw ⊢
      have hrb : Blk W2 wr.heap.size 58 #[Value.int IntKind.i64 r.lo, Value.int IntKind.i64 r.hi, Value.slice A8 nf c8] := by rw [hW2]; exact row_new _ _
      have HP2 := Lib.hid (HPr.out.below hbw)
      have Hrb := Lib.hid hrb
      have hmlt := HPr.out.map.lt
      clear hrb hW2 HPr c0 c1 c2 hbw
      generalize wr.heap.size = rb at *
      go_loopw [9] (fun i w7 => ∃ q : Nat, r.lo ≤ q ∧ q ≤ r.hi + 1 ∧ i = .int .i64 q ∧ Hid (∃ n', n' ≤ n + 2 * (q - r.lo) ∧ PrSt w w7 w.heap.size W0.heap.size (fun p => SS p ∨ pairsTo Φ r q p) n' (.slice (some ⟨gd, 0, none⟩) Φ.fol.length cd) Φ.fol fv) ∧ Hid (Blk w7 rb 58 #[Value.int IntKind.i64 r.lo, Value.int IntKind.i64 r.hi, Value.slice A8 nf c8])) (fun i _ => r.hi + 1 - (intOf i).toNat)
      case atStart =>
        refine ⟨r.lo, Nat.le_refl _, by omega, rfl, ⟨n, by omega, ?_⟩, Hrb⟩
        have e : (fun p => SS p ∨ pairsTo Φ r r.lo p) = SS := by
          funext p
          apply propext
          constructor
          · rintro (h | ⟨q, h1, h2, _⟩)
            · exact h
            · omega
          · exact .inl
        rw [e]
        exact HP2.out
      case round =>
        obtain ⟨q, hq1, hq2, rfl, HPq, Hrq⟩ := hrel
        clear HP2 Hrb
        have y0 := Hrq.out.cell 0
        have y1 := Hrq.out.cell 1
        simp only [List.getElem?_toArray, List.getElem?_cons_zero, List.getElem?_cons_succ] at y0 y1
        obtain ⟨n', hn', hPq⟩ := HPq.out
        have HPQ := Lib.hid hPq
        clear HPq hPq
        by_cases hle : q ≤ r.hi
        · have hqw : (Lit.int .i64 (q : Int)).wf = true := wf_i64 (by omega) (by omega)
          go_wp2_with fail
          refine (simple_walk (HT.out.below HPQ.out.B) Hok.out (q : Int) hqw).mono ?_
          rintro e w8 ⟨rfl, hb8⟩
          have hsq := Hsw.out q hqw
          have HP8 := Lib.hid (HPQ.out.below hb8)
          have Hr8 := Lib.hid (Hrq.out.below hb8)
          have hpn := pairsTo_next Φ r q hq1
          obtain ⟨s, hs⟩ : ∃ s, s = simpleOf Φ (q : Int) := ⟨_, rfl⟩
          rw [← hs] at hsq hpn ⊢
          have Hpn := Lib.hid hpn
          have hcm1 : n' < maxLen := by unfold maxLen; omega
          have hcm2 : n' + 1 < maxLen := by unfold maxLen; omega
          have hne : rb ≠ w.heap.size := by omega
          clear hb8 HPQ Hrq y0 y1 hpn hs
          go_wp2_with (first | (at_mapUpdate; refine wp_mapUpdateF w8 rfl _ _ _ 65 rfl kPair Tryd.underlying65 w.heap.size n' _ rfl HP8.out.map hcm1 (⟨((q : Int), s), hqw, hsq⟩ : PK) (.bool true) rfl rfl trivial ?_; intro w9 hm9 hg9; have HP9 := Lib.hid (HP8.out.put hm9 hg9); have Hr9 := Lib.hid (Hr8.out.grown hg9 (by simpa using hne)); clear hm9 hg9) | (at_mapUpdate; refine wp_mapUpdateF w9 rfl _ _ _ 65 rfl kPair Tryd.underlying65 w.heap.size (n' + 1) _ rfl HP9.out.map hcm2 (⟨(s, s), hsq, hsq⟩ : PK) (.bool true) rfl rfl trivial ?_; intro w10 hm10 hg10; have HP10 := Lib.hid (HP9.out.put hm10 hg10); have Hr10 := Lib.hid (Hr9.out.grown hg10 (by simpa using hne)); clear hm10 hg10))
          go_roundw
          case rel =>
            refine ⟨q + 1, by omega, by omega, by go_num, ⟨n' + 1 + 1, by omega, ?_⟩, Hr10⟩
            have e : (fun p => SS p ∨ pairsTo Φ r (q + 1) p) = fun y => y = (s, s) ∨ y = ((q : Int), s) ∨ SS y ∨ pairsTo Φ r q y := by
              funext p
              apply propext
              rw [Hpn.out p]
              constructor
              · rintro (h | h | h | h)
                · exact .inr (.inr (.inl h))
                · exact .inl h
                · exact .inr (.inl h)
                · exact .inr (.inr (.inr h))
              · rintro (h | h | h | h)
                · exact .inr (.inl h)
                · exact .inr (.inr (.inl h))
                · exact .inl h
                · exact .inr (.inr (.inr h))
            rw [e]
            exact HP10.out
          case measure => simp [intOf]; omega
        · obtain rfl : q = r.hi + 1 := by omega
          have e : (fun p => SS p ∨ pairsTo Φ r (r.hi + 1) p) = pairsIn Φ (Φ.fol.take (k + 1)) := funext fun p => propext (Htk.out p).symm
          rw [e] at HPQ
          clear e
          go_wp2_with fail
          go_roundw
          case rel => exact ⟨k + 1, by omega, by go_num, ⟨n', by rw [Hwk.out]; omega, HPQ.out⟩⟩
          case measure => simp [intOf]; omega
    · obtain ⟨n, hn, hPr⟩ := HPk.out
      have hkl : k = Φ.fol.length := by omega
      rw [hkl, List.take_length] at hPr hn
      have HPr := Lib.hid hPr
      have hn9 := Lib.hid hn
      clear HPk hPr hn
      subst hkl
      go_wp2_with fail
      go_ret
      exact ⟨_, n, rfl, Nat.le_refl _, hn9.out, HPr.out.map, HPr.out.B⟩
end Go.Proofs.YtmdkjljcnegmeaaDoor
