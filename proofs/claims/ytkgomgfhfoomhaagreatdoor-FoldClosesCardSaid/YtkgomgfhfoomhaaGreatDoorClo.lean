/- Maps whose keys are pairs of ints (fold.pair). fold.pairs. ranges.Has. Ranging over a map of pairs: what stays; sets of hits. append of nil to an empty row of one's own. No program stands here. fold.Closure. -/
import Derived.Test.YtkgomgfhfoomhaaGreatDoorLod
import Derived.DeepKeys4
import Derived.Maps.Keyed
import Derived.Test.YtkgomgfhfoomhaaGreatDoorFoldB
import Derived.Test.YtkgomgfhfoomhaaGreatDoorRng
import Derived.Test.YtkgomgfhfoomhaaGreatDoorBase
namespace Go.Proofs.YtkgomgfhfoomhaaGreatDoor
open Go.RowKit Go.Maps
set_option linter.unusedVariables false

theorem laidOutP : laidOutB Tryz.prog = true := by kernel_rfl
theorem pair_law : Keyed Tryz.prog 103 := Keyed.of_law (deep_law_laid laidOutP (m := 2) (by omega) (of_decide_eq_true (by kernel_rfl)) (by kernel_rfl) (by kernel_rfl))
abbrev PK : Type := { x : Int × Int // (Lit.int .i64 x.1).wf = true ∧ (Lit.int .i64 x.2).wf = true }
def pairV (x : Int × Int) : Value := .agg #[.int .i64 x.1, .int .i64 x.2]
def pairL (x : Int × Int) : Lit := .string (keyBytes [.int .i64 x.1, .int .i64 x.2])
theorem pair_cells : Tryz.prog.cellsOf 103 = 2 := by kernel_rfl
theorem pair_formed (x : Int × Int) : (pairV x).formed Tryz.prog 103 = true := by
  unfold pairV Value.formed
  simp [Tryz.underlying103, pair_cells]
theorem pair_key (x : Int × Int) (h1 : (Lit.int .i64 x.1).wf = true) (h2 : (Lit.int .i64 x.2).wf = true) : keyOf Tryz.prog 103 (pairV x) = some (pairL x) := by
  have hs : 0 < Tryz.prog.types.size := of_decide_eq_true (by kernel_rfl)
  obtain ⟨d, hd⟩ : ∃ d, Tryz.prog.types.size = d + 1 := ⟨Tryz.prog.types.size - 1, by omega⟩
  have hk : Tryz.prog.keyType 103 = true := by kernel_rfl
  have hc : Tryz.prog.cellsOf 103 = 2 := by kernel_rfl
  have hci : Tryz.prog.cellsOf 3 = 1 := by kernel_rfl
  unfold keyOf
  rw [Tryz.underlying103]
  simp only [hk, pair_formed, Bool.and_self, if_true, hd]
  simp [Program.keyLits, Tryz.underlying103, Tryz.underlying3, hc, hci, pairV, Value.cells, pairL, h1, h2]
theorem pairV_inj {x y : Int × Int} (h : pairV x = pairV y) : x = y := by
  unfold pairV at h
  simp at h
  exact Prod.ext h.1 h.2
set_option maxRecDepth 100000 in
theorem pair_inv (v : Value) (l : Lit) (h : keyOf Tryz.prog 103 v = some l) : ∃ x : PK, v = pairV x.1 ∧ l = pairL x.1 := by
  have hs : 0 < Tryz.prog.types.size := of_decide_eq_true (by kernel_rfl)
  obtain ⟨d, hd⟩ : ∃ d, Tryz.prog.types.size = d + 1 := ⟨Tryz.prog.types.size - 1, by omega⟩
  have hk : Tryz.prog.keyType 103 = true := by kernel_rfl
  have hci : Tryz.prog.cellsOf 3 = 1 := by kernel_rfl
  unfold keyOf at h
  rw [Tryz.underlying103] at h
  simp only [hk, Bool.true_and, hd] at h
  by_cases hf : v.formed Tryz.prog 103 = true
  · rw [if_pos hf] at h
    cases v with
    | agg cs =>
      have hsz : cs.size = 2 := by
        unfold Value.formed at hf
        simpa [Tryz.underlying103, pair_cells] using hf
      obtain ⟨c0, c1, rfl⟩ : ∃ c0 c1, cs = #[c0, c1] := by
        refine ⟨cs[0], cs[1], ?_⟩
        apply Array.ext
        · simpa using hsz
        · intro i h1 h2
          rcases (by simp at h2; omega : i = 0 ∨ i = 1) with rfl | rfl <;> rfl
      cases c0 with
      | int q0 a =>
        cases c1 with
        | int q1 b =>
          have h' := h
          simp [Program.keyLits, Tryz.underlying103, Tryz.underlying3, pair_cells, hci, Value.cells] at h'
          by_cases e0 : q0 = IntKind.i64 ∧ (Lit.int IntKind.i64 a).wf = true
          · rw [if_pos e0] at h'
            by_cases e1 : q1 = IntKind.i64 ∧ (Lit.int IntKind.i64 b).wf = true
            · rw [if_pos e1] at h'
              obtain ⟨rfl, w0⟩ := e0
              obtain ⟨rfl, w1⟩ := e1
              refine ⟨⟨(a, b), w0, w1⟩, rfl, ?_⟩
              simp at h'
              rw [← h']
              rfl
            · rw [if_neg e1] at h'
              simp at h'
          · rw [if_neg e0] at h'
            simp at h'
        | _ => simp [Program.keyLits, Tryz.underlying103, Tryz.underlying3, pair_cells, hci, Value.cells] at h
      | _ => simp [Program.keyLits, Tryz.underlying103, Tryz.underlying3, pair_cells, hci, Value.cells] at h
    | _ => simp [Value.formed, Tryz.underlying103] at hf
  · rw [if_neg hf] at h
    cases h
def kPair : KK Tryz.prog 103 PK where
  keyed := pair_law
  ok _ := True
  val x := pairV x.1
  lit x := pairL x.1
  key x _ := pair_key x.1 x.2.1 x.2.2
  inv v l h := by
    obtain ⟨x, h1, h2⟩ := pair_inv v l h
    exact ⟨x, trivial, h1, h2⟩
  inj x y h := by
    have hx := pair_key x.1 x.2.1 x.2.2
    have hy := pair_key y.1 y.2.1 y.2.2
    rw [h] at hx
    exact Subtype.ext (pairV_inj (pair_law.inj hx hy))
end Go.Proofs.YtkgomgfhfoomhaaGreatDoor
namespace Go.Proofs.YtkgomgfhfoomhaaGreatDoor
open Go.RowKit
set_option linter.unusedVariables false
set_option linter.unusedSimpArgs false

noncomputable def inF (S : Int × Int → Prop) : PK → Option Value := fun x => open Classical in if S x.1 then some (.bool true) else none
theorem inF_set (S : Int × Int → Prop) (x : PK) : setF (inF S) x (.bool true) = inF (fun y => y = x.1 ∨ S y) := by
  funext y
  unfold setF inF
  by_cases h : y = x
  · subst h
    rw [if_pos rfl, if_pos (.inl rfl)]
  · rw [if_neg h]
    have h' : ¬ y.1 = x.1 := fun e => h (Subtype.ext e)
    by_cases hS : S y.1
    · rw [if_pos hS, if_pos (.inr hS)]
    · rw [if_neg hS, if_neg (by rintro (e | e); exact h' e; exact hS e)]
theorem inF_congr {S T : Int × Int → Prop} (h : ∀ y, S y ↔ T y) : inF S = inF T := by
  have : S = T := funext fun y => propext (h y)
  rw [this]
/-- The pairs of a record's code points below one. -/
def pairsTo (Φ : Files) (x : Rec) (q : Nat) (p : Int × Int) : Prop := ∃ r : Nat, x.lo ≤ r ∧ r < q ∧ (p = ((r : Int), simpleOf Φ r) ∨ p = (simpleOf Φ r, simpleOf Φ r))
def pairsIn (Φ : Files) (rs : List Rec) (p : Int × Int) : Prop := ∃ x ∈ rs, pairsTo Φ x (x.hi + 1) p
theorem pairsIn_snoc (Φ : Files) (rs : List Rec) (x : Rec) (p : Int × Int) : pairsIn Φ (rs ++ [x]) p ↔ pairsIn Φ rs p ∨ pairsTo Φ x (x.hi + 1) p := by
  unfold pairsIn
  constructor
  · rintro ⟨y, hy, h⟩
    rcases List.mem_append.1 hy with hy | hy
    · exact .inl ⟨y, hy, h⟩
    · obtain rfl : y = x := by simpa using hy
      exact .inr h
  · rintro (⟨y, hy, h⟩ | h)
    · exact ⟨y, List.mem_append_left _ hy, h⟩
    · exact ⟨x, by simp, h⟩
theorem pairsTo_next (Φ : Files) (x : Rec) (q : Nat) (h : x.lo ≤ q) (p : Int × Int) : pairsTo Φ x (q + 1) p ↔ p = (simpleOf Φ q, simpleOf Φ q) ∨ p = ((q : Int), simpleOf Φ q) ∨ pairsTo Φ x q p := by
  unfold pairsTo
  constructor
  · rintro ⟨r, h1, h2, h3⟩
    by_cases e : r = q
    · subst e
      rcases h3 with h3 | h3
      · exact .inr (.inl h3)
      · exact .inl h3
    · exact .inr (.inr ⟨r, h1, by omega, h3⟩)
  · rintro (h3 | h3 | ⟨r, h1, h2, h3⟩)
    · exact ⟨q, h, by omega, .inr h3⟩
    · exact ⟨q, h, by omega, .inl h3⟩
    · exact ⟨r, h1, by omega, h3⟩
def widthOf (rs : List Rec) : Nat := (rs.map fun x => x.hi + 1 - x.lo).sum
theorem widthOf_snoc (rs : List Rec) (x : Rec) : widthOf (rs ++ [x]) = widthOf rs + (x.hi + 1 - x.lo) := by unfold widthOf; simp
theorem widthOf_take (rs : List Rec) (k : Nat) : widthOf (rs.take k) ≤ widthOf rs := by
  have h : widthOf rs = widthOf (rs.take k) + widthOf (rs.drop k) := by
    unfold widthOf
    rw [← List.sum_append, ← List.map_append, List.take_append_drop]
  omega
structure PrSt (w0 wr : World) (mb rb : Nat) (S : Int × Int → Prop) (n : Nat) (v : Value) (rs : List Rec) (fv : List Value) : Prop where
  B : Below w0.heap.size w0 wr
  m0 : w0.heap.size ≤ mb
  m1 : mb < rb
  map : MapF wr kPair mb n (inF S)
  recs : RecsAt wr rb v rs fv
section
variable {w0 w w' : World} {mb rb n n' : Nat} {S T : Int × Int → Prop} {v : Value} {rs : List Rec} {fv : List Value}
theorem PrSt.below (h : PrSt w0 w mb rb S n v rs fv) (hb : Below w.heap.size w w') : PrSt w0 w' mb rb S n v rs fv := ⟨h.B.trans (hb.mono h.B.size), h.m0, h.m1, h.map.below hb h.map.lt, h.recs.below hb⟩
theorem PrSt.put (h : PrSt w0 w mb rb S n v rs fv) {x : PK} (hm : MapF w' kPair mb (n + 1) (setF (inF S) x (.bool true))) (hg : w.grownBy w' (some mb)) : PrSt w0 w' mb rb (fun y => y = x.1 ∨ S y) (n + 1) v rs fv := by
  have hl := h.map.lt
  have hs := h.B.size
  have hm1 := h.m1
  rw [inF_set] at hm
  exact ⟨h.B.grown hg (by have := h.m0; omega) (fun k hk => by cases hk; exact h.m0), h.m0, h.m1, hm, h.recs.above fun k h1 h2 => hg.block k h2 (by simp; omega)⟩
end
def PairsSaid (Φ : Files) (w : World) (e : Ending) (w' : World) : Prop := ∃ mb n, e = .returned (.map (some mb)) ∧ w.heap.size ≤ mb ∧ n ≤ 2 * widthOf Φ.fol ∧ MapF w' kPair mb n (inF (pairsIn Φ Φ.fol)) ∧ Below w.heap.size w w'
set_option maxRecDepth 100000 in
set_option maxHeartbeats 1600000 in
theorem pairs_walk {w : World} {m : Nat} {Φ : Files} (ht : TabAt w m Φ) (hok : FilesOk Φ) (htx : TextIs 52 Φ.fol) (hE : Env w) (hwd : widthOf Φ.fol ≤ 100000) (hsw : ∀ r : Int, (Lit.int .i64 r).wf = true → (Lit.int .i64 (simpleOf Φ r)).wf = true) :
    Calls Tryz.prog 89 #[.pointer (some ⟨m + 3, 0, none⟩)] w (PairsSaid Φ w) := by
  obtain ⟨x6, hx6, hl6⟩ := htx
  have X6 := Lib.hid hx6
  have L6 := Lib.hid hl6
  have HT := Lib.hid ht
  have HE := Lib.hid hE
  have Hok := Lib.hid hok
  have Hsw := Lib.hid hsw
  have hmm := @run_makeMap Tryz.prog
  have hmap := MapF.made w kPair
  have hb0 := alloc_below w (.map #[] 0)
  have hs0 := size_new w (.map #[] 0)
  clear hx6 hl6 ht hE hok hsw
  go_enter Tryz.func89, Tryz.ntmps89
  go_wp2_with fail
  generalize w.alloc (Obj.map #[] 0) = W0 at *
  have HM := Lib.hid hmap
  have HB0 := Lib.hid hb0
  clear hmm hmap hb0
  refine (X6.out _).mono ?_
  rintro e w' ⟨rfl, rfl⟩
  go_wp2_with fail
  refine (L6.out _ (HE.out.below HB0.out)).mono ?_
  rintro e w1 ⟨v, fv, rfl, hR, hb1⟩
  obtain ⟨gd, cd, rfl, hgd1, hgd2, hgd3, hgd4⟩ := own_form hR.row Hok.out.foll.pos
  have hP : PrSt w w1 w.heap.size W0.heap.size (fun _ => False) 0 (.slice (some ⟨gd, 0, none⟩) Φ.fol.length cd) Φ.fol fv := by
    refine ⟨HB0.out.trans (hb1.mono HB0.out.size), Nat.le_refl _, by omega, ?_, hR⟩
    have := HM.out.below hb1 HM.out.lt
    refine this.congr fun x _ => ?_
    unfold inF
    rw [if_neg id]
  have HP := Lib.hid hP
  have Hlen := Lib.hid hR.len
  have hfl := Hok.out.foll.le
  clear hP hR hb1 X6 L6 HM
  go_wp2_with fail
  go_loopw [20] (fun i wr => ∃ k : Nat, k ≤ Φ.fol.length ∧ i = .int .i64 k ∧ Hid (∃ n, n ≤ 2 * widthOf (Φ.fol.take k) ∧ PrSt w wr w.heap.size W0.heap.size (pairsIn Φ (Φ.fol.take k)) n (.slice (some ⟨gd, 0, none⟩) Φ.fol.length cd) Φ.fol fv)) (fun i _ => Φ.fol.length - (intOf i).toNat)
  case atStart =>
    refine ⟨0, by omega, rfl, 0, Nat.zero_le _, ?_⟩
    have e : pairsIn Φ (Φ.fol.take 0) = fun _ => False := by
      funext p
      apply propext
      constructor
      · rintro ⟨x, hx, _⟩
        simp at hx
      · exact False.elim
    show PrSt _ _ _ _ (pairsIn Φ (Φ.fol.take 0)) _ _ _ _
    rw [e]
    exact HP.out
  case round =>
    obtain ⟨k, hk, rfl, HPk⟩ := hrel
    clear HP
    by_cases hlt : k < Φ.fol.length
    · obtain ⟨n, hn, hPr⟩ := HPk.out
      obtain ⟨u, hu⟩ : ∃ u, u = fv[k]'(by rw [← Hlen.out]; exact hlt) := ⟨_, rfl⟩
      obtain ⟨r, hr⟩ : ∃ r, r = Φ.fol[k] := ⟨_, rfl⟩
      obtain ⟨g0, g1, g2⟩ := recCells_get Φ.fol fv k Hlen.out hlt
      rw [← hr] at g0 g1
      rw [← hu] at g2
      have c0 := own_cell hPr.recs.row _ _ g0
      have c1 := own_cell hPr.recs.row _ _ g1
      have c2 := own_cell hPr.recs.row _ _ g2
      have hfld := hPr.recs.fld k r u (by rw [hr]; exact List.getElem?_eq_getElem hlt) (by rw [hu]; exact List.getElem?_eq_getElem _)
      have hfok : FoldOk r := by rw [hr]; exact Hok.out.fol _ (List.getElem_mem _)
      obtain ⟨A8, c8, rfl⟩ := own_slice hfld
      have htk : ∀ p, pairsIn Φ (Φ.fol.take (k + 1)) p ↔ pairsIn Φ (Φ.fol.take k) p ∨ pairsTo Φ r (r.hi + 1) p := fun p => by rw [List.take_succ_eq_append_getElem hlt, ← hr]; exact pairsIn_snoc Φ _ r p
      have Htk := Lib.hid htk
      have hwk : widthOf (Φ.fol.take (k + 1)) = widthOf (Φ.fol.take k) + (r.hi + 1 - r.lo) := by rw [List.take_succ_eq_append_getElem hlt, ← hr, widthOf_snoc]
      have hwt := widthOf_take Φ.fol (k + 1)
      have Hwk := Lib.hid hwk
      rw [hwk] at hwt
      generalize widthOf (Φ.fol.take k) = wk at *
      have hlo := hfok.le
      have hhi := hfok.hi
      have HPr := Lib.hid hPr
      generalize pairsIn Φ (Φ.fol.take k) = SS at *
      obtain ⟨nf, hnf⟩ : ∃ nf, nf = r.fields.length := ⟨_, rfl⟩
      rw [← hnf] at c2
      clear HPk hPr htk hwk hfld hfok g0 g1 g2 hu hr hnf
      go_wp2_with fail
      obtain ⟨W2, hW2⟩ : ∃ W2, W2 = wr.alloc (Obj.cells #[Value.int IntKind.i64 r.lo, Value.int IntKind.i64 r.hi, Value.slice A8 nf c8] 69) := ⟨_, rfl⟩
      have hbw := alloc_below wr (Obj.cells #[Value.int IntKind.i64 r.lo, Value.int IntKind.i64 r.hi, Value.slice A8 nf c8] 69)
      rw [← hW2] at hbw ⊢
      have hrb : Blk W2 wr.heap.size 69 #[Value.int IntKind.i64 r.lo, Value.int IntKind.i64 r.hi, Value.slice A8 nf c8] := by rw [hW2]; exact row_new _ _
      have HP2 := Lib.hid (HPr.out.below hbw)
      have Hrb := Lib.hid hrb
      have hmlt := HPr.out.map.lt
      clear hrb hW2 HPr c0 c1 c2 hbw
      generalize wr.heap.size = rb at *
      go_loopw [9] (fun i w7 => ∃ q : Nat, r.lo ≤ q ∧ q ≤ r.hi + 1 ∧ i = .int .i64 q ∧ Hid (∃ n', n' ≤ n + 2 * (q - r.lo) ∧ PrSt w w7 w.heap.size W0.heap.size (fun p => SS p ∨ pairsTo Φ r q p) n' (.slice (some ⟨gd, 0, none⟩) Φ.fol.length cd) Φ.fol fv) ∧ Hid (Blk w7 rb 69 #[Value.int IntKind.i64 r.lo, Value.int IntKind.i64 r.hi, Value.slice A8 nf c8])) (fun i _ => r.hi + 1 - (intOf i).toNat)
      case atStart =>
        refine ⟨r.lo, Nat.le_refl _, by omega, rfl, ⟨n, by omega, ?_⟩, Hrb⟩
        have e : (fun p => SS p ∨ pairsTo Φ r r.lo p) = SS := by
          funext p
          apply propext
          constructor
          · rintro (h | ⟨q, h1, h2, _⟩)
            · exact h
            · omega
          · exact .inl
        rw [e]
        exact HP2.out
      case round =>
        obtain ⟨q, hq1, hq2, rfl, HPq, Hrq⟩ := hrel
        clear HP2 Hrb
        have y0 := Hrq.out.cell 0
        have y1 := Hrq.out.cell 1
        simp only [List.getElem?_toArray, List.getElem?_cons_zero, List.getElem?_cons_succ] at y0 y1
        obtain ⟨n', hn', hPq⟩ := HPq.out
        have HPQ := Lib.hid hPq
        clear HPq hPq
        by_cases hle : q ≤ r.hi
        · have hqw : (Lit.int .i64 (q : Int)).wf = true := wf_i64 (by omega) (by omega)
          go_wp2_with fail
          refine (simple_walk (HT.out.below HPQ.out.B) Hok.out (q : Int) hqw).mono ?_
          rintro e w8 ⟨rfl, hb8⟩
          have hsq := Hsw.out q hqw
          have HP8 := Lib.hid (HPQ.out.below hb8)
          have Hr8 := Lib.hid (Hrq.out.below hb8)
          have hpn := pairsTo_next Φ r q hq1
          obtain ⟨s, hs⟩ : ∃ s, s = simpleOf Φ (q : Int) := ⟨_, rfl⟩
          rw [← hs] at hsq hpn ⊢
          have Hpn := Lib.hid hpn
          have hcm1 : n' < maxLen := by unfold maxLen; omega
          have hcm2 : n' + 1 < maxLen := by unfold maxLen; omega
          have hne : rb ≠ w.heap.size := by omega
          clear hb8 HPQ Hrq y0 y1 hpn hs
          go_wp2_with (first | (at_mapUpdate; refine wp_mapUpdateF w8 rfl _ _ _ 99 rfl kPair Tryz.underlying99 w.heap.size n' _ rfl HP8.out.map hcm1 (⟨((q : Int), s), hqw, hsq⟩ : PK) (.bool true) rfl rfl trivial ?_; intro w9 hm9 hg9; have HP9 := Lib.hid (HP8.out.put hm9 hg9); have Hr9 := Lib.hid (Hr8.out.grown hg9 (by simpa using hne)); clear hm9 hg9) | (at_mapUpdate; refine wp_mapUpdateF w9 rfl _ _ _ 99 rfl kPair Tryz.underlying99 w.heap.size (n' + 1) _ rfl HP9.out.map hcm2 (⟨(s, s), hsq, hsq⟩ : PK) (.bool true) rfl rfl trivial ?_; intro w10 hm10 hg10; have HP10 := Lib.hid (HP9.out.put hm10 hg10); have Hr10 := Lib.hid (Hr9.out.grown hg10 (by simpa using hne)); clear hm10 hg10))
          go_roundw
          case rel =>
            refine ⟨q + 1, by omega, by omega, by go_num, ⟨n' + 1 + 1, by omega, ?_⟩, Hr10⟩
            have e : (fun p => SS p ∨ pairsTo Φ r (q + 1) p) = fun y => y = (s, s) ∨ y = ((q : Int), s) ∨ SS y ∨ pairsTo Φ r q y := by
              funext p
              apply propext
              rw [Hpn.out p]
              constructor
              · rintro (h | h | h | h)
                · exact .inr (.inr (.inl h))
                · exact .inl h
                · exact .inr (.inl h)
                · exact .inr (.inr (.inr h))
              · rintro (h | h | h | h)
                · exact .inr (.inl h)
                · exact .inr (.inr (.inl h))
                · exact .inl h
                · exact .inr (.inr (.inr h))
            rw [e]
            exact HP10.out
          case measure => simp [intOf]; omega
        · obtain rfl : q = r.hi + 1 := by omega
          have e : (fun p => SS p ∨ pairsTo Φ r (r.hi + 1) p) = pairsIn Φ (Φ.fol.take (k + 1)) := funext fun p => propext (Htk.out p).symm
          rw [e] at HPQ
          clear e
          go_wp2_with fail
          go_roundw
          case rel => exact ⟨k + 1, by omega, by go_num, ⟨n', by rw [Hwk.out]; omega, HPQ.out⟩⟩
          case measure => simp [intOf]; omega
    · obtain ⟨n, hn, hPr⟩ := HPk.out
      have hkl : k = Φ.fol.length := by omega
      rw [hkl, List.take_length] at hPr hn
      have HPr := Lib.hid hPr
      have hn9 := Lib.hid hn
      clear HPk hPr hn
      subst hkl
      go_wp2_with fail
      go_ret
      exact ⟨_, n, rfl, Nat.le_refl _, hn9.out, HPr.out.map, HPr.out.B⟩
end Go.Proofs.YtkgomgfhfoomhaaGreatDoor
namespace Go.Proofs.YtkgomgfhfoomhaaGreatDoor
open Go.RowKit
set_option linter.unusedVariables false
set_option linter.unusedSimpArgs false

/-- A slice of ranges, wherever it lies. -/
def RListAt (w : World) (v : Value) (rs : List Rg) : Prop := ∃ A c, v = .slice A rs.length c ∧ rs.length ≤ 9223372036854775807 ∧ (0 < rs.length → ∃ ad, A = some ad ∧ ∀ j (h : j < rs.length), w.cell? (ad.add (j * 2)) = some (.int .i64 rs[j].lo) ∧ w.cell? ((ad.add (j * 2)).add 1) = some (.int .i64 rs[j].hi))
theorem RListAt.below {w w' : World} {v : Value} {rs : List Rg} (h : RListAt w v rs) (hb : Below w.heap.size w w') : RListAt w' v rs := by
  obtain ⟨A, c, h1, h2, h3⟩ := h
  exact ⟨A, c, h1, h2, fun hp => by
    obtain ⟨ad, h4, h5⟩ := h3 hp
    exact ⟨ad, h4, fun j hj => ⟨cell_later hb (h5 j hj).1, cell_later hb (h5 j hj).2⟩⟩⟩
theorem rg_get : ∀ (rs : List Rg) (j : Nat) (h : j < rs.length), (rs.flatMap rgCells)[j * 2]? = some (.int .i64 rs[j].lo) ∧ (rs.flatMap rgCells)[j * 2 + 1]? = some (.int .i64 rs[j].hi)
  | r :: rs, 0, _ => ⟨rfl, rfl⟩
  | r :: rs, j + 1, h => by
    have ih := rg_get rs j (by simpa using h)
    have e : (r :: rs).flatMap rgCells = .int .i64 r.lo :: .int .i64 r.hi :: rs.flatMap rgCells := rfl
    rw [e, show (j + 1) * 2 = j * 2 + 2 by omega]
    exact ih
theorem RListAt.of_own {w : World} {B : Nat} {v : Value} {rs : List Rg} (h : RgsAt w B v rs) : RListAt w v rs := by
  unfold RgsAt at h
  have hl := own_len h
  unfold maxLen at hl
  obtain ⟨A, c, rfl⟩ := own_slice h
  refine ⟨A, c, rfl, by omega, fun hp => ?_⟩
  obtain ⟨g, k, e, _⟩ := own_form h hp
  injection e with e1
  subst e1
  refine ⟨⟨g, 0, none⟩, rfl, fun j hj => ?_⟩
  obtain ⟨g1, g2⟩ := rg_get rs j hj
  rw [add_plain, add_plain, Nat.zero_add]
  exact ⟨own_cell h _ _ g1, own_cell h _ _ g2⟩
def inRg (r : Int) (x : Rg) : Bool := decide (x.lo ≤ r) && decide (r ≤ x.hi)
def hasB (rs : List Rg) (r : Int) : Bool := (decide (0 ≤ r) && decide (r ≤ 1114111)) && rs.any (inRg r)
theorem has1_walk (w : World) (b : Nat) (x : Rg) (r : Int) (hc : w.cell? ⟨b, 0, none⟩ = some (.int .i64 r)) : Calls Tryz.prog 124 #[.agg #[.int .i64 x.lo, .int .i64 x.hi], .pointer (some ⟨b, 0, none⟩)] w fun e w' => e = .returned (.bool (inRg r x)) ∧ Below w.heap.size w w' := by
  have hb := alloc_below w (.cells #[.int .i64 x.lo, .int .i64 x.hi] 48)
  have hc' := cell_later hb hc
  have HB := Lib.hid hb
  unfold inRg
  clear hb
  by_cases h1 : x.lo ≤ r
  · by_cases h2 : r ≤ x.hi
    · have d1 : decide (x.lo ≤ r) = true := decide_eq_true h1
      have d2 : decide (r ≤ x.hi) = true := decide_eq_true h2
      rw [d1, d2]
      clear h1 h2
      go_enter Tryz.func124, Tryz.ntmps124
      go_wp2_with fail
      go_ret
      exact ⟨rfl, HB.out⟩
    · have d1 : decide (x.lo ≤ r) = true := decide_eq_true h1
      have d2 : decide (r ≤ x.hi) = false := decide_eq_false h2
      rw [d1, d2]
      clear h1 h2
      go_enter Tryz.func124, Tryz.ntmps124
      go_wp2_with fail
      go_ret
      exact ⟨rfl, HB.out⟩
  · have d1 : decide (x.lo ≤ r) = false := decide_eq_false h1
    rw [d1]
    clear h1
    go_enter Tryz.func124, Tryz.ntmps124
    go_wp2_with fail
    go_ret
    exact ⟨rfl, HB.out⟩
def idxRg (r : Int) : List Rg → Int → Int
  | [], _ => -1
  | x :: rs, i => if inRg r x then i else idxRg r rs (i + 1)
theorem idx_any (r : Int) : ∀ (rs : List Rg) (i : Int), 0 ≤ i → decide (idxRg r rs i ≥ 0) = rs.any (inRg r)
  | [], i, h => rfl
  | x :: rs, i, h => by
    unfold idxRg
    rw [List.any_cons]
    cases hx : inRg r x with
    | true => simp; omega
    | false => simp only [Bool.false_eq_true, if_false, Bool.false_or]; exact idx_any r rs (i + 1) (by omega)
set_option maxRecDepth 100000 in
theorem indexf_walk (w : World) (b : Nat) (v : Value) (rs : List Rg) (r : Int) (hl : RListAt w v rs) (hc : w.cell? ⟨b, 0, none⟩ = some (.int .i64 r)) : Calls Tryz.prog 141 #[v, .func (.func 124) #[] #[.pointer (some ⟨b, 0, none⟩)]] w fun e w' => e = .returned (.int .i64 (idxRg r rs 0)) ∧ Below w.heap.size w w' := by
  obtain ⟨A, c, rfl, hn, hz⟩ := hl
  have HZ := Lib.hid hz
  have HC := Lib.hid hc
  clear hz hc
  go_enter Tryz.func141, Tryz.ntmps141
  go_wp2_with fail
  go_loopw [8] (fun i wr => ∃ k : Nat, k ≤ rs.length ∧ i = .int .i64 k ∧ Hid (idxRg r rs 0 = idxRg r (rs.drop k) k) ∧ Hid (Below w.heap.size w wr)) (fun i _ => rs.length - (intOf i).toNat)
  case atStart => exact ⟨0, by omega, rfl, by show idxRg r rs 0 = idxRg r (rs.drop 0) ((0 : Nat) : Int); rw [List.drop_zero]; rfl, Below.refl _ _⟩
  case round =>
    obtain ⟨k, hk, rfl, HI, HB⟩ := hrel
    by_cases hlt : k < rs.length
    · obtain ⟨ad, rfl, had⟩ := HZ.out (by omega)
      obtain ⟨e0, e1⟩ := had k hlt
      have c0 := cell_later HB.out e0
      have c1 := cell_later HB.out e1
      have hd : rs.drop k = rs[k] :: rs.drop (k + 1) := List.drop_eq_getElem_cons hlt
      have HI2 := Lib.hid (show idxRg r rs 0 = if inRg r rs[k] then (k : Int) else idxRg r (rs.drop (k + 1)) ((k + 1 : Nat) : Int) by rw [HI.out, hd, idxRg]; rfl)
      obtain ⟨x, hx⟩ : ∃ x, x = rs[k] := ⟨_, rfl⟩
      rw [← hx] at c0 c1 HI2
      have c2 : wr.cell? ⟨(ad.add (k * 2)).block, (ad.add (k * 2)).off + 1, none⟩ = some (.int .i64 x.hi) := c1
      clear hd HI e0 e1 had hx c1
      go_wp2_with fail
      refine (has1_walk _ b x r (cell_later HB.out HC.out)).mono ?_
      rintro e w2 ⟨rfl, hb2⟩
      have HB2 := Lib.hid (HB.out.trans (hb2.mono HB.out.size))
      clear hb2 HB c0 c2
      cases hi : inRg r x with
      | true =>
        have hfin : idxRg r rs 0 = k := by rw [HI2.out, hi, if_pos rfl]
        have Hfin := Lib.hid hfin
        clear hi hfin HI2
        go_wp2_with fail
        go_ret
        refine ⟨?_, HB2.out⟩
        rw [Hfin.out]
        rfl
      | false =>
        have hfin : idxRg r rs 0 = idxRg r (rs.drop (k + 1)) ((k + 1 : Nat) : Int) := by rw [HI2.out, hi, if_neg (by decide)]
        have Hfin := Lib.hid hfin
        clear hi hfin HI2
        go_wp2_with fail
        go_roundw
        case rel => exact ⟨k + 1, by omega, by go_num, Hfin, HB2⟩
        case measure => simp [intOf]; omega
    · have hkl : k = rs.length := by omega
      have hfin : idxRg r rs 0 = -1 := by rw [HI.out, hkl, List.drop_length]; rfl
      have Hfin := Lib.hid hfin
      subst hkl
      clear hfin HI
      go_wp2_with fail
      go_ret
      refine ⟨?_, HB.out⟩
      rw [Hfin.out]
      rfl
theorem containsf_walk (w : World) (b : Nat) (v : Value) (rs : List Rg) (r : Int) (hl : RListAt w v rs) (hc : w.cell? ⟨b, 0, none⟩ = some (.int .i64 r)) : Calls Tryz.prog 123 #[v, .func (.func 124) #[] #[.pointer (some ⟨b, 0, none⟩)]] w fun e w' => e = .returned (.bool (rs.any (inRg r))) ∧ Below w.heap.size w w' := by
  have HI := Lib.hid (indexf_walk w b v rs r hl hc)
  rw [← idx_any r rs 0 (Int.le_refl _)]
  clear hl hc
  go_enter Tryz.func123, Tryz.ntmps123
  go_wp2_with fail
  refine HI.out.mono ?_
  rintro e w1 ⟨rfl, hb1⟩
  have HB := Lib.hid hb1
  clear hb1 HI
  go_wp2_with fail
  go_ret
  exact ⟨rfl, HB.out⟩
set_option maxRecDepth 100000 in
theorem has_walk (w : World) (v : Value) (rs : List Rg) (r : Int) (hl : RListAt w v rs) : Calls Tryz.prog 90 #[v, .int .i64 r] w fun e w' => e = .returned (.bool (hasB rs r)) ∧ Below w.heap.size w w' := by
  have hb := alloc_below w (.cells #[.int .i64 r] 3)
  have hcell := (cells_of_row (row_new w (.cells #[.int .i64 r] 3))).1 0
  have HC := Lib.hid (containsf_walk _ w.heap.size v rs r (hl.below hb) hcell)
  have HB := Lib.hid hb
  obtain ⟨A, c, rfl, hn, _⟩ := hl
  unfold hasB
  clear hb hcell
  by_cases h1 : 0 ≤ r
  · by_cases h2 : r ≤ 1114111
    · have d1 : decide (0 ≤ r) = true := decide_eq_true h1
      have d2 : decide (r ≤ 1114111) = true := decide_eq_true h2
      have d3 : decide (r ≥ 0) = true := decide_eq_true h1
      rw [d1, d2, Bool.true_and, Bool.true_and]
      clear h1 h2 d1
      go_enter Tryz.func90, Tryz.ntmps90
      go_wp2_with fail
      refine HC.out.mono ?_
      rintro e w1 ⟨rfl, hb1⟩
      have HB1 := Lib.hid (HB.out.trans (hb1.mono HB.out.size))
      clear hb1 HC HB
      go_wp2_with fail
      go_ret
      exact ⟨rfl, HB1.out⟩
    · have d1 : decide (0 ≤ r) = true := decide_eq_true h1
      have d2 : decide (r ≤ 1114111) = false := decide_eq_false h2
      have d3 : decide (r ≥ 0) = true := decide_eq_true h1
      rw [d1, d2, Bool.true_and, Bool.false_and]
      clear h1 h2 d1
      go_enter Tryz.func90, Tryz.ntmps90
      go_wp2_with fail
      go_ret
      exact ⟨rfl, HB.out⟩
  · have d1 : decide (0 ≤ r) = false := decide_eq_false h1
    have d3 : decide (r ≥ 0) = false := decide_eq_false h1
    rw [d1, Bool.false_and, Bool.false_and]
    clear h1 d1
    go_enter Tryz.func90, Tryz.ntmps90
    go_wp2_with fail
    go_ret
    exact ⟨rfl, HB.out⟩
end Go.Proofs.YtkgomgfhfoomhaaGreatDoor
namespace Go.Proofs.YtkgomgfhfoomhaaGreatDoor
open Go.RowKit Go.Maps
set_option linter.unusedVariables false
section
variable {κ : Type} {P : Program} {k : TypeId} {K : KK P k κ} {w w' : World} {b r n cnt : Nat} {f : κ → Option Value} {left : κ → Bool}
theorem Ranging.kept {row : Option Nat} (h : Ranging w K b r n f left cnt) (hg : w.grownBy w' row) (hb : some b ≠ row) (hr : some r ≠ row) : Ranging w' K b r n f left cnt := by
  obtain ⟨D, l, h1, h2, h3⟩ := h
  exact ⟨D, l, h1.kept hg hb hr, h2, h3⟩
theorem Ranging.below (h : Ranging w K b r n f left cnt) (hb : Below w.heap.size w w') : Ranging w' K b r n f left cnt := h.kept (grown_of_below hb none) (by simp) (by simp)
theorem Ranging.left_eq (h : Ranging w K b r n f left cnt) : w.rangeLeft b r = cnt := by
  obtain ⟨D, l, h1, h2, h3⟩ := h
  exact h1.left_eq
theorem Ranging.lt (h : Ranging w K b r n f left cnt) : r < w.heap.size := by
  obtain ⟨D, l, h1, h2, h3⟩ := h
  exact h1.lt
theorem Ranging.cnt_le (h : Ranging w K b r n f left cnt) : cnt ≤ n := by
  obtain ⟨D, l, ⟨es, clock, since, seen, c0, _, _, hs, _, _, _, hc, _⟩, _, _⟩ := h
  rw [← hc]
  refine Nat.le_trans ?_ hs
  unfold leftOf
  exact Array.size_filter_le
end
noncomputable def hitF (T : Int → Prop) : Int → Option Value := fun x => open Classical in if T x then some (.bool true) else none
theorem hitF_set (T : Int → Prop) (x : Int) : setF (hitF T) x (.bool true) = hitF (fun y => y = x ∨ T y) := by
  funext y
  unfold setF hitF
  by_cases h : y = x
  · rw [if_pos h, if_pos (.inl h)]
  · rw [if_neg h]
    by_cases hT : T y
    · rw [if_pos hT, if_pos (.inr hT)]
    · rw [if_neg hT, if_neg (by rintro (e | e); exact h e; exact hT e)]
/-- The hits of the pairs that have come. -/
def hitT (S : Int × Int → Prop) (rs : List Rg) (left : PK → Bool) (k : Int) : Prop := ∃ p : PK, S p.1 ∧ left p = false ∧ hasB rs p.1.1 = true ∧ p.1.2 = k
theorem hitT_has {S : Int × Int → Prop} {rs : List Rg} {left : PK → Bool} {x : PK} (hS : S x.1) (hl : left x = true) (hh : hasB rs x.1.1 = true) : hitT S rs (fun y => left y && !decide (y = x)) = fun k => k = x.1.2 ∨ hitT S rs left k := by
  funext k
  apply propext
  unfold hitT
  constructor
  · rintro ⟨p, h1, h2, h3, h4⟩
    by_cases e : p = x
    · subst e
      exact .inl h4.symm
    · simp only [e, decide_false, Bool.not_false, Bool.and_true] at h2
      exact .inr ⟨p, h1, h2, h3, h4⟩
  · rintro (h | ⟨p, h1, h2, h3, h4⟩)
    · exact ⟨x, hS, by simp, hh, h.symm⟩
    · exact ⟨p, h1, by show (left p && _) = false; rw [h2]; rfl, h3, h4⟩
theorem hitT_not {S : Int × Int → Prop} {rs : List Rg} {left : PK → Bool} {x : PK} (hh : hasB rs x.1.1 = false) : hitT S rs (fun y => left y && !decide (y = x)) = hitT S rs left := by
  funext k
  apply propext
  unfold hitT
  constructor
  · rintro ⟨p, h1, h2, h3, h4⟩
    by_cases e : p = x
    · subst e
      rw [hh] at h3
      cases h3
    · simp only [e, decide_false, Bool.not_false, Bool.and_true] at h2
      exact ⟨p, h1, h2, h3, h4⟩
  · rintro ⟨p, h1, h2, h3, h4⟩
    exact ⟨p, h1, by show (left p && _) = false; rw [h2]; rfl, h3, h4⟩
/-- The singles of the pairs that have come. -/
def oneT (S : Int × Int → Prop) (T : Int → Prop) (left : PK → Bool) (x : Rg) : Prop := ∃ p : PK, S p.1 ∧ left p = false ∧ T p.1.2 ∧ x = ⟨p.1.1, p.1.1⟩
theorem oneT_has {S : Int × Int → Prop} {T : Int → Prop} {left : PK → Bool} {x : PK} (hS : S x.1) (hT : T x.1.2) (y : Rg) : oneT S T (fun y => left y && !decide (y = x)) y ↔ oneT S T left y ∨ y = ⟨x.1.1, x.1.1⟩ := by
  unfold oneT
  constructor
  · rintro ⟨p, h1, h2, h3, h4⟩
    by_cases e : p = x
    · subst e
      exact .inr h4
    · simp only [e, decide_false, Bool.not_false, Bool.and_true] at h2
      exact .inl ⟨p, h1, h2, h3, h4⟩
  · rintro (⟨p, h1, h2, h3, h4⟩ | h)
    · exact ⟨p, h1, by show (left p && _) = false; rw [h2]; rfl, h3, h4⟩
    · exact ⟨x, hS, by simp, hT, h⟩
theorem oneT_not {S : Int × Int → Prop} {T : Int → Prop} {left : PK → Bool} {x : PK} (hT : ¬ T x.1.2) (y : Rg) : oneT S T (fun y => left y && !decide (y = x)) y ↔ oneT S T left y := by
  unfold oneT
  constructor
  · rintro ⟨p, h1, h2, h3, h4⟩
    by_cases e : p = x
    · subst e
      exact absurd h3 hT
    · simp only [e, decide_false, Bool.not_false, Bool.and_true] at h2
      exact ⟨p, h1, h2, h3, h4⟩
  · rintro ⟨p, h1, h2, h3, h4⟩
    exact ⟨p, h1, by show (left p && _) = false; rw [h2]; rfl, h3, h4⟩
theorem own_fresh0 (w : World) (e : TypeId) (k : Nat) : (w.alloc (.cells #[] e)).ownsRow w.heap.size e k (.slice (some ⟨w.heap.size, 0, none⟩) 0 0) 0 [] :=
  ⟨by simp, .inr ⟨w.heap.size, 0, #[], rfl, Nat.le_refl _, row_new _ _, Nat.le_refl _, by unfold maxLen; omega, by simp, by simp⟩⟩
end Go.Proofs.YtkgomgfhfoomhaaGreatDoor
namespace Go.Proofs.YtkgomgfhfoomhaaGreatDoor
open Go.RowKit
set_option linter.unusedVariables false
set_option linter.unusedSimpArgs false
theorem run_append_nil0 {P : Program} (w : World) (t ty e : TypeId) (i : TypeInfo) (ht : P.underlying t = some (.slice e)) (hi : P.info? e = some i) (b : Nat) :
    (Builtin.append_ #[t, t] ty #[.slice (some ⟨b, 0, none⟩) 0 0, .slice none 0 0]).run P w = .ok (.slice (some ⟨b, 0, none⟩) 0 0) w := by
  simp [Builtin.append_, run_underlying ht, sizeOf, typeInfo, hi, Builtin.lenOf, Builtin.firstCells, storeCells]
theorem wp_append_nil0 {P : Program} (w : World) {t e : TypeId} {size bytes : Nat} (T : SlT P t e size bytes) {ops : Array Oper} {rest : List Oper} {o : Oper} {a : Act} {Q : Exit → Act → World → Prop} (hgd : o.guard = none) (s x : Operand)
    (ho : o.op = .call { callee := .builtin .append, args := #[s, x], argTypes := #[t, t] })
    (base b : Nat) (hs : a.eval s = .slice (some ⟨b, 0, none⟩) 0 0) (hown : w.ownsRow base e size (.slice (some ⟨b, 0, none⟩) 0 0) 0 []) (hx : a.eval x = .slice none 0 0)
    (h : ∀ v' w', w'.ownsRow base e size v' (0 + 0) ([] ++ []) → w.grownBy w' (some b) → wpList P ops Q rest (a.put o.dst v') w') :
    wpList P ops Q (o :: rest) a w := by
  obtain ⟨i, hi, _⟩ := Option.map_eq_some_iff.1 T.hi
  have hr := run_append_nil0 w t o.type e i T.ht hi b
  have hrun : (execOp a.eval o).run P w = .ok (.value (.slice (some ⟨b, 0, none⟩) 0 0)) w := by
    unfold execOp
    simp only [ho, resolve, invoke, builtin, Sem.run_bind, Sem.run_pure, Result.andThen_ok, List.map_toArray, List.map_cons, List.map_nil, hs, hx, hr]
  refine wpList_plain hgd fun K hK => ?_
  unfold Oper.wp
  rw [hrun]
  exact hK _ _ (h _ _ hown ⟨rfl, rfl, rfl, Nat.le_refl _, fun _ _ _ => rfl⟩)
/-- append of any slice to an empty row of one's own. -/
theorem wp_append_any {P : Program} (w : World) {t e : TypeId} {size bytes : Nat} (T : SlT P t e size bytes) {ops : Array Oper} {rest : List Oper} {o : Oper} {a : Act} {Q : Exit → Act → World → Prop} (hgd : o.guard = none) (s x : Operand)
    (ho : o.op = .call { callee := .builtin .append, args := #[s, x], argTypes := #[t, t] })
    (base b : Nat) (hs : a.eval s = .slice (some ⟨b, 0, none⟩) 0 0) (hown : w.ownsRow base e size (.slice (some ⟨b, 0, none⟩) 0 0) 0 [])
    (A : Option Addr) (m c : Nat) (news : List Value) (hx : a.eval x = .slice A m c) (hA : A = none → m = 0 ∧ c = 0) (hl : news.length = m * size) (hnews : ∀ ad, A = some ad → ∀ j u, news[j]? = some u → w.cell? (ad.add j) = some u) (h1 : ∀ u ∈ news, u.oneCell' = true)
    (hbytes : (0 + m) * bytes ≤ 140737488355328) (hbase : base ≤ w.heap.size)
    (h : ∀ v' w', w'.ownsRow base e size v' (0 + m) ([] ++ news) → w.grownBy w' (some b) → wpList P ops Q rest (a.put o.dst v') w') :
    wpList P ops Q (o :: rest) a w := by
  cases A with
  | none =>
    obtain ⟨rfl, rfl⟩ := hA rfl
    have : news = [] := List.length_eq_zero_iff.1 (by simpa using hl)
    subst this
    exact wp_append_nil0 w T hgd s x ho base b hs hown hx h
  | some ad => exact wp_append w T hgd s x ho base _ 0 [] hs hown ad m c news hx hl (hnews ad rfl) h1 hbytes hbase (fun v' w' r1 r2 _ _ => h v' w' r1 r2)
end Go.Proofs.YtkgomgfhfoomhaaGreatDoor
namespace Go.Proofs.YtkgomgfhfoomhaaGreatDoor
open Go.RowKit Go.Maps
set_option linter.unusedVariables false
set_option linter.unusedSimpArgs false

theorem RListAt.cells {w : World} {ad : Addr} {n c : Nat} {rs : List Rg} (h : RListAt w (.slice (some ad) n c) rs) : ∀ j u, (rs.flatMap rgCells)[j]? = some u → w.cell? (ad.add j) = some u := by
  obtain ⟨A, c', e, _, h3⟩ := h
  injection e with e1 e2 e3
  subst e1
  intro j u hu
  have hlen : (rs.flatMap rgCells).length = rs.length * 2 := flat_len rgCells 2 (fun _ => rfl) rs
  have hj : j < rs.length * 2 := by rw [← hlen]; exact (List.getElem?_eq_some_iff.1 hu).1
  obtain ⟨ad', h4, h5⟩ := h3 (by omega)
  injection h4 with h4
  subst h4
  obtain ⟨g1, g2⟩ := rg_get rs (j / 2) (by omega)
  obtain ⟨q1, q2⟩ := h5 (j / 2) (by omega)
  rcases (by omega : j = j / 2 * 2 ∨ j = j / 2 * 2 + 1) with e | e
  · rw [e] at hu ⊢
    rw [g1] at hu
    rw [← hu]
    exact q1
  · rw [e] at hu ⊢
    rw [g2] at hu
    rw [← hu, ← Addr.add_add]
    exact q2
theorem Ranging.own_ne {κ : Type} {P : Program} {k : TypeId} {K : KK P k κ} {w : World} {b r n cnt base m size : Nat} {f : κ → Option Value} {left : κ → Bool} {e : TypeId} {v : Value} {xs : List Value} (h : Ranging w K b r n f left cnt) (ho : w.ownsRow base e size v m xs) : (v.ownBlock = none ∨ v.ownBlock ≠ some r) ∧ some r ≠ v.ownBlock ∧ some b ≠ v.ownBlock := by
  obtain ⟨D, l, ⟨es, clock, since, seen, c0, hb, _, _, _, hr, _⟩, _, _⟩ := h
  rcases ho.2 with ⟨rfl, _⟩ | ⟨g, cap, cur, rfl, _, hg, _⟩
  · exact ⟨.inl rfl, by simp [Value.ownBlock], by simp [Value.ownBlock]⟩
  · have h1 : g ≠ r := by
      rintro rfl
      rw [hr] at hg
      cases hg
    have h2 : g ≠ b := by
      rintro rfl
      rw [hb] at hg
      cases hg
    exact ⟨.inr (by simpa [Value.ownBlock] using h1), by simpa [Value.ownBlock] using Ne.symm h1, by simpa [Value.ownBlock] using Ne.symm h2⟩
theorem lookT {w : World} {hb n : Nat} {T : Int → Prop} (h : MapF w (kInt : KK Tryz.prog 3 Int) hb n (hitF T)) (x : Int) (hx : (Lit.int .i64 x).wf = true) : ∃ tb : Bool, (Instr.lookup 101 (.map (some hb)) (.int .i64 x) false).run Tryz.prog w = .ok (.bool tb) w ∧ (tb = true ↔ T x) := by
  have hz : (zeroValue 4).run Tryz.prog w = .ok (.bool false) w := Tryz.zeroValue4 w
  have hl : (Instr.lookup 101 (.map (some hb)) (.int .i64 x) false).run Tryz.prog w = .ok ((hitF T x).getD (.bool false)) w := h.look false (t := 101) (e := 4) Tryz.underlying101 hz x hx
  by_cases hT : T x
  · refine ⟨true, ?_, by simp [hT]⟩
    have e : hitF T x = some (.bool true) := by unfold hitF; rw [if_pos hT]
    rw [e] at hl
    simpa using hl
  · refine ⟨false, ?_, by simp [hT]⟩
    have e : hitF T x = none := by unfold hitF; rw [if_neg hT]
    rw [e] at hl
    simpa using hl
def allHits (Φ : Files) (rs : List Rg) (k : Int) : Prop := ∃ p : PK, pairsIn Φ Φ.fol p.1 ∧ hasB rs p.1.1 = true ∧ p.1.2 = k
def ClosureSaid (Φ : Files) (rs : List Rg) (w : World) (e : Ending) (w' : World) : Prop :=
  ∃ v M s, e = .returned v ∧ s.Perm (clipped (rs ++ M)) ∧ s.Pairwise (fun a b => a.lo ≤ b.lo) ∧ RgsAt w' w.heap.size v (joinAll s) ∧ (∀ x, x ∈ M ↔ ∃ p : PK, pairsIn Φ Φ.fol p.1 ∧ allHits Φ rs p.1.2 ∧ x = ⟨p.1.1, p.1.1⟩) ∧ Below w.heap.size w w' ∧ M.length ≤ 200000
set_option maxRecDepth 100000 in
set_option maxHeartbeats 3200000 in
theorem closure_walk {w : World} {m : Nat} {Φ : Files} {rs : List Rg} {v : Value} (ht : TabAt w m Φ) (hok : FilesOk Φ) (htx : TextIs 52 Φ.fol) (hE : Env w) (hwd : widthOf Φ.fol ≤ 100000) (hsw : ∀ r : Int, (Lit.int .i64 r).wf = true → (Lit.int .i64 (simpleOf Φ r)).wf = true)
    (hl : RListAt w v rs) (hv : v = .slice none 0 0 ∨ ∃ ad n c, v = .slice (some ad) n c) (hrl : rs.length ≤ 500000) :
    Calls Tryz.prog 37 #[.pointer (some ⟨m + 3, 0, none⟩), v] w (ClosureSaid Φ rs w) := by
  have hto := to_walk ht hok 0 (by decide) false
  simp only [Bool.false_eq_true, if_false] at hto
  obtain ⟨n0, l0, e0⟩ := foldz_cons hok false 0
  rw [e0] at hto
  have HTO := Lib.hid hto
  have HPR := Lib.hid (fun (W : World) (hb : Below w.heap.size w W) => pairs_walk (ht.below hb) hok htx (hE.below hb) hwd hsw)
  have HL := Lib.hid hl
  obtain ⟨A, c, rfl, hn, hz⟩ := hl
  have hA : A = none → rs.length = 0 ∧ c = 0 := by
    rintro rfl
    rcases hv with h | ⟨ad, n, c', h⟩
    · injection h with _ h1 h2
      exact ⟨h1, h2⟩
    · injection h with h0
      cases h0
  have HA := Lib.hid hA
  clear hv hA
  have hmm := @run_makeMap Tryz.prog
  clear hto ht hok htx hE hsw hz e0
  go_enter Tryz.func37, Tryz.ntmps37
  go_wp2_with fail
  refine HTO.out.mono ?_
  rintro e w1 ⟨v1, rfl, hv1, hb1⟩
  obtain ⟨A1, c1, rfl⟩ := own_slice hv1
  have d0 : ((((n0 :: l0).length : Nat) : Int) == 0) = false := by rw [beq_eq_false_iff_ne]; simp; omega
  generalize (n0 :: l0).length = nl at *
  have HB1 := Lib.hid hb1
  clear hv1 hb1 HTO
  go_wp2_with fail
  refine (HPR.out w1 HB1.out).mono ?_
  rintro e w2 ⟨mb, n, rfl, hmb, hn2, hm2, hb2⟩
  have HM2 := Lib.hid hm2
  have HB2 := Lib.hid (HB1.out.trans (hb2.mono HB1.out.size))
  have hn3 : n ≤ 200000 := by omega
  have hwmb : w.heap.size ≤ mb := Nat.le_trans HB1.out.size hmb
  clear hm2 hb2 HPR HB1 hmb
  have hbH := alloc_below w2 (.map #[] 0)
  have hmH := MapF.made w2 kInt
  have hsH := size_new w2 (.map #[] 0)
  have hM3 := HM2.out.below hbH HM2.out.lt
  generalize hSS : pairsIn Φ Φ.fol = S at *
  go_wp2_with (at_range; refine wp_rangeF _ rfl (.tmp 17) 99 rfl kPair Tryz.underlying99 mb n _ rfl (by exact HM2.out.below hbH HM2.out.lt) ?_; intro w3 cnt0 hrg3 hg3 hs3; generalize hW3 : w2.alloc (Obj.map #[] 0) = W3 at *; have HRg3 := Lib.hid hrg3; have HG3 := Lib.hid hg3; clear hrg3 hg3 hW3)
  go_frame
  clear hmm
  generalize hhb : w2.heap.size = hb at *
  generalize hrr : W3.heap.size = rr at *
  subst hsH
  have HH3 := Lib.hid (hmH.kept HG3.out (by simp))
  have HB3 := Lib.hid ((HB2.out.trans (hbH.mono (by have := HB2.out.size; omega))).trans (Below.grown (Below.refl _ _) HG3.out (by have := HB2.out.size; omega) (fun k hk => by cases hk)))
  have hmbl := HM2.out.lt
  have HMp3 := Lib.hid (hM3.kept HG3.out (by simp))
  clear hM3
  have hrange : Hid (Ranging w3 kPair mb (hb + 1) n (inF S) (fun x => (inF S x).isSome) cnt0) := HRg3
  clear hmH HRg3 HG3 hbH HM2 HB2
  go_loopw [19] (fun _ wr => ∃ (left : PK → Bool) (cnt n1 : Nat), Hid (Ranging wr kPair mb (hb + 1) n (inF S) left cnt) ∧ Hid (MapF wr kInt hb n1 (hitF (hitT S rs left))) ∧ n1 + cnt ≤ n ∧ Hid (Below w.heap.size w wr) ∧ Hid (MapF wr kPair mb n (inF S))) (fun _ wr => wr.rangeLeft mb (hb + 1))
  case atStart =>
    refine ⟨_, cnt0, 0, hrange, ?_, by have := hrange.out.cnt_le; omega, HB3, HMp3⟩
    refine MapF.congr HH3.out fun x _ => ?_
    unfold hitF
    rw [if_neg]
    rintro ⟨p, h1, h2, _⟩
    have h2' : (inF S p).isSome = false := h2
    unfold inF at h2'
    rw [if_pos h1] at h2'
    cases h2'
  case round =>
    obtain ⟨left, cnt, n1, HRg, HH, hn1, HB, HMp⟩ := hrel
    clear HH3 hrange HMp3
    by_cases h0 : cnt = 0
    · have hhlt := HH.out.lt
      have hne1 : mb ≠ hb := by omega
      have hb0 := alloc_below wr (Obj.cells #[] 48)
      have hs0 := size_new wr (Obj.cells #[] 48)
      have hown0 := own_fresh0 wr 48 2
      have hcells : ∀ ad, A = some ad → ∀ j u, (rs.flatMap rgCells)[j]? = some u → (wr.alloc (Obj.cells #[] 48)).cell? (ad.add j) = some u := by
        intro ad hAd
        have h := (HL.out.below HB.out).below hb0
        rw [hAd] at h
        exact RListAt.cells h
      have HH0 := Lib.hid (HH.out.below hb0 hhlt)
      have HM0 := Lib.hid (HMp.out.below hb0 HMp.out.lt)
      have hmlt := HMp.out.lt
      have HB0 := Lib.hid (HB.out.trans (hb0.mono HB.out.size))
      have hone : ∀ u ∈ rs.flatMap rgCells, u.oneCell' = true := by
        intro u hu
        obtain ⟨r, _, hr⟩ := List.mem_flatMap.1 hu
        simp [rgCells] at hr
        rcases hr with rfl | rfl <;> rfl
      have hfl2 : (rs.flatMap rgCells).length = rs.length * 2 := flat_len rgCells 2 (fun _ => rfl) rs
      have hby : (0 + rs.length) * 16 ≤ 140737488355328 := by omega
      have Hown0 := Lib.hid hown0
      have Hcells := Lib.hid hcells
      have Hone := Lib.hid hone
      have Hfl2 := Lib.hid hfl2
      have hwb : w.heap.size ≤ wr.heap.size := HB.out.size
      clear hown0 hcells hone hfl2 hb0 HH HMp HB
      go_wp2_with (first | (at_next; refine wp_nextF _ rfl (.tmp 18) rfl kPair mb (hb + 1) n _ _ _ rfl HRg.out ?_ (fun x v w' cnt' _ _ _ _ hlt => absurd hlt (by omega)); intro hc0 hl0; have HT0 := Lib.hid (fun k => (show hitT S rs left k ↔ ∃ p : PK, S p.1 ∧ hasB rs p.1.1 = true ∧ p.1.2 = k from ⟨fun ⟨p, q1, q2, q3, q4⟩ => ⟨p, q1, q3, q4⟩, fun ⟨p, q1, q3, q4⟩ => ⟨p, q1, hl0 p trivial, q3, q4⟩⟩)); clear hl0 hc0 HRg) | (at_builtin; refine wp_append_any _ slRange rfl (.tmp 30) (.tmp 31) rfl wr.heap.size wr.heap.size rfl (by exact Hown0.out) A rs.length c (rs.flatMap rgCells) rfl (by exact HA.out) (by exact Hfl2.out) (by exact Hcells.out) (by exact Hone.out) (by exact hby) (by rw [hs0]; omega) ?_; intro v8 w8 hown8 hg8; have HO8 := Lib.hid hown8; have HG8 := Lib.hid hg8; clear hown8 hg8) | (at_range; refine wp_rangeF w8 rfl (.tmp 33) 99 rfl kPair Tryz.underlying99 mb n _ rfl (by exact HM0.out.kept HG8.out (by simp [Value.ownBlock]; omega)) ?_; intro w9 cnt9 hrg9 hg9 hs9; have HRg9 := Lib.hid hrg9; have HG9 := Lib.hid hg9; clear hrg9 hg9))
      go_frame
      have hT9 := HT0.out
      have hH0 := HH0.out
      generalize hitT S rs left = T at *
      have HT9 := Lib.hid hT9
      have hO8 : RgsAt w8 wr.heap.size v8 (rs ++ []) := by
        have := HO8.out
        rw [List.append_nil]
        simpa [RgsAt] using this
      have hv8b : ∀ g, (Value.slice (some ⟨wr.heap.size, 0, none⟩) 0 0).ownBlock = some g → g = wr.heap.size := fun g hg => by simpa [Value.ownBlock] using hg.symm
      have hH8 : MapF w8 kInt hb n1 (hitF T) := hH0.kept HG8.out (by simp [Value.ownBlock]; omega)
      have hB8 : Below w.heap.size w w8 := HB0.out.grown HG8.out HB0.out.size (fun k hk => by have := hv8b k hk; omega)
      have HO9 := Lib.hid (show RgsAt w9 wr.heap.size v8 (rs ++ []) from World.ownsRow.kept hO8 HG9.out (by cases v8.ownBlock <;> simp))
      have HH9 := Lib.hid (hH8.kept HG9.out (by simp))
      have HB9 := Lib.hid (hB8.grown HG9.out hB8.size (fun k hk => by cases hk))
      have hcn := HRg9.out.cnt_le
      have hbr : wr.heap.size < w8.heap.size := by have := HG8.out.size; omega
      have hsz9 : wr.heap.size ≤ w9.heap.size := by have := HG8.out.size; have := HG9.out.size; omega
      clear hT9 hH0 HT0 HH0 HO8 hO8 hv8b hH8 hB8 HG8 HG9 HM0 HB0 Hown0 Hcells Hone Hfl2
      generalize wr.heap.size = bb at *
      generalize w8.heap.size = r2 at *
      go_loopw [8, 35] (fun u8 _ wr2 => ∃ (left2 : PK → Bool) (cnt : Nat) (M : List Rg), Hid (Ranging wr2 kPair mb r2 n (inF S) left2 cnt) ∧ Hid (RgsAt wr2 bb u8 (rs ++ M)) ∧ Hid (∀ x, x ∈ M ↔ oneT S T left2 x) ∧ M.length + cnt ≤ n ∧ Hid (MapF wr2 kInt hb n1 (hitF T)) ∧ Hid (Below w.heap.size w wr2) ∧ bb ≤ wr2.heap.size) (fun _ _ wr2 => wr2.rangeLeft mb r2)
      case atStart =>
        refine ⟨_, cnt9, [], HRg9, HO9, ?_, by simpa using hcn, HH9, HB9, hsz9⟩
        intro x
        constructor
        · intro h; cases h
        · rintro ⟨p, q1, q2, _⟩
          have h2' : (inF S p).isSome = false := q2
          unfold inF at h2'
          rw [if_pos q1] at h2'
          cases h2'
      case round =>
        obtain ⟨left2, cnt2, M, HRg, HO, HMm, hMc, HH, HB, hbb⟩ := hrel
        clear HRg9 HO9 HH9 HB9
        by_cases h0 : cnt2 = 0
        · go_wp2_with (at_next; refine wp_nextF wr rfl (.tmp 34) rfl kPair mb r2 n _ _ _ rfl HRg.out ?_ (fun x v w' cnt' _ _ _ _ hlt => absurd hlt (by omega)); intro hc0 hl0; have HL0 := Lib.hid hl0; clear hl0 hc0 HRg)
          refine (make_walk (rs ++ M) bb u8 wr HO.out (by rw [List.length_append]; omega)).mono ?_
          rintro e w5 ⟨v5, s5, rfl, hperm, hsort, hr5, hb5⟩
          have hmem : ∀ x, x ∈ M ↔ ∃ p : PK, pairsIn Φ Φ.fol p.1 ∧ allHits Φ rs p.1.2 ∧ x = ⟨p.1.1, p.1.1⟩ := by
            intro x
            rw [HMm.out x]
            unfold oneT allHits
            rw [hSS]
            constructor
            · rintro ⟨p, q1, _, q3, q4⟩
              exact ⟨p, q1, (HT9.out _).1 q3, q4⟩
            · rintro ⟨p, q1, q3, q4⟩
              exact ⟨p, q1, HL0.out p trivial, (HT9.out _).2 q3, q4⟩
          have Hfin := Lib.hid (show ClosureSaid Φ rs w (.returned v5) w5 from ⟨v5, M, s5, rfl, hperm, hsort, own_base hr5 HB.out.size, hmem, HB.out.trans (hb5.mono HB.out.size), by omega⟩)
          clear hperm hsort hr5 hb5 hmem HO HH HB
          go_wp2_with fail
          go_ret
          exact Hfin.out
        · have hby : ((rs ++ M).length + 1) * 16 ≤ 140737488355328 := by rw [List.length_append]; omega
          have hne2 : hb ≠ r2 := by omega
          have hms : Hid (wr.rangeLeft mb r2 = cnt2) := HRg.out.left_eq
          go_wp2_with (first | (at_builtin; refine wp_append_new slRange rfl (.tmp 43) (.tmp 49) rfl bb u8 _ _ rfl (by exact HO5.out) #[.int .i64 x.1.1, .int .i64 x.1.1] (by rw [size_new, hs4]; rfl) rfl (by simp [Value.oneCell']) (by exact hby) (by rw [size_new]; omega) ?_; intro v9' w7 hown7 hg7; have HO7 := Lib.hid hown7; have HG7 := Lib.hid hg7; clear hown7 hg7) | (at_next; refine wp_nextF wr rfl (.tmp 34) rfl kPair mb r2 n _ _ _ rfl HRg.out (fun h => absurd h h0) ?_; intro x v4 w4 cnt4 hok4 hleft4 hf4 hrg4 hlt4 hg4 hs4 hen4; have hen5 : (Instr.entry (.pointer (some ⟨r2, 0, none⟩))).run Tryz.prog w4 = .ok (.tuple #[.agg #[.int .i64 x.1.1, .int .i64 x.1.2], v4]) w4 := hen4; have hO4 : RgsAt w4 bb u8 (rs ++ M) := World.ownsRow.kept HO.out hg4 (HRg.out.own_ne HO.out).1; have hH4 : MapF w4 kInt hb n1 (hitF T) := HH.out.kept hg4 (by simpa using hne2); have hbw4 := alloc_below w4 (Obj.cells #[Value.int IntKind.i64 x.1.1, Value.int IntKind.i64 x.1.2] 103); have hB4 := HB.out.grown hg4 HB.out.size (fun k hk => by cases hk; omega); obtain ⟨tb, hlk, htb⟩ := lookT (hH4.below hbw4 hH4.lt) x.1.2 x.2.2; have HRg5 := Lib.hid (hrg4.below hbw4); have HO5 := Lib.hid (own_below hO4 hbw4); have HH5 := Lib.hid (hH4.below hbw4 hH4.lt); have HB5 := Lib.hid (hB4.trans (hbw4.mono hB4.size)); have Htb := Lib.hid htb; have Hl4 := Lib.hid hleft4; have Hf4 := Lib.hid hf4; clear hrg4 hg4 hen4 hleft4 hf4 hok4 hO4 hH4 hbw4 hB4 htb HO HH HB HRg; rcases tb with _ | _))
          · have hnT : ¬ T x.1.2 := fun h => by have := Htb.out.2 h; cases this
            refine ⟨⟨_, cnt4, M, HRg5, HO5, fun y => ?_, by omega, HH5, HB5, by rw [size_new]; omega⟩, ?_⟩
            · rw [HMm.out y, oneT_not hnT y]
            · rw [HRg5.out.left_eq, hms.out]
              exact hlt4
          · have hTx : T x.1.2 := Htb.out.1 rfl
            have hSx : S x.1 := by
              have h := Hf4.out
              unfold inF at h
              by_cases hS : S x.1
              · exact hS
              · rw [if_neg hS] at h
                cases h
            have hOn := HRg5.out.own_ne HO5.out
            have HRg7 := Lib.hid (HRg5.out.kept HG7.out hOn.2.2 hOn.2.1)
            have hhb : some hb ≠ u8.ownBlock := by
              rcases own_map_ne HO5.out HH5.out with h | h
              · rw [h]; simp
              · exact Ne.symm h
            have HH7 := Lib.hid (HH5.out.kept HG7.out hhb)
            have HB7 := Lib.hid (HB5.out.grown HG7.out HB5.out.size (fun k hk => by have := (own_lt HO5.out k hk).1; omega))
            have hO7 : RgsAt w7 bb v9' (rs ++ (M ++ [⟨x.1.1, x.1.1⟩])) := by
              have h := HO7.out
              unfold RgsAt
              rw [← List.append_assoc, List.flatMap_append, List.length_append]
              exact h
            refine ⟨⟨_, cnt4, M ++ [⟨x.1.1, x.1.1⟩], HRg7, Lib.hid hO7, fun y => ?_, by rw [List.length_append, List.length_singleton]; omega, HH7, HB7, by have := HG7.out.size; rw [size_new] at this; omega⟩, ?_⟩
            · rw [oneT_has hSx hTx y, ← HMm.out y]
              simp
            · rw [HRg7.out.left_eq, hms.out]
              exact hlt4
    · have hrlt := HRg.out.lt
      have hhlt := HH.out.lt
      have hne1 : mb ≠ hb := by omega
      go_wp2_with (at_next; refine wp_nextF _ rfl (.tmp 18) rfl kPair mb (hb + 1) n _ _ _ rfl HRg.out (fun h => absurd h h0) ?_; intro x v4 w4 cnt4 hok4 hleft4 hf4 hrg4 hlt4 hg4 hs4 hen4; have hen5 : (Instr.entry (.pointer (some ⟨hb + 1, 0, none⟩))).run Tryz.prog w4 = .ok (.tuple #[.agg #[.int .i64 x.1.1, .int .i64 x.1.2], v4]) w4 := hen4; have HRg4 := Lib.hid hrg4; have HG4 := Lib.hid hg4; have Hl4 := Lib.hid hleft4; have Hf4 := Lib.hid hf4; clear hrg4 hg4 hen4 hleft4 hf4 hok4)
      have HSx : Hid (S x.1) := by
        have h := Hf4.out
        unfold inF at h
        by_cases hS : S x.1
        · exact hS
        · rw [if_neg hS] at h
          cases h
      have hbw := alloc_below w4 (Obj.cells #[Value.int IntKind.i64 x.1.1, Value.int IntKind.i64 x.1.2] 103)
      have HB4 := Lib.hid (HB.out.grown HG4.out HB.out.size (fun k hk => by cases hk; omega))
      have hH4 : MapF w4 kInt hb n1 (hitF (hitT S rs left)) := HH.out.kept HG4.out (by simp)
      have hM4 : MapF w4 kPair mb n (inF S) := HMp.out.kept HG4.out (by simp; omega)
      refine (has_walk _ _ rs x.1.1 ((HL.out.below HB4.out).below hbw)).mono ?_
      rintro e w5 ⟨rfl, hb5⟩
      have hb45 := hbw.trans (hb5.mono hbw.size)
      have HRg5 := Lib.hid (HRg4.out.below hb45)
      have HH5 := Lib.hid (hH4.below hb45 hH4.lt)
      have HM5 := Lib.hid (hM4.below hb45 hM4.lt)
      have HB5 := Lib.hid (HB4.out.trans (hb45.mono HB4.out.size))
      have cp : w5.cell? ⟨wr.heap.size, 1, none⟩ = some (.int .i64 x.1.2) := by rw [← hs4]; exact cell_later hb5 ((cells_of_row (row_new w4 _)).1 1)
      have hms : Hid (wr.rangeLeft mb (hb + 1) = cnt) := HRg.out.left_eq
      have hcm : n1 < maxLen := by unfold maxLen; omega
      clear hb45 hb5 hbw hH4 hM4 HB4 HRg4 HG4 HB HH HMp HRg Hf4 hen5
      cases hh : hasB rs x.1.1 with
      | true =>
        have HT' := Lib.hid (hitT_has (S := S) (rs := rs) (left := left) (x := x) HSx.out Hl4.out hh)
        clear hh
        go_wp2_with (at_mapUpdate; refine wp_mapUpdateF w5 rfl _ _ _ 101 rfl kInt Tryz.underlying101 hb n1 _ rfl HH5.out hcm x.1.2 (.bool true) rfl rfl x.2.2 ?_; intro w6 hm6 hg6; have HH6 := Lib.hid hm6; have HRg6 := Lib.hid (HRg5.out.kept hg6 (by simpa using hne1) (by simp)); have HM6 := Lib.hid (HM5.out.kept hg6 (by simpa using hne1)); have HB6 := Lib.hid (HB5.out.grown hg6 HB5.out.size (fun k hk => by cases hk; omega)); clear hm6 hg6)
        go_roundw
        case rel =>
          refine ⟨_, _, _, _, _, _, _, _, _, _, _, _, ?_, rfl⟩
          refine ⟨_, cnt4, n1 + 1, HRg6, ?_, by omega, HB6, HM6⟩
          have h := HH6.out
          rw [hitF_set, ← HT'.out] at h
          exact h
        case measure => rw [HRg6.out.left_eq, hms.out]; exact hlt4
      | false =>
        have HT' := Lib.hid (hitT_not (S := S) (rs := rs) (left := left) (x := x) hh)
        clear hh
        go_wp2_with fail
        go_roundw
        case rel =>
          refine ⟨_, cnt4, n1, HRg5, ?_, by omega, HB5, HM5⟩
          show MapF _ _ _ _ _
          rw [HT'.out]
          exact HH5.out
        case measure => rw [HRg5.out.left_eq, hms.out]; exact hlt4
end Go.Proofs.YtkgomgfhfoomhaaGreatDoor
