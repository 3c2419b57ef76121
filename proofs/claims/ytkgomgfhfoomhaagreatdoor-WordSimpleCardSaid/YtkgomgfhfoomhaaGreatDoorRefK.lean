/- rubricatorref10: one, picture, flags, Edge, Next: what they tell is what the program's edges are. The lemma of the region that draws its order is printed by wip/tools/mkrefk.py. -/
import Derived.Test.YtkgomgfhfoomhaaGreatDoorRef6C
import Derived.Test.YtkgomgfhfoomhaaGreatDoorCluP
import Derived.Test.YtkgomgfhfoomhaaGreatDoorCluWalksW
import Derived.Test.YtkgomgfhfoomhaaGreatDoorDagG
import Derived.Deep.DeepCutAuto
namespace Go.Proofs.YtkgomgfhfoomhaaGreatDoor
open Go.RowKit
set_option linter.unusedVariables false
set_option linter.unusedSimpArgs false

/-! ### names and numbers -/
theorem kind_eq {s lit : Sp.Str} {m : Nat} (h : kindNames[m]? = some lit) : (s == lit) = (kindN s == m + 1) := by
  have hm : m < kindNames.length := (List.getElem?_eq_some_iff.1 h).1
  have hl : kindNames[m] = lit := (List.getElem?_eq_some_iff.1 h).2
  have h14 : kindNames.length = 14 := rfl
  have hnd : kindNames.Nodup := by decide
  have hle : kindNames.idxOf s ≤ kindNames.length := List.idxOf_le_length
  by_cases e : s = lit
  · have hi : kindNames.idxOf s = m := by rw [e, ← hl]; exact hnd.idxOf_getElem m hm
    rw [beq_iff_eq.2 e]
    symm
    rw [beq_iff_eq]
    unfold kindN
    omega
  · rw [beq_eq_false_iff_ne.2 e]
    symm
    rw [beq_eq_false_iff_ne]
    intro hk
    unfold kindN at hk
    have hi : kindNames.idxOf s = m := by omega
    have := List.getElem_idxOf (xs := kindNames) (x := s) (by omega)
    apply e
    rw [← this, ← hl]
    simp only [hi]
theorem Bl_to (D : ByteArray) : (⟨D.toList.toArray⟩ : ByteArray) = D := by
  rw [ByteArray.toList_eq]
def oneB (l : List Sp.Str) (s : Sp.Str) : Bool := l.any fun x => s == x
def refMidS (A B : Sp.Str) (pic odd : Bool) : Bool :=
  if A == [67, 82] && B == [76, 70] then false else if oneB [[67, 111, 110, 116, 114, 111, 108], [67, 82], [76, 70]] A || oneB [[67, 111, 110, 116, 114, 111, 108], [67, 82], [76, 70]] B then true else if A == [76] && oneB [[76], [86], [76, 86], [76, 86, 84]] B then false
  else if oneB [[76, 86], [86]] A && oneB [[86], [84]] B then false else if oneB [[76, 86, 84], [84]] A && B == [84] then false else if oneB [[69, 120, 116, 101, 110, 100], [90, 87, 74], [83, 112, 97, 99, 105, 110, 103, 77, 97, 114, 107]] B || A == [80, 114, 101, 112, 101, 110, 100] then false
  else if B == [80, 105, 99, 116, 111, 103, 114, 97, 112, 104, 105, 99] && pic then false else if B == [70, 108, 97, 103] && odd then false else true
def refMidN (a b : Nat) (pic odd : Bool) : Bool :=
  if a == 1 && b == 2 then false else if (a == 3 || (a == 1 || (a == 2 || false))) || (b == 3 || (b == 1 || (b == 2 || false))) then true else if a == 10 && (b == 10 || (b == 11 || (b == 13 || (b == 14 || false)))) then false
  else if (a == 13 || (a == 11 || false)) && (b == 11 || (b == 12 || false)) then false else if (a == 14 || (a == 12 || false)) && b == 12 then false else if (b == 4 || (b == 5 || (b == 6 || false))) || a == 7 then false
  else if b == 8 && pic then false else if b == 9 && odd then false else true
theorem refMid_num (A B : Sp.Str) (pic odd : Bool) : refMidS A B pic odd = refMidN (kindN A) (kindN B) pic odd := by
  unfold refMidS refMidN oneB
  simp only [List.any_cons, List.any_nil]
  simp only [show ∀ s : Sp.Str, (s == [67, 82]) = (kindN s == 1) from fun s => kind_eq (m := 0) rfl, show ∀ s : Sp.Str, (s == [76, 70]) = (kindN s == 2) from fun s => kind_eq (m := 1) rfl, show ∀ s : Sp.Str, (s == [67, 111, 110, 116, 114, 111, 108]) = (kindN s == 3) from fun s => kind_eq (m := 2) rfl, show ∀ s : Sp.Str, (s == [69, 120, 116, 101, 110, 100]) = (kindN s == 4) from fun s => kind_eq (m := 3) rfl, show ∀ s : Sp.Str, (s == [90, 87, 74]) = (kindN s == 5) from fun s => kind_eq (m := 4) rfl, show ∀ s : Sp.Str, (s == [83, 112, 97, 99, 105, 110, 103, 77, 97, 114, 107]) = (kindN s == 6) from fun s => kind_eq (m := 5) rfl, show ∀ s : Sp.Str, (s == [80, 114, 101, 112, 101, 110, 100]) = (kindN s == 7) from fun s => kind_eq (m := 6) rfl, show ∀ s : Sp.Str, (s == [80, 105, 99, 116, 111, 103, 114, 97, 112, 104, 105, 99]) = (kindN s == 8) from fun s => kind_eq (m := 7) rfl, show ∀ s : Sp.Str, (s == [70, 108, 97, 103]) = (kindN s == 9) from fun s => kind_eq (m := 8) rfl, show ∀ s : Sp.Str, (s == [76]) = (kindN s == 10) from fun s => kind_eq (m := 9) rfl, show ∀ s : Sp.Str, (s == [86]) = (kindN s == 11) from fun s => kind_eq (m := 10) rfl, show ∀ s : Sp.Str, (s == [84]) = (kindN s == 12) from fun s => kind_eq (m := 11) rfl, show ∀ s : Sp.Str, (s == [76, 86]) = (kindN s == 13) from fun s => kind_eq (m := 12) rfl, show ∀ s : Sp.Str, (s == [76, 86, 84]) = (kindN s == 14) from fun s => kind_eq (m := 13) rfl]
set_option maxRecDepth 100000 in
theorem refMid_fin : ∀ (a b : Fin 15) (x y : Bool), (a.1 ≠ 9 → y = true) → refMidN a.1 b.1 (a.1 == 5 && !x) (!y) = edgeMid a.1 b.1 x y := by decide +kernel
theorem refMid_edge (a b : Nat) (ha : a ≤ 14) (hb : b ≤ 14) (x y : Bool) (h : a ≠ 9 → y = true) : refMidN a b (a == 5 && !x) (!y) = edgeMid a b x y := refMid_fin ⟨a, by omega⟩ ⟨b, by omega⟩ x y h
/-- The break at a place. -/
def cOf (Φ : Files) (zs : List Int) (i : Int) : Sp.Str := cluOf Φ (zs.getD i.toNat 0)
theorem ofK_cOf (Φ : Files) (zs : List Int) (i : Int) (h : 0 ≤ i) : ofK Φ zs i = kindN (cOf Φ zs i) := by
  unfold ofK cOf
  rw [if_neg (by omega)]
theorem ofK_neg (Φ : Files) (zs : List Int) (i : Int) (h : i < 0) : ofK Φ zs i = 0 := by
  unfold ofK
  rw [if_pos h]
def picB (Φ : Files) (zs : List Int) (p : Int) : Bool := ofK Φ zs (p - 1) == 5 && ofK Φ zs (skipsAt (ofK Φ zs) (p - 2)) == 8
def oddB (Φ : Files) (zs : List Int) (p : Int) : Bool := flagsAt (ofK Φ zs) (p - 1) % 2 == 1
theorem edge_ref {Φ : Files} {zs : List Int} {p : Int} (h1 : 1 ≤ p) (h2 : p < zs.length) : edgeOf Φ zs p = refMidS (cOf Φ zs (p - 1)) (cOf Φ zs p) (picB Φ zs p) (oddB Φ zs p) := by
  unfold edgeOf
  rw [if_neg (by omega), if_neg (by omega), refMid_num, ← ofK_cOf Φ zs (p - 1) (by omega), ← ofK_cOf Φ zs p (by omega)]
  rw [← refMid_edge _ _ (ofK_le _ _ _) (ofK_le _ _ _) _ _ (fun h => by rw [flagsAt_end h]; rfl)]
  congr 1
  · unfold picB
    congr 1
    cases h : (ofK Φ zs (skipsAt (ofK Φ zs) (p - 2)) == 8) <;> simp [bne, h]
  · unfold oddB
    have : flagsAt (ofK Φ zs) (p - 1) % 2 = 0 ∨ flagsAt (ofK Φ zs) (p - 1) % 2 = 1 := by omega
    rcases this with h | h <;> rw [h] <;> rfl
/-! ### the walks -/
structure KSt (w0 W : World) (B b : Nat) (Φ : Files) (zs : List Int) (v : Value) : Prop where
  bel : Below w0.heap.size w0 W
  ref : RefAt W B b Φ
  list : ListAt W v zs
theorem KSt.next {w0 W W' : World} {B b : Nat} {Φ : Files} {zs : List Int} {v : Value} (h : KSt w0 W B b Φ zs v) (hb : Below W.heap.size W W') : KSt w0 W' B b Φ zs v := ⟨h.bel.trans (hb.mono h.bel.size), h.ref.below hb, h.list.below hb⟩
theorem ListAt.cellN {w : World} {A : Option Addr} {n c : Nat} {zs : List Int} (h : ListAt w (.slice A n c) zs) (i : Nat) (hi : i < zs.length) : ∃ ad, A = some ad ∧ w.cell? (ad.add i) = some (.int .i64 (zs.getD i 0)) := by
  obtain ⟨A', c', e, hn, hz⟩ := h
  injection e with e1 e2 e3
  subst e1
  obtain ⟨ad, h4, h5⟩ := hz (by omega)
  exact ⟨ad, h4, h5 i _ (intz_get zs i hi)⟩
set_option maxRecDepth 100000 in
theorem one10_walk (w : World) (S : ByteArray) (g c : Nat) (l : List Sp.Str) (hL : l.length ≤ 1000) (hc : ∀ (j : Nat) x, l[j]? = some x → w.cell? ⟨g, j, none⟩ = some (.string ⟨x.toArray⟩)) :
    Calls Tryz.prog 68 #[.string S, .slice (some ⟨g, 0, none⟩) l.length c] w fun e w' => e = .returned (.bool (oneB l S.toList)) ∧ w = w' := by
  have HC := Lib.hid hc
  clear hc
  go_enter Tryz.func68, Tryz.ntmps68
  go_wp2_with fail
  go_loopw [9] (fun i wr => ∃ k : Nat, k ≤ l.length ∧ i = .int .i64 k ∧ Hid (oneB l S.toList = oneB (l.drop k) S.toList) ∧ w = wr) (fun i _ => l.length - (intOf i).toNat)
  case atStart => exact ⟨0, by omega, rfl, rfl, rfl⟩
  case round =>
    obtain ⟨k, hk, rfl, HI, rfl⟩ := hrel
    by_cases hlt : k < l.length
    · have c0 := HC.out k l[k] (List.getElem?_eq_getElem hlt)
      have HI2 := Lib.hid (show oneB l S.toList = ((S.toList == l[k]) || oneB (l.drop (k + 1)) S.toList) by rw [HI.out, List.drop_eq_getElem_cons hlt]; rfl)
      generalize l[k] = x at *
      obtain ⟨X, hX⟩ : ∃ X : ByteArray, X = ⟨x.toArray⟩ := ⟨_, rfl⟩
      have hXl : X.toList = x := by rw [hX]; exact toBl _
      rw [← hX] at c0
      rw [← hXl] at HI2
      clear hX hXl HI
      cases k1 : (S.toList == X.toList) with
      | true =>
        have Hf := Lib.hid (show oneB l S.toList = true by rw [HI2.out, k1]; rfl)
        clear HI2
        go_wp2_with fail
        go_ret
        exact ⟨by rw [Hf.out]; rfl, rfl⟩
      | false =>
        have Hf := Lib.hid (show oneB l S.toList = oneB (l.drop (k + 1)) S.toList by rw [HI2.out, k1]; rfl)
        clear HI2
        go_wp2_with fail
        go_roundw
        case rel => exact ⟨k + 1, by omega, by go_num, Hf, by first | rfl | trivial⟩
        case measure => first | (simp [intOf]; done) | (simp [intOf]; omega)
    · have Hf := Lib.hid (show oneB l S.toList = false by rw [HI.out, List.drop_of_length_le (by omega)]; rfl)
      have hkl : k = l.length := by omega
      subst hkl
      clear HI
      go_wp2_with fail
      go_ret
      exact ⟨by rw [Hf.out]; rfl, rfl⟩
theorem one10_2 (W : World) (S : ByteArray) (a b : Sp.Str) : Calls Tryz.prog 68 #[.string S, .slice (some ⟨W.heap.size, 0, none⟩) 2 2] (W.alloc (.cells #[.string ⟨a.toArray⟩, .string ⟨b.toArray⟩] 9)) fun e w' => e = .returned (.bool (oneB [a, b] S.toList)) ∧ Below W.heap.size W w' := by
  refine (one10_walk _ S W.heap.size 2 [a, b] (by simp) ?_).mono ?_
  · intro j x hj
    rw [(cells_of_row (row_new W _)).1 j]
    match j, hj with
    | 0, hj => injection hj with hj; subst hj; rfl
    | 1, hj => injection hj with hj; subst hj; rfl
  · rintro e w' ⟨h1, rfl⟩
    exact ⟨h1, alloc_below _ _⟩
theorem one10_3 (W : World) (S : ByteArray) (a b c : Sp.Str) : Calls Tryz.prog 68 #[.string S, .slice (some ⟨W.heap.size, 0, none⟩) 3 3] (W.alloc (.cells #[.string ⟨a.toArray⟩, .string ⟨b.toArray⟩, .string ⟨c.toArray⟩] 9)) fun e w' => e = .returned (.bool (oneB [a, b, c] S.toList)) ∧ Below W.heap.size W w' := by
  refine (one10_walk _ S W.heap.size 3 [a, b, c] (by simp) ?_).mono ?_
  · intro j x hj
    rw [(cells_of_row (row_new W _)).1 j]
    match j, hj with
    | 0, hj => injection hj with hj; subst hj; rfl
    | 1, hj => injection hj with hj; subst hj; rfl
    | 2, hj => injection hj with hj; subst hj; rfl
  · rintro e w' ⟨h1, rfl⟩
    exact ⟨h1, alloc_below _ _⟩
theorem one10_4 (W : World) (S : ByteArray) (a b c d : Sp.Str) : Calls Tryz.prog 68 #[.string S, .slice (some ⟨W.heap.size, 0, none⟩) 4 4] (W.alloc (.cells #[.string ⟨a.toArray⟩, .string ⟨b.toArray⟩, .string ⟨c.toArray⟩, .string ⟨d.toArray⟩] 9)) fun e w' => e = .returned (.bool (oneB [a, b, c, d] S.toList)) ∧ Below W.heap.size W w' := by
  refine (one10_walk _ S W.heap.size 4 [a, b, c, d] (by simp) ?_).mono ?_
  · intro j x hj
    rw [(cells_of_row (row_new W _)).1 j]
    match j, hj with
    | 0, hj => injection hj with hj; subst hj; rfl
    | 1, hj => injection hj with hj; subst hj; rfl
    | 2, hj => injection hj with hj; subst hj; rfl
    | 3, hj => injection hj with hj; subst hj; rfl
  · rintro e w' ⟨h1, rfl⟩
    exact ⟨h1, alloc_below _ _⟩
set_option maxRecDepth 100000 in
set_option maxHeartbeats 1600000 in
theorem picture_walk {w : World} {B b : Nat} {Φ : Files} {zs : List Int} {v : Value} (hr : RefAt w B b Φ) (hok : FilesOk Φ) (hl : ListAt w v zs) (p : Int) (h1 : 1 ≤ p) (h2 : p < zs.length) :
    Calls Tryz.prog 69 #[.pointer (some ⟨b, 0, none⟩), v, .int .i64 p] w fun e w' => e = .returned (.bool (picB Φ zs p)) ∧ Below w.heap.size w w' := by
  have HS := Lib.hid (show KSt w w B b Φ zs v from ⟨Below.refl _ _, hr, hl⟩)
  obtain ⟨A0, c0, rfl, hn, hz⟩ := hl
  obtain ⟨i, rfl⟩ : ∃ i : Nat, p = (i : Int) + 1 := ⟨(p - 1).toNat, by omega⟩
  have hi : i < zs.length := by omega
  obtain ⟨ad, rfl, _⟩ := HS.out.list.cellN i hi
  have a1 : IntKind.i64.wrap ((i : Int) + 1 - 1) = i := by rw [IntKind.wrap_i64]; omega
  have a2 : IntKind.i64.wrap ((i : Int) + 1 - 2) = (i : Int) - 1 := by rw [IntKind.wrap_i64]; omega
  have a3 : wrap64 ((i : Int) + 1 - 1) = i := by unfold wrap64; omega
  have a4 : wrap64 ((i : Int) + 1 - 2) = (i : Int) - 1 := by unfold wrap64; omega
  have He := Lib.hid (show picB Φ zs ((i : Int) + 1) = ((cOf Φ zs i == [90, 87, 74]) && ofK Φ zs (skipsAt (ofK Φ zs) ((i : Int) - 1)) == 8) by
    unfold picB
    rw [show (i : Int) + 1 - 1 = i by omega, show (i : Int) + 1 - 2 = (i : Int) - 1 by omega, ofK_cOf Φ zs i (by omega), kind_eq (m := 4) rfl])
  obtain ⟨ad', e, k0⟩ := HS.out.list.cellN i hi
  cases e
  have Hc := Lib.hid (show cluOf Φ (zs.getD i 0) = cOf Φ zs i from rfl)
  generalize zs.getD i 0 = z at *
  clear hr hz
  go_enter Tryz.func69, Tryz.ntmps69
  go_wp2_with fail
  refine (cluster_ref HS.out.ref hok z).mono ?_
  rintro e w_ ⟨rfl, hb_⟩
  replace HS := Lib.hid (HS.out.next hb_)
  clear hb_ k0
  rw [Hc.out]
  obtain ⟨C, hC⟩ : ∃ S : ByteArray, S = ⟨(cOf Φ zs i).toArray⟩ := ⟨_, rfl⟩
  have HC := Lib.hid (show C.toList = cOf Φ zs i by rw [hC]; exact toBl _)
  rw [← hC]
  clear hC
  cases q1 : (C.toList == [90, 87, 74]) with
  | false =>
    have Hf := Lib.hid (show picB Φ zs ((i : Int) + 1) = false by rw [He.out, ← HC.out, q1]; rfl)
    have q2 : (C.toList != [90, 87, 74]) = true := by unfold bne; rw [q1]; rfl
    clear He
    go_wp2_with fail
    go_ret
    exact ⟨by rw [Hf.out]; first | done | rfl, HS.out.bel⟩
  | true =>
    have Hf := Lib.hid (show picB Φ zs ((i : Int) + 1) = (ofK Φ zs (skipsAt (ofK Φ zs) ((i : Int) - 1)) == 8) by rw [He.out, ← HC.out, q1]; rfl)
    have q2 : (C.toList != [90, 87, 74]) = false := by unfold bne; rw [q1]; rfl
    clear He HC Hc
    go_wp2_with fail
    go_loopw [7] (fun x wr => ∃ j : Int, -1 ≤ j ∧ j < zs.length ∧ x = .int .i64 j ∧ Hid (skipsAt (ofK Φ zs) ((i : Int) - 1) = skipsAt (ofK Φ zs) j) ∧ Hid (KSt w wr B b Φ zs (.slice (some ad) zs.length c0))) (fun x _ => (intOf x + 1).toNat)
    case atStart => exact ⟨(i : Int) - 1, by omega, by omega, rfl, rfl, HS⟩
    case round =>
      obtain ⟨j, hj1, hj2, rfl, HI, HSr⟩ := hrel
      clear HS
      have HS := HSr
      clear HSr
      by_cases h0 : 0 ≤ j
      · have d0 : decide (j ≥ 0) = true := decide_eq_true h0
        obtain ⟨q, rfl⟩ := Int.eq_ofNat_of_zero_le h0
        obtain ⟨ad', e, k0⟩ := HS.out.list.cellN q (by omega)
        cases e
        have Hc := Lib.hid (show cluOf Φ (zs.getD q 0) = cOf Φ zs q from rfl)
        generalize zs.getD q 0 = y at *
        have a5 : IntKind.i64.wrap ((q : Int) - 1) = (q : Int) - 1 := by rw [IntKind.wrap_i64]; omega
        have a6 : wrap64 ((q : Int) - 1) = (q : Int) - 1 := by unfold wrap64; omega
        have Hk := Lib.hid (show ofK Φ zs q = kindN (cOf Φ zs q) from ofK_cOf Φ zs q h0)
        go_wp2_with fail
        refine (cluster_ref HS.out.ref hok y).mono ?_
        rintro e w_ ⟨rfl, hb_⟩
        rw [Hc.out]
        replace HS := Lib.hid (HS.out.next hb_)
        have k1 := cell_later hb_ k0
        clear hb_ k0
        obtain ⟨D, hD⟩ : ∃ S : ByteArray, S = ⟨(cOf Φ zs q).toArray⟩ := ⟨_, rfl⟩
        have HD := Lib.hid (show D.toList = cOf Φ zs q by rw [hD]; exact toBl _)
        rw [← hD]
        clear hD
        cases q3 : (D.toList == [69, 120, 116, 101, 110, 100]) with
        | true =>
          have HI2 := Lib.hid (show skipsAt (ofK Φ zs) ((i : Int) - 1) = skipsAt (ofK Φ zs) ((q : Int) - 1) by
            rw [HI.out]
            refine skipsAt_more ?_ h0
            rw [Hk.out, ← HD.out]
            have := q3
            rw [kind_eq (m := 3) rfl] at this
            exact beq_iff_eq.1 this)
          clear HI HD Hk Hc k1
          go_wp2_with fail
          go_roundw
          case rel => exact ⟨(q : Int) - 1, by omega, by omega, rfl, HI2, HS⟩
          case measure => first | (simp [intOf]; done) | (simp [intOf]; omega)
        | false =>
          have Hfin := Lib.hid (show picB Φ zs ((i : Int) + 1) = (D.toList == [80, 105, 99, 116, 111, 103, 114, 97, 112, 104, 105, 99]) by
            rw [Hf.out, HI.out, skipsAt_end, Hk.out, ← HD.out, kind_eq (m := 7) rfl]
            rw [Hk.out, ← HD.out]
            intro h
            rw [kind_eq (m := 3) rfl, h] at q3
            cases q3)
          clear HI Hk Hf
          go_wp2_with fail
          refine (cluster_ref HS.out.ref hok y).mono ?_
          rintro e w_ ⟨rfl, hb_⟩
          rw [Hc.out, ← HD.out, show (⟨D.toList.toArray⟩ : ByteArray) = D from Bl_to D]
          replace HS := Lib.hid (HS.out.next hb_)
          clear hb_ k1
          go_wp2_with fail
          go_ret
          exact ⟨by rw [Hfin.out]; first | done | rfl, HS.out.bel⟩
      · have d0 : decide (j ≥ 0) = false := decide_eq_false h0
        have Hfin := Lib.hid (show picB Φ zs ((i : Int) + 1) = false by
          rw [Hf.out, HI.out, skipsAt_end (by rw [ofK_neg _ _ _ (by omega)]; decide), ofK_neg _ _ _ (by omega)]
          rfl)
        clear HI Hf
        go_wp2_with fail
        go_ret
        exact ⟨by rw [Hfin.out]; first | done | rfl, HS.out.bel⟩
set_option maxRecDepth 100000 in
set_option maxHeartbeats 1600000 in
theorem flags10_walk {w : World} {B b : Nat} {Φ : Files} {zs : List Int} {v : Value} (hr : RefAt w B b Φ) (hok : FilesOk Φ) (hl : ListAt w v zs) (p : Int) (h1 : 1 ≤ p) (h2 : p < zs.length) :
    Calls Tryz.prog 70 #[.pointer (some ⟨b, 0, none⟩), v, .int .i64 p] w fun e w' => e = .returned (.int .i64 (flagsAt (ofK Φ zs) (p - 1) : Nat)) ∧ Below w.heap.size w w' := by
  have HS := Lib.hid (show KSt w w B b Φ zs v from ⟨Below.refl _ _, hr, hl⟩)
  obtain ⟨A0, c0, rfl, hn, hz⟩ := hl
  obtain ⟨ad, rfl, _⟩ := HS.out.list.cellN 0 (by omega)
  clear hr hz
  go_enter Tryz.func70, Tryz.ntmps70
  go_wp2_with fail
  go_loopw [7] (fun x wr => ∃ k : Nat, (k : Int) ≤ p ∧ x = .int .i64 k ∧ Hid (flagsAt (ofK Φ zs) (p - 1) = k + flagsAt (ofK Φ zs) (p - 1 - k)) ∧ Hid (KSt w wr B b Φ zs (.slice (some ad) zs.length c0))) (fun x _ => (p + 1 - intOf x).toNat)
  case atStart => exact ⟨0, by omega, rfl, by show _ = _; rw [Nat.zero_add]; congr 1; omega, HS⟩
  case round =>
    obtain ⟨k, hk, rfl, HI, HSr⟩ := hrel
    clear HS
    have HS := HSr
    clear HSr
    have a1 : IntKind.i64.wrap (p - (k : Int)) = p - (k : Int) := by rw [IntKind.wrap_i64]; omega
    have a2 : wrap64 (p - (k : Int)) = p - (k : Int) := by unfold wrap64; omega
    by_cases h0 : (k : Int) < p
    · have d0 : decide (p - (k : Int) > 0) = true := decide_eq_true (by omega)
      obtain ⟨q, hq⟩ : ∃ q : Nat, (q : Int) = p - k - 1 := ⟨(p - k - 1).toNat, by omega⟩
      have a3 : IntKind.i64.wrap (p - (k : Int) - 1) = (q : Int) := by rw [IntKind.wrap_i64]; omega
      have a4 : wrap64 (p - (k : Int) - 1) = (q : Int) := by unfold wrap64; omega
      have hqn : q < zs.length := by omega
      obtain ⟨ad', e, k0⟩ := HS.out.list.cellN q hqn
      cases e
      have Hc := Lib.hid (show cluOf Φ (zs.getD q 0) = cOf Φ zs q from rfl)
      generalize zs.getD q 0 = y at *
      have Hk := Lib.hid (show ofK Φ zs q = kindN (cOf Φ zs q) from ofK_cOf Φ zs q (by omega))
      have Hq := Lib.hid (show p - 1 - (k : Int) = q by omega)
      clear hq
      go_wp2_with fail
      refine (cluster_ref HS.out.ref hok y).mono ?_
      rintro e w_ ⟨rfl, hb_⟩
      rw [Hc.out]
      replace HS := Lib.hid (HS.out.next hb_)
      clear hb_ k0
      obtain ⟨D, hD⟩ : ∃ S : ByteArray, S = ⟨(cOf Φ zs q).toArray⟩ := ⟨_, rfl⟩
      have HD := Lib.hid (show D.toList = cOf Φ zs q by rw [hD]; exact toBl _)
      rw [← hD]
      clear hD
      cases q3 : (D.toList == [70, 108, 97, 103]) with
      | true =>
        have HI2 := Lib.hid (show flagsAt (ofK Φ zs) (p - 1) = (k + 1 : Nat) + flagsAt (ofK Φ zs) (p - 1 - ((k + 1 : Nat) : Int)) by
          have h9 : ofK Φ zs q = 9 := by
            rw [Hk.out, ← HD.out]
            have := q3
            rw [kind_eq (m := 8) rfl] at this
            exact beq_iff_eq.1 this
          rw [HI.out, Hq.out, flagsAt_more h9 (by omega), show p - 1 - ((k + 1 : Nat) : Int) = (q : Int) - 1 by have := Hq.out; omega]
          omega)
        have b1 : IntKind.i64.wrap ((k : Int) + 1) = (k : Int) + 1 := by rw [IntKind.wrap_i64]; omega
        clear HI HD Hk Hc Hq
        go_wp2_with fail
        go_roundw
        case rel => exact ⟨k + 1, by omega, by go_num, HI2, HS⟩
        case measure => first | (simp [intOf]; done) | (simp [intOf]; omega)
      | false =>
        have Hfin := Lib.hid (show flagsAt (ofK Φ zs) (p - 1) = k by
          rw [HI.out, Hq.out, flagsAt_end, Nat.add_zero]
          rw [Hk.out, ← HD.out]
          intro h
          rw [kind_eq (m := 8) rfl, h] at q3
          cases q3)
        clear HI Hk Hq Hc HD
        go_wp2_with fail
        go_ret
        exact ⟨by rw [Hfin.out]; first | done | rfl, HS.out.bel⟩
    · have d0 : decide (p - (k : Int) > 0) = false := decide_eq_false (by omega)
      have Hfin := Lib.hid (show flagsAt (ofK Φ zs) (p - 1) = k by
        rw [HI.out, flagsAt_end (by rw [ofK_neg _ _ _ (by omega)]; decide), Nat.add_zero])
      clear HI
      go_wp2_with fail
      go_ret
      exact ⟨by rw [Hfin.out]; first | done | rfl, HS.out.bel⟩

abbrev dsKE : List (Option Tmp) := [some 30, some 31, some 32, some 33, some 34, some 35, some 36, some 37, some 38, some 39, some 40, some 41, some 42, some 7, some 8]
abbrev needsKE : List (Nat × Nat) := [(3, 2), (4, 1), (4, 3), (5, 4), (6, 0), (6, 5), (10, 8), (10, 9), (11, 10), (12, 7), (12, 11), (13, 6), (14, 12)]
abbrev opsKE : List Op := [.move (.tmp 0), .move (.tmp 1), .move (.tmp 2), .binOp .sub 3 (.tmp 32) (.const (.int .i64 1)) 3, .indexAddr 22 (.tmp 31) (.tmp 33), .load 3 (.tmp 34), .call { callee := .value (.func 67), args := #[.tmp 30, .tmp 35], argTypes := #[25, 3] }, .move (.tmp 0), .move (.tmp 1), .move (.tmp 2), .indexAddr 22 (.tmp 38) (.tmp 39), .load 3 (.tmp 40), .call { callee := .value (.func 67), args := #[.tmp 37, .tmp 41], argTypes := #[25, 3] }, .assign (.tmp 36), .assign (.tmp 42)]
abbrev gsKE : List (Option (Nat × Bool)) := [none, none, none, none, none, none, none, none, none, none, none, none, none, none, none]
def relKE (B b i jn : Nat) (Φ : Files) (zs : List Int) (ad : Addr) (c : Nat) (x y : Int) : Nat → Value → World → Prop := fun kx vx W => match kx with
  | 0 => vx = .pointer (some ⟨b, 0, none⟩)
  | 1 => vx = .slice (some ad) zs.length c
  | 2 => vx = .int .i64 (jn : Nat)
  | 3 => vx = .int .i64 (i : Nat)
  | 4 => vx = .pointer (some (ad.add i))
  | 5 => vx = .int .i64 x
  | 6 => vx = .string ⟨(cluOf Φ x).toArray⟩
  | 7 => vx = .pointer (some ⟨b, 0, none⟩)
  | 8 => vx = .slice (some ad) zs.length c
  | 9 => vx = .int .i64 (jn : Nat)
  | 10 => vx = .pointer (some (ad.add jn))
  | 11 => vx = .int .i64 y
  | 12 => vx = .string ⟨(cluOf Φ y).toArray⟩
  | 13 => vx = .string ⟨(cluOf Φ x).toArray⟩
  | 14 => vx = .string ⟨(cluOf Φ y).toArray⟩
  | _ => True
set_option maxHeartbeats 1600000 in
theorem regionKE (a : Act) (ops : Array Oper) (rid : Nat) (Q : Exit → Act → World → Prop) (w : World) (B b i jn : Nat) (Φ : Files) (zs : List Int) (ad : Addr) (c : Nat) (x y : Int) (hops : ops.toList.map (·.op) = opsKE) (hgs : ops.toList.map (·.guard) = gsKE) (hok : dagOkG ops dsKE = true) (hnd : needsOk2 ops needsKE = true) (hsz : 43 ≤ a.tmps.size)
    (h0 : a.tmps.getD 0 undef = .pointer (some ⟨b, 0, none⟩))
    (h1 : a.tmps.getD 1 undef = .slice (some ad) zs.length c)
    (h2 : a.tmps.getD 2 undef = .int .i64 (jn : Nat))
    (hr : RefAt w B b Φ) (hfo : FilesOk Φ) (k0 : w.cell? (ad.add i) = some (.int .i64 x)) (k1 : w.cell? (ad.add jn) = some (.int .i64 y)) (hi : i < zs.length) (hi1 : jn < zs.length) (hn : zs.length ≤ 9223372036854775807) (a1 : IntKind.i64.wrap ((jn : Int) - 1) = i) (a2 : wrap64 ((jn : Int) - 1) = i)
    (hend : ∀ vs W, (fun W => Below w.heap.size w W) W → (∀ j, j < 15 → relKE B b i jn Φ zs ad c x y j (vs j) W) → Q .normal { a with tmps := frS (fun j => decide (j < 15)) vs 0 dsKE a.tmps } W) :
    (Code.region rid ops true).wp Tryz.prog Q a w := by
  have hlen : ops.size = 15 := by have := congrArg List.length hops; simpa using this
  have hop : ∀ (i : Nat) (o : Oper), ops[i]? = some o → ∀ x, opsKE[i]? = some x → o.op = x := by
    intro i o ho x hx
    rw [← hops, List.getElem?_map, Array.getElem?_toList, ho] at hx
    simpa using hx
  have hgu : ∀ (i : Nat) (o : Oper), ops[i]? = some o → ∀ x, gsKE[i]? = some x → o.guard = x := by
    intro i o ho x hx
    rw [← hgs, List.getElem?_map, Array.getElem?_toList, ho] at hx
    simpa using hx
  rw [← hlen] at hend
  refine wp_region_rel (by kernel_rfl) dsKE hok (fun t ht => Nat.lt_of_lt_of_le (of_decide_eq_true (List.all_eq_true.1 (show dsKE.all (fun d => match d with | some t => decide (t < 43) | none => true) = true from rfl) _ ht)) hsz) (relKE B b i jn Φ zs ad c x y) (fun W => Below w.heap.size w W) ?_ ?_ ?_ hend
  · intro i v W W' h hb
    unfold relKE at h ⊢
    split at h
    · exact h
    · exact h
    · exact h
    · exact h
    · exact h
    · exact h
    · exact h
    · exact h
    · exact h
    · exact h
    · exact h
    · exact h
    · exact h
    · exact h
    · exact h
    · exact h
  · exact ⟨rfl, rfl, rfl, Nat.le_refl _, fun _ _ => rfl⟩
  intro kx o ho ρ W hb hρ hold hold2 hcon hfun _
  have hkx : kx < 15 := by rw [← hlen]; exact (Array.getElem?_eq_some_iff.1 ho).1
  have e0 : ρ (.tmp 0) = .pointer (some ⟨b, 0, none⟩) := (hold 0 (by decide)).trans h0
  have e1 : ρ (.tmp 1) = .slice (some ad) zs.length c := (hold 1 (by decide)).trans h1
  have e2 : ρ (.tmp 2) = .int .i64 (jn : Nat) := (hold 2 (by decide)).trans h2
  match kx, hkx with
  | 0, _ =>
    have hg := hgu 0 o ho _ rfl
    have ho' := hop 0 o ho _ rfl
    simp only [hg]
    exact .inl ⟨_, rfl, .inl (by unfold execOp; rw [ho']; go_simp)⟩
  | 1, _ =>
    have hg := hgu 1 o ho _ rfl
    have ho' := hop 1 o ho _ rfl
    simp only [hg]
    exact .inl ⟨_, rfl, .inl (by unfold execOp; rw [ho']; go_simp)⟩
  | 2, _ =>
    have hg := hgu 2 o ho _ rfl
    have ho' := hop 2 o ho _ rfl
    simp only [hg]
    exact .inl ⟨_, rfl, .inl (by unfold execOp; rw [ho']; go_simp)⟩
  | 3, _ =>
    have hg := hgu 3 o ho _ rfl
    have ho' := hop 3 o ho _ rfl
    simp only [hg]
    have q32 : ρ (.tmp 32) = .int .i64 (jn : Nat) := hρ 2 (needs2_get hnd 3 2 (by decide)) 32 rfl
    exact .inl ⟨_, rfl, .inl (by unfold execOp; rw [ho']; go_simp)⟩
  | 4, _ =>
    have hg := hgu 4 o ho _ rfl
    have ho' := hop 4 o ho _ rfl
    simp only [hg]
    have q31 : ρ (.tmp 31) = .slice (some ad) zs.length c := hρ 1 (needs2_get hnd 4 1 (by decide)) 31 rfl
    have q33 : ρ (.tmp 33) = .int .i64 (i : Nat) := hρ 3 (needs2_get hnd 4 3 (by decide)) 33 rfl
    exact .inl ⟨_, rfl, .inl (by unfold execOp; rw [ho']; go_simp)⟩
  | 5, _ =>
    have hg := hgu 5 o ho _ rfl
    have ho' := hop 5 o ho _ rfl
    simp only [hg]
    have q34 : ρ (.tmp 34) = .pointer (some (ad.add i)) := hρ 4 (needs2_get hnd 5 4 (by decide)) 34 rfl
    have c0 := cell_later hb k0
    exact .inl ⟨_, rfl, .inl (by unfold execOp; rw [ho']; go_simp)⟩
  | 6, _ =>
    have hg := hgu 6 o ho _ rfl
    have ho' := hop 6 o ho _ rfl
    simp only [hg]
    have q30 : ρ (.tmp 30) = .pointer (some ⟨b, 0, none⟩) := hρ 0 (needs2_get hnd 6 0 (by decide)) 30 rfl
    have q35 : ρ (.tmp 35) = .int .i64 x := hρ 5 (needs2_get hnd 6 5 (by decide)) 35 rfl
    refine .inr (.inr ⟨67, #[.pointer (some ⟨b, 0, none⟩), .int .i64 x], ?_, ?_⟩)
    · unfold execOp
      rw [ho']
      simp [go_sem, hfun, q30, q35, resolve, Act.eval]
    · refine (cluster_ref (hr.below hb) hfo x).mono ?_
      rintro e W' ⟨rfl, hb'⟩
      exact ⟨_, rfl, hb.trans (hb'.mono hb.size), hb', rfl⟩
  | 7, _ =>
    have hg := hgu 7 o ho _ rfl
    have ho' := hop 7 o ho _ rfl
    simp only [hg]
    exact .inl ⟨_, rfl, .inl (by unfold execOp; rw [ho']; go_simp)⟩
  | 8, _ =>
    have hg := hgu 8 o ho _ rfl
    have ho' := hop 8 o ho _ rfl
    simp only [hg]
    exact .inl ⟨_, rfl, .inl (by unfold execOp; rw [ho']; go_simp)⟩
  | 9, _ =>
    have hg := hgu 9 o ho _ rfl
    have ho' := hop 9 o ho _ rfl
    simp only [hg]
    exact .inl ⟨_, rfl, .inl (by unfold execOp; rw [ho']; go_simp)⟩
  | 10, _ =>
    have hg := hgu 10 o ho _ rfl
    have ho' := hop 10 o ho _ rfl
    simp only [hg]
    have q38 : ρ (.tmp 38) = .slice (some ad) zs.length c := hρ 8 (needs2_get hnd 10 8 (by decide)) 38 rfl
    have q39 : ρ (.tmp 39) = .int .i64 (jn : Nat) := hρ 9 (needs2_get hnd 10 9 (by decide)) 39 rfl
    exact .inl ⟨_, rfl, .inl (by unfold execOp; rw [ho']; go_simp)⟩
  | 11, _ =>
    have hg := hgu 11 o ho _ rfl
    have ho' := hop 11 o ho _ rfl
    simp only [hg]
    have q40 : ρ (.tmp 40) = .pointer (some (ad.add jn)) := hρ 10 (needs2_get hnd 11 10 (by decide)) 40 rfl
    have c0 := cell_later hb k1
    exact .inl ⟨_, rfl, .inl (by unfold execOp; rw [ho']; go_simp)⟩
  | 12, _ =>
    have hg := hgu 12 o ho _ rfl
    have ho' := hop 12 o ho _ rfl
    simp only [hg]
    have q37 : ρ (.tmp 37) = .pointer (some ⟨b, 0, none⟩) := hρ 7 (needs2_get hnd 12 7 (by decide)) 37 rfl
    have q41 : ρ (.tmp 41) = .int .i64 y := hρ 11 (needs2_get hnd 12 11 (by decide)) 41 rfl
    refine .inr (.inr ⟨67, #[.pointer (some ⟨b, 0, none⟩), .int .i64 y], ?_, ?_⟩)
    · unfold execOp
      rw [ho']
      simp [go_sem, hfun, q37, q41, resolve, Act.eval]
    · refine (cluster_ref (hr.below hb) hfo y).mono ?_
      rintro e W' ⟨rfl, hb'⟩
      exact ⟨_, rfl, hb.trans (hb'.mono hb.size), hb', rfl⟩
  | 13, _ =>
    have hg := hgu 13 o ho _ rfl
    have ho' := hop 13 o ho _ rfl
    simp only [hg]
    have q36 : ρ (.tmp 36) = .string ⟨(cluOf Φ x).toArray⟩ := hρ 6 (needs2_get hnd 13 6 (by decide)) 36 rfl
    exact .inl ⟨_, rfl, .inl (by unfold execOp; rw [ho']; go_simp)⟩
  | 14, _ =>
    have hg := hgu 14 o ho _ rfl
    have ho' := hop 14 o ho _ rfl
    simp only [hg]
    have q42 : ρ (.tmp 42) = .string ⟨(cluOf Φ y).toArray⟩ := hρ 12 (needs2_get hnd 14 12 (by decide)) 42 rfl
    exact .inl ⟨_, rfl, .inl (by unfold execOp; rw [ho']; go_simp)⟩
set_option maxRecDepth 100000 in
set_option maxHeartbeats 6400000 in
theorem edge10_walk {w : World} {B b : Nat} {Φ : Files} {zs : List Int} {v : Value} (hr : RefAt w B b Φ) (hok : FilesOk Φ) (hl : ListAt w v zs) (p : Int) (hp : (Lit.int .i64 p).wf = true) :
    Calls Tryz.prog 29 #[.pointer (some ⟨b, 0, none⟩), v, .int .i64 p] w fun e w' => e = .returned (.bool (edgeOf Φ zs p)) ∧ Below w.heap.size w w' := by
  have HS := Lib.hid (show KSt w w B b Φ zs v from ⟨Below.refl _ _, hr, hl⟩)
  obtain ⟨A0, c0, rfl, hn, hz⟩ := hl
  clear hr hz
  go_enter Tryz.func29, Tryz.ntmps29
  by_cases hend : zs.length = 0 ∨ p < 0 ∨ (zs.length : Int) < p
  · have He := Lib.hid (show edgeOf Φ zs p = false by unfold edgeOf; rw [if_pos hend])
    go_wp2_with fail
    all_goals
      first
        | (go_ret; refine ⟨?_, HS.out.bel⟩; rw [He.out]; rfl)
        | (exfalso; (try simp only [beq_eq_false_iff_ne, beq_iff_eq, ne_eq, decide_eq_false_iff_not, decide_eq_true_eq] at *); omega)
  have g1 : ((zs.length : Int) == 0) = false := by rw [beq_eq_false_iff_ne]; omega
  have g2 : decide (p < 0) = false := by simp; omega
  have g3 : decide (p > (zs.length : Int)) = false := by simp; omega
  by_cases hedge : p = 0 ∨ p = zs.length
  · have He := Lib.hid (show edgeOf Φ zs p = true by unfold edgeOf; rw [if_neg hend, if_pos hedge])
    clear hend
    go_wp2_with fail
    all_goals
      first
        | (go_ret; refine ⟨?_, HS.out.bel⟩; rw [He.out]; rfl)
        | (exfalso; (try simp only [beq_eq_false_iff_ne, beq_iff_eq, ne_eq, decide_eq_false_iff_not, decide_eq_true_eq] at *); omega)
  have g4 : (p == 0) = false := by rw [beq_eq_false_iff_ne]; omega
  have g5 : (p == (zs.length : Int)) = false := by rw [beq_eq_false_iff_ne]; omega
  have He := Lib.hid (edge_ref (Φ := Φ) (zs := zs) (p := p) (by omega) (by omega))
  have HP := Lib.hid (fun W (h : KSt w W B b Φ zs (.slice A0 zs.length c0)) => picture_walk h.ref hok h.list p (by omega) (by omega))
  have HF := Lib.hid (fun W (h : KSt w W B b Φ zs (.slice A0 zs.length c0)) => flags10_walk h.ref hok h.list p (by omega) (by omega))
  obtain ⟨j, rfl⟩ := Int.eq_ofNat_of_zero_le (show 0 ≤ p by omega)
  obtain ⟨i, hip⟩ : ∃ i : Nat, j = i + 1 := ⟨j - 1, by omega⟩
  have hi : i < zs.length := by omega
  have hi1 : j < zs.length := by omega
  obtain ⟨ad, rfl, k0⟩ := HS.out.list.cellN i hi
  obtain ⟨ad', e, k1⟩ := HS.out.list.cellN j hi1
  cases e
  have a1 : IntKind.i64.wrap ((j : Int) - 1) = i := by rw [IntKind.wrap_i64]; omega
  have a2 : wrap64 ((j : Int) - 1) = i := by unfold wrap64; omega
  have Hx := Lib.hid (show cOf Φ zs ((j : Int) - 1) = cluOf Φ (zs.getD i 0) by unfold cOf; rw [show ((j : Int) - 1).toNat = i by omega])
  have Hy := Lib.hid (show cOf Φ zs (j : Int) = cluOf Φ (zs.getD j 0) from rfl)
  have Ho := Lib.hid (show oddB Φ zs (j : Int) = (flagsAt (ofK Φ zs) ((j : Int) - 1) % 2 == 1) from rfl)
  clear hend hedge hp hip
  generalize zs.getD i 0 = x at *
  generalize zs.getD j 0 = y at *
  generalize oddB Φ zs (j : Int) = odd at *
  generalize picB Φ zs (j : Int) = pic at *
  generalize flagsAt (ofK Φ zs) ((j : Int) - 1) = nf at *
  go_wp2_with fail
  refine regionKE _ _ _ _ _ B b i j Φ zs ad c0 x y rfl rfl (by kernel_rfl) (by kernel_rfl) (by first | simp | exact Nat.le_refl _ | decide) rfl rfl rfl HS.out.ref hok k0 k1 hi hi1 hn a1 a2 ?_
  intro V W_ hb_ hV
  have hVa : V 13 = .string ⟨(cluOf Φ x).toArray⟩ := hV 13 (by decide)
  have hVb : V 14 = .string ⟨(cluOf Φ y).toArray⟩ := hV 14 (by decide)
  simp [frS, stepS, Exit.then]
  rw [hVa, hVb]
  replace HS := Lib.hid (HS.out.next hb_)
  clear hb_ hV hVa hVb k0 k1
  obtain ⟨A, hA⟩ : ∃ S : ByteArray, S = ⟨(cluOf Φ x).toArray⟩ := ⟨_, rfl⟩
  obtain ⟨C, hC⟩ : ∃ S : ByteArray, S = ⟨(cluOf Φ y).toArray⟩ := ⟨_, rfl⟩
  have HA := Lib.hid (show A.toList = cluOf Φ x by rw [hA]; exact toBl _)
  have HC := Lib.hid (show C.toList = cluOf Φ y by rw [hC]; exact toBl _)
  rw [← hA, ← hC]
  rw [Hx.out, Hy.out, ← HA.out, ← HC.out] at He
  clear hA hC HA HC Hx Hy g1 g2 g3 g4 g5
  go_upto_region 6 with fail
  go_cut [43] (fun c wx => c = .bool (A.toList == [67, 82] && C.toList == [76, 70]) ∧ KSt w wx B b Φ zs (.slice (some ad) zs.length c0))
  case first =>
    cases q1 : (A.toList == [67, 82])
    · skip
      go_wp2_with fail
      go_meet
      case rel => exact ⟨by rw [q1]; rfl, HS.out⟩
    · cases q2 : (C.toList == [76, 70])
      · skip
        go_wp2_with fail
        go_meet
        case rel => exact ⟨by rw [q1, q2]; rfl, HS.out⟩
      · skip
        go_wp2_with fail
        go_meet
        case rel => exact ⟨by rw [q1, q2]; rfl, HS.out⟩
  case rest =>
  obtain ⟨rfl, hs_⟩ := hcut
  replace HS := Lib.hid hs_
  clear hs_
  obtain ⟨x, K1⟩ : ∃ x, Hid (x = (A.toList == [67, 82] && C.toList == [76, 70])) := ⟨_, rfl⟩
  rw [← K1.out]
  cases x; rotate_left
  · skip
    go_wp2_with fail
    go_ret
    exact ⟨by rw [He.out]; unfold refMidS; rw [← K1.out]; rfl, HS.out.bel⟩
  go_upto_region 8 with fail
  go_cut [50] (fun c wx => c = .bool (oneB [[67, 111, 110, 116, 114, 111, 108], [67, 82], [76, 70]] A.toList || oneB [[67, 111, 110, 116, 114, 111, 108], [67, 82], [76, 70]] C.toList) ∧ KSt w wx B b Φ zs (.slice (some ad) zs.length c0))
  case first =>
    go_wp2_with fail
    refine (one10_3 _ A _ _ _).mono ?_
    rintro e w_ ⟨rfl, hb_⟩
    replace HS := Lib.hid (HS.out.next hb_)
    clear hb_
    cases q1 : oneB [[67, 111, 110, 116, 114, 111, 108], [67, 82], [76, 70]] A.toList
    · skip
      go_wp2_with fail
      refine (one10_3 _ C _ _ _).mono ?_
      rintro e w_ ⟨rfl, hb_⟩
      replace HS := Lib.hid (HS.out.next hb_)
      clear hb_
      go_wp2_with fail
      go_meet
      case rel => exact ⟨by rw [q1, Bool.false_or], HS.out⟩
    · skip
      go_wp2_with fail
      go_meet
      case rel => exact ⟨by rw [q1]; rfl, HS.out⟩
  case rest =>
  obtain ⟨rfl, hs_⟩ := hcut
  replace HS := Lib.hid hs_
  clear hs_
  obtain ⟨x, K2⟩ : ∃ x, Hid (x = (oneB [[67, 111, 110, 116, 114, 111, 108], [67, 82], [76, 70]] A.toList || oneB [[67, 111, 110, 116, 114, 111, 108], [67, 82], [76, 70]] C.toList)) := ⟨_, rfl⟩
  rw [← K2.out]
  cases x; rotate_left
  · skip
    go_wp2_with fail
    go_ret
    exact ⟨by rw [He.out]; unfold refMidS; rw [← K1.out, ← K2.out]; rfl, HS.out.bel⟩
  go_upto_region 10 with fail
  go_cut [59] (fun c wx => c = .bool (A.toList == [76] && oneB [[76], [86], [76, 86], [76, 86, 84]] C.toList) ∧ KSt w wx B b Φ zs (.slice (some ad) zs.length c0))
  case first =>
    cases q1 : (A.toList == [76])
    · skip
      go_wp2_with fail
      go_meet
      case rel => exact ⟨by rw [q1]; rfl, HS.out⟩
    · skip
      go_wp2_with fail
      refine (one10_4 _ C _ _ _ _).mono ?_
      rintro e w_ ⟨rfl, hb_⟩
      replace HS := Lib.hid (HS.out.next hb_)
      clear hb_
      go_wp2_with fail
      go_meet
      case rel => exact ⟨by rw [q1, Bool.true_and], HS.out⟩
  case rest =>
  obtain ⟨rfl, hs_⟩ := hcut
  replace HS := Lib.hid hs_
  clear hs_
  obtain ⟨x, K3⟩ : ∃ x, Hid (x = (A.toList == [76] && oneB [[76], [86], [76, 86], [76, 86, 84]] C.toList)) := ⟨_, rfl⟩
  rw [← K3.out]
  cases x; rotate_left
  · skip
    go_wp2_with fail
    go_ret
    exact ⟨by rw [He.out]; unfold refMidS; rw [← K1.out, ← K2.out, ← K3.out]; rfl, HS.out.bel⟩
  go_upto_region 12 with fail
  go_cut [67] (fun c wx => c = .bool (oneB [[76, 86], [86]] A.toList && oneB [[86], [84]] C.toList) ∧ KSt w wx B b Φ zs (.slice (some ad) zs.length c0))
  case first =>
    go_wp2_with fail
    refine (one10_2 _ A _ _).mono ?_
    rintro e w_ ⟨rfl, hb_⟩
    replace HS := Lib.hid (HS.out.next hb_)
    clear hb_
    cases q1 : oneB [[76, 86], [86]] A.toList
    · skip
      go_wp2_with fail
      go_meet
      case rel => exact ⟨by rw [q1]; rfl, HS.out⟩
    · skip
      go_wp2_with fail
      refine (one10_2 _ C _ _).mono ?_
      rintro e w_ ⟨rfl, hb_⟩
      replace HS := Lib.hid (HS.out.next hb_)
      clear hb_
      go_wp2_with fail
      go_meet
      case rel => exact ⟨by rw [q1, Bool.true_and], HS.out⟩
  case rest =>
  obtain ⟨rfl, hs_⟩ := hcut
  replace HS := Lib.hid hs_
  clear hs_
  obtain ⟨x, K4⟩ : ∃ x, Hid (x = (oneB [[76, 86], [86]] A.toList && oneB [[86], [84]] C.toList)) := ⟨_, rfl⟩
  rw [← K4.out]
  cases x; rotate_left
  · skip
    go_wp2_with fail
    go_ret
    exact ⟨by rw [He.out]; unfold refMidS; rw [← K1.out, ← K2.out, ← K3.out, ← K4.out]; rfl, HS.out.bel⟩
  go_upto_region 14 with fail
  go_cut [76] (fun c wx => c = .bool (oneB [[76, 86, 84], [84]] A.toList && C.toList == [84]) ∧ KSt w wx B b Φ zs (.slice (some ad) zs.length c0))
  case first =>
    go_wp2_with fail
    refine (one10_2 _ A _ _).mono ?_
    rintro e w_ ⟨rfl, hb_⟩
    replace HS := Lib.hid (HS.out.next hb_)
    clear hb_
    cases q1 : oneB [[76, 86, 84], [84]] A.toList
    · skip
      go_wp2_with fail
      go_meet
      case rel => exact ⟨by rw [q1]; rfl, HS.out⟩
    · cases q2 : (C.toList == [84])
      · skip
        go_wp2_with fail
        go_meet
        case rel => exact ⟨by rw [q1, q2]; rfl, HS.out⟩
      · skip
        go_wp2_with fail
        go_meet
        case rel => exact ⟨by rw [q1, q2]; rfl, HS.out⟩
  case rest =>
  obtain ⟨rfl, hs_⟩ := hcut
  replace HS := Lib.hid hs_
  clear hs_
  obtain ⟨x, K5⟩ : ∃ x, Hid (x = (oneB [[76, 86, 84], [84]] A.toList && C.toList == [84])) := ⟨_, rfl⟩
  rw [← K5.out]
  cases x; rotate_left
  · skip
    go_wp2_with fail
    go_ret
    exact ⟨by rw [He.out]; unfold refMidS; rw [← K1.out, ← K2.out, ← K3.out, ← K4.out, ← K5.out]; rfl, HS.out.bel⟩
  go_upto_region 16 with fail
  go_cut [84] (fun c wx => c = .bool (oneB [[69, 120, 116, 101, 110, 100], [90, 87, 74], [83, 112, 97, 99, 105, 110, 103, 77, 97, 114, 107]] C.toList || A.toList == [80, 114, 101, 112, 101, 110, 100]) ∧ KSt w wx B b Φ zs (.slice (some ad) zs.length c0))
  case first =>
    go_wp2_with fail
    refine (one10_3 _ C _ _ _).mono ?_
    rintro e w_ ⟨rfl, hb_⟩
    replace HS := Lib.hid (HS.out.next hb_)
    clear hb_
    cases q1 : oneB [[69, 120, 116, 101, 110, 100], [90, 87, 74], [83, 112, 97, 99, 105, 110, 103, 77, 97, 114, 107]] C.toList
    · cases q2 : (A.toList == [80, 114, 101, 112, 101, 110, 100])
      · skip
        go_wp2_with fail
        go_meet
        case rel => exact ⟨by rw [q1, q2]; rfl, HS.out⟩
      · skip
        go_wp2_with fail
        go_meet
        case rel => exact ⟨by rw [q1, q2]; rfl, HS.out⟩
    · skip
      go_wp2_with fail
      go_meet
      case rel => exact ⟨by rw [q1]; rfl, HS.out⟩
  case rest =>
  obtain ⟨rfl, hs_⟩ := hcut
  replace HS := Lib.hid hs_
  clear hs_
  obtain ⟨x, K6⟩ : ∃ x, Hid (x = (oneB [[69, 120, 116, 101, 110, 100], [90, 87, 74], [83, 112, 97, 99, 105, 110, 103, 77, 97, 114, 107]] C.toList || A.toList == [80, 114, 101, 112, 101, 110, 100])) := ⟨_, rfl⟩
  rw [← K6.out]
  cases x; rotate_left
  · skip
    go_wp2_with fail
    go_ret
    exact ⟨by rw [He.out]; unfold refMidS; rw [← K1.out, ← K2.out, ← K3.out, ← K4.out, ← K5.out, ← K6.out]; rfl, HS.out.bel⟩
  go_upto_region 18 with fail
  go_cut [92] (fun c wx => c = .bool (C.toList == [80, 105, 99, 116, 111, 103, 114, 97, 112, 104, 105, 99] && pic) ∧ KSt w wx B b Φ zs (.slice (some ad) zs.length c0))
  case first =>
    cases q1 : (C.toList == [80, 105, 99, 116, 111, 103, 114, 97, 112, 104, 105, 99])
    · skip
      go_wp2_with fail
      go_meet
      case rel => exact ⟨by rw [q1]; rfl, HS.out⟩
    · go_wp2_with fail
      refine (HP.out _ HS.out).mono ?_
      rintro e w_ ⟨rfl, hb_⟩
      replace HS := Lib.hid (HS.out.next hb_)
      clear hb_
      go_wp2_with fail
      go_meet
      case rel => exact ⟨by rw [q1, Bool.true_and], HS.out⟩
  case rest =>
  obtain ⟨rfl, hs_⟩ := hcut
  replace HS := Lib.hid hs_
  clear hs_
  obtain ⟨x, K7⟩ : ∃ x, Hid (x = (C.toList == [80, 105, 99, 116, 111, 103, 114, 97, 112, 104, 105, 99] && pic)) := ⟨_, rfl⟩
  rw [← K7.out]
  cases x; rotate_left
  · skip
    go_wp2_with fail
    go_ret
    exact ⟨by rw [He.out]; unfold refMidS; rw [← K1.out, ← K2.out, ← K3.out, ← K4.out, ← K5.out, ← K6.out, ← K7.out]; rfl, HS.out.bel⟩
  go_upto_region 20 with fail
  go_cut [101] (fun c wx => c = .bool (C.toList == [70, 108, 97, 103] && odd) ∧ KSt w wx B b Φ zs (.slice (some ad) zs.length c0))
  case first =>
    cases q1 : (C.toList == [70, 108, 97, 103])
    · skip
      go_wp2_with fail
      go_meet
      case rel => exact ⟨by rw [q1]; rfl, HS.out⟩
    · go_wp2_with fail
      refine (HF.out _ HS.out).mono ?_
      rintro e w_ ⟨rfl, hb_⟩
      replace HS := Lib.hid (HS.out.next hb_)
      clear hb_
      have hm : (((nf : Nat) : Int) % 2 == 1) = odd := by
        rw [Ho.out]
        by_cases h2 : nf % 2 = 1
        · rw [beq_iff_eq.2 h2, beq_iff_eq]; omega
        · rw [beq_eq_false_iff_ne.2 h2, beq_eq_false_iff_ne]; omega
      go_wp2_with fail
      go_meet
      case rel => exact ⟨by rw [q1, Bool.true_and], HS.out⟩
  case rest =>
  obtain ⟨rfl, hs_⟩ := hcut
  replace HS := Lib.hid hs_
  clear hs_
  obtain ⟨x, K8⟩ : ∃ x, Hid (x = (C.toList == [70, 108, 97, 103] && odd)) := ⟨_, rfl⟩
  rw [← K8.out]
  cases x; rotate_left
  · skip
    go_wp2_with fail
    go_ret
    exact ⟨by rw [He.out]; unfold refMidS; rw [← K1.out, ← K2.out, ← K3.out, ← K4.out, ← K5.out, ← K6.out, ← K7.out, ← K8.out]; rfl, HS.out.bel⟩
  go_wp2_with fail
  go_ret
  exact ⟨by rw [He.out]; unfold refMidS; rw [← K1.out, ← K2.out, ← K3.out, ← K4.out, ← K5.out, ← K6.out, ← K7.out, ← K8.out]; rfl, HS.out.bel⟩
set_option maxRecDepth 100000 in
theorem next10_walk {w : World} {B b : Nat} {Φ : Files} {zs : List Int} {v : Value} (hr : RefAt w B b Φ) (hok : FilesOk Φ) (hl : ListAt w v zs) (p : Int) (hp : (Lit.int .i64 p).wf = true) :
    Calls Tryz.prog 25 #[.pointer (some ⟨b, 0, none⟩), v, .int .i64 p] w fun e w' => e = .returned (.int .i64 (if 0 ≤ p ∧ p < zs.length then nextAt Φ zs (p + 1) else p)) ∧ Below w.heap.size w w' := by
  have HS := Lib.hid (show KSt w w B b Φ zs v from ⟨Below.refl _ _, hr, hl⟩)
  have HE := Lib.hid (fun W q (h : KSt w W B b Φ zs v) (hq : (Lit.int .i64 q).wf = true) => edge10_walk h.ref hok h.list q hq)
  obtain ⟨A0, c0, rfl, hn, hz⟩ := hl
  clear hr hz
  go_enter Tryz.func25, Tryz.ntmps25
  by_cases hin : 0 ≤ p ∧ p < zs.length
  · have He := Lib.hid (show (if 0 ≤ p ∧ p < zs.length then nextAt Φ zs (p + 1) else p) = nextAt Φ zs (p + 1) by rw [if_pos hin])
    have d1 : decide (p < 0) = false := by simp; omega
    have d2 : decide (p ≥ (zs.length : Int)) = false := by simp; omega
    have b1 : IntKind.i64.wrap (p + 1) = p + 1 := by rw [IntKind.wrap_i64]; omega
    go_wp2_with fail
    go_loopw [7] (fun x wr => ∃ q : Int, p + 1 ≤ q ∧ q ≤ zs.length ∧ x = .int .i64 q ∧ Hid (nextAt Φ zs (p + 1) = nextAt Φ zs q) ∧ Hid (KSt w wr B b Φ zs (.slice A0 zs.length c0))) (fun x _ => ((zs.length : Int) + 1 - intOf x).toNat)
    case atStart => exact ⟨p + 1, by omega, by omega, rfl, rfl, HS⟩
    case round =>
      obtain ⟨q, hq1, hq2, rfl, HI, HSr⟩ := hrel
      clear HS
      have HS := HSr
      clear HSr
      go_wp2_with fail
      refine (HE.out _ q HS.out (wf_i64 (by omega) (by omega))).mono ?_
      rintro e w_ ⟨rfl, hb_⟩
      replace HS := Lib.hid (HS.out.next hb_)
      clear hb_
      cases he : edgeOf Φ zs q with
      | true =>
        have Hfin := Lib.hid (show nextAt Φ zs (p + 1) = q by rw [HI.out, nextAt_same he])
        clear he HI
        go_wp2_with fail
        go_ret
        exact ⟨by first | rfl | (rw [Hfin.out]; first | done | rfl), HS.out.bel⟩
      | false =>
        have hq3 : q < zs.length := by
          rcases Int.lt_or_le q zs.length with h | h
          · exact h
          · have : q = zs.length := by omega
            rw [this, edge_len (by omega)] at he
            cases he
        have Hmore := Lib.hid (show nextAt Φ zs (p + 1) = nextAt Φ zs (q + 1) by rw [HI.out, nextAt_more he hq3])
        have b2 : IntKind.i64.wrap (q + 1) = q + 1 := by rw [IntKind.wrap_i64]; omega
        clear he HI
        go_wp2_with fail
        go_roundw
        case rel => exact ⟨q + 1, by omega, by omega, rfl, Hmore, HS⟩
        case measure => first | (simp [intOf]; done) | (simp [intOf]; omega)
  · have He := Lib.hid (show (if 0 ≤ p ∧ p < zs.length then nextAt Φ zs (p + 1) else p) = p by rw [if_neg hin])
    by_cases h1 : p < 0
    · have d1 : decide (p < 0) = true := by simpa using h1
      go_wp2_with fail
      go_ret
      exact ⟨by first | rfl | (rw [He.out]; first | done | rfl), HS.out.bel⟩
    · have d1 : decide (p < 0) = false := by simpa using h1
      have d2 : decide (p ≥ (zs.length : Int)) = true := by simp; omega
      go_wp2_with fail
      go_ret
      exact ⟨by first | rfl | (rw [He.out]; first | done | rfl), HS.out.bel⟩
end Go.Proofs.YtkgomgfhfoomhaaGreatDoor
