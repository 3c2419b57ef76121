/- rubricatorref09: touched, Closure. -/
import Derived.Test.YtkgomgfhfoomhaaGreatDoorRef3Y
import Derived.Test.YtkgomgfhfoomhaaGreatDoorRefF
import Derived.Test.YtkgomgfhfoomhaaGreatDoorAwk9W
namespace Go.Proofs.YtkgomgfhfoomhaaGreatDoor
open Go.RowKit
set_option linter.unusedVariables false
set_option linter.unusedSimpArgs false

/-! ### what is touched -/
def touchTo (Φ : Files) (x : Rec) (q : Nat) (y : Int) : Prop := ∃ r : Nat, x.lo ≤ r ∧ r < q ∧ (y = (r : Int) ∨ y = simpleOf Φ r)
def touchIn (Φ : Files) (rs : List Rec) (y : Int) : Prop := ∃ x ∈ rs, touchTo Φ x (x.hi + 1) y
theorem touchIn_snoc (Φ : Files) (rs : List Rec) (x : Rec) (y : Int) : touchIn Φ (rs ++ [x]) y ↔ touchIn Φ rs y ∨ touchTo Φ x (x.hi + 1) y := by
  unfold touchIn
  constructor
  · rintro ⟨z, hz, h⟩
    rcases List.mem_append.1 hz with hz | hz
    · exact .inl ⟨z, hz, h⟩
    · obtain rfl : z = x := by simpa using hz
      exact .inr h
  · rintro (⟨z, hz, h⟩ | h)
    · exact ⟨z, List.mem_append_left _ hz, h⟩
    · exact ⟨x, by simp, h⟩
theorem touchTo_next (Φ : Files) (x : Rec) (q : Nat) (h : x.lo ≤ q) (y : Int) : touchTo Φ x (q + 1) y ↔ touchTo Φ x q y ∨ y = (q : Int) ∨ y = simpleOf Φ q := by
  unfold touchTo
  constructor
  · rintro ⟨r, h1, h2, h3⟩
    by_cases e : r = q
    · subst e
      exact .inr h3
    · exact .inl ⟨r, h1, by omega, h3⟩
  · rintro (⟨r, h1, h2, h3⟩ | h3)
    · exact ⟨r, h1, by omega, h3⟩
    · exact ⟨q, h, by omega, h3⟩
theorem touchTo_zero (Φ : Files) (x : Rec) (y : Int) : ¬ touchTo Φ x x.lo y := by
  rintro ⟨r, h1, h2, _⟩
  omega
theorem touch_dom {Φ : Files} (hok : FilesOk Φ) (hS : Settled Φ) (y : Int) : touchIn Φ Φ.fol y ↔ pairDom Φ y := by
  constructor
  · rintro ⟨x, hx, r, h1, h2, h3⟩
    have hh := (hok.fol x hx).hi
    have hw : (Lit.int .i64 (r : Int)).wf = true := wf_i64 (by omega) (by omega)
    have hs := hS.wf _ hw
    rcases h3 with rfl | rfl
    · exact ⟨⟨((r : Int), simpleOf Φ r), hw, hs⟩, ⟨x, hx, r, h1, h2, .inl rfl⟩, rfl⟩
    · exact ⟨⟨(simpleOf Φ r, simpleOf Φ r), hs, hs⟩, ⟨x, hx, r, h1, h2, .inr rfl⟩, rfl⟩
  · rintro ⟨p, ⟨x, hx, r, h1, h2, h3⟩, rfl⟩
    refine ⟨x, hx, r, h1, h2, ?_⟩
    rcases h3 with h | h
    · exact .inl (by rw [h])
    · exact .inr (by rw [h])
def fitB (rs : List Rec) : Bool := rs.all fun x => skips x false || (match Sp.pts (fld1 x) with
  | [] => true
  | n :: _ => Nat.ble (n + (x.hi - x.lo)) 1114111)
theorem fol_fit : fitB (recsOf Tryz.f52) = true := by kernel_rfl
set_option maxRecDepth 100000 in
theorem files_fit : fitB files.fol = true := fol_fit
theorem simple_in {Φ : Files} (h : fitB Φ.fol = true) (r : Int) (hr : 0 ≤ r ∧ r ≤ 1114111) : 0 ≤ simpleOf Φ r ∧ simpleOf Φ r ≤ 1114111 := by
  unfold simpleOf foldz
  cases hF : foldsOf false Φ.fol r with
  | none => exact hr
  | some l =>
    obtain ⟨x, hx, hsk, q1, q2, rfl⟩ := foldsOf_some false Φ.fol Φ.fol (fun _ => none) (fun _ h => h) (fun _ _ h => by cases h) r l hF
    have hb := List.all_eq_true.1 h x hx
    rw [hsk, Bool.false_or] at hb
    cases hp : Sp.pts (fld1 x) with
    | nil =>
      show 0 ≤ (0 : Int) ∧ (0 : Int) ≤ 1114111
      omega
    | cons n l =>
      rw [hp] at hb
      have hb' : n + (x.hi - x.lo) ≤ 1114111 := Nat.le_of_ble_eq_true hb
      show 0 ≤ (((n + (r - x.lo).toNat : Nat)) : Int) ∧ (((n + (r - x.lo).toNat : Nat)) : Int) ≤ 1114111
      omega
theorem blk_ne {w : World} {xb : Nat} {e e' : TypeId} {cs : Array Value} {B s n : Nat} {v : Value} {xs : List Value} (hX : Blk w xb e cs) (ho : w.ownsRow B e' s v n xs) (hne : e ≠ e') : some xb ≠ v.ownBlock := by
  rcases ho.2 with ⟨rfl, _⟩ | ⟨g, cap, cur, rfl, hb, hg, _⟩
  · intro h; cases h
  · intro h
    have h : xb = g := by simpa [Value.ownBlock] using h
    subst h
    unfold Blk at hX
    rw [hg] at hX
    injection hX with hX
    injection hX with h1 h2
    exact hne h2.symm
def TouchSaid (Φ : Files) (w : World) (e : Ending) (w' : World) : Prop := ∃ v l, e = .returned v ∧ IntsAt w' w.heap.size v l ∧ (∀ y, y ∈ l ↔ touchIn Φ Φ.fol y) ∧ l.length ≤ 2 * widthOf Φ.fol ∧ Below w.heap.size w w'
theorem intz_snoc9 (l : List Int) (x : Int) : intz l ++ [.int .i64 x] = intz (l ++ [x]) := by
  unfold intz
  rw [List.map_append]
  rfl
set_option maxRecDepth 100000 in
set_option maxHeartbeats 3200000 in
theorem touched_walk {w : World} {B b : Nat} {Φ : Files} (hr : RefAt w B b Φ) (hok : FilesOk Φ) (hwd : widthOf Φ.fol ≤ 100000) : Calls Tryz.prog 94 #[.pointer (some ⟨b, 0, none⟩)] w (TouchSaid Φ w) := by
  have HRef := Lib.hid hr
  obtain ⟨v0, v1, v2, v3, v4, v5, v6, v7, v8, f0, f1, f2, f3, f4, f5, f6, U7, U8, h0, h1, h2, h3, h4, h5, h6, h7, h8, h9⟩ := hr.all
  obtain ⟨A6, c6, rfl⟩ := own_slice h7.row
  have hlen := hok.foll.le
  have z6 : w.cell? ⟨b, 6, none⟩ = some (.slice A6 Φ.fol.length c6) := h0.cell 6
  have HR := Lib.hid h7
  have Hok := Lib.hid hok
  have Hw := Lib.hid (fun k => widthOf_take Φ.fol k)
  clear h0 h1 h2 h3 h4 h5 h6 h7 h8 h9 hr
  go_enter Tryz.func94, Tryz.ntmps94
  go_wp2_with fail
  go_loopw [3, 13] (fun u i wr => ∃ (k : Nat) (outs : List Int), k ≤ Φ.fol.length ∧ i = .int .i64 k ∧ Hid (∀ y, y ∈ outs ↔ touchIn Φ (Φ.fol.take k) y) ∧ outs.length ≤ 2 * widthOf (Φ.fol.take k) ∧ Hid (IntsAt wr w.heap.size u outs) ∧ Hid (Below w.heap.size w wr)) (fun _ i _ => Φ.fol.length - (intOf i).toNat)
  case atStart => exact ⟨0, [], by omega, rfl, (fun y => ⟨fun h => (by cases h), fun h => (by obtain ⟨x, hx, _⟩ := h; cases hx)⟩), Nat.zero_le _, World.ownsRow_nil _ _ _ _, Below.refl _ _⟩
  case round =>
    obtain ⟨k, outs, hk, rfl, HM, hol, HU, HB⟩ := hrel
    clear z6
    by_cases hlt : k < Φ.fol.length
    · have hRr := HR.out.below HB.out
      obtain ⟨g0, cap0, hv, _, _, _, _⟩ := own_form hRr.row (by omega)
      injection hv with hA hn0 hc0
      subst hA hc0
      obtain ⟨u, hu⟩ : ∃ u, u = f6[k]'(by rw [← HR.out.len]; exact hlt) := ⟨_, rfl⟩
      obtain ⟨x, hx⟩ : ∃ x, x = Φ.fol[k] := ⟨_, rfl⟩
      obtain ⟨e0, e1, e2⟩ := recCells_get Φ.fol f6 k HR.out.len hlt
      rw [← hx] at e0 e1
      rw [← hu] at e2
      have c0 := own_cell hRr.row _ _ e0
      have c1 := own_cell hRr.row _ _ e1
      have c2 := own_cell hRr.row _ _ e2
      have hfld := hRr.fld k x u (by rw [hx]; exact List.getElem?_eq_getElem hlt) (by rw [hu]; exact List.getElem?_eq_getElem _)
      have hmem : x ∈ Φ.fol := by rw [hx]; exact List.getElem_mem _
      have hxle := (Hok.out.fol x hmem).le
      have hxhi := (Hok.out.fol x hmem).hi
      have hsn : Φ.fol.take (k + 1) = Φ.fol.take k ++ [x] := by rw [List.take_succ_eq_append_getElem hlt, hx]
      have hws := widthOf_snoc (Φ.fol.take k) x
      rw [← hsn] at hws
      have hwk := Hw.out (k + 1)
      have Hsn := Lib.hid hsn
      obtain ⟨gx, cu, rfl⟩ := own_slice hfld
      obtain ⟨X, hX⟩ : ∃ X, X = Obj.cells #[Value.int IntKind.i64 x.lo, Value.int IntKind.i64 x.hi, Value.slice gx x.fields.length cu] 69 := ⟨_, rfl⟩
      have hbx := alloc_below wr X
      have hXb : Blk (wr.alloc X) wr.heap.size 69 #[Value.int IntKind.i64 x.lo, Value.int IntKind.i64 x.hi, Value.slice gx x.fields.length cu] := by rw [hX]; exact row_new _ _
      have HX0 := Lib.hid hXb
      have HU0 := Lib.hid (show IntsAt (wr.alloc X) w.heap.size u3 outs from own_below HU.out hbx)
      have HB0 := Lib.hid (HB.out.trans (hbx.mono HB.out.size))
      rw [hX] at HX0 HU0 HB0
      clear hRr hu e0 e1 e2 hx hmem hfld hsn hXb hbx hX HU HB
      go_upto_region 5 with fail
      have x0 := HX0.out.cell 0
      clear c0 c1 c2
      generalize wr.alloc _ = W1 at *
      generalize wr.heap.size = xb at *
      go_wp2_with fail
      clear x0
      go_loopw [3, 6] (fun u i w2 => ∃ (q : Nat) (os : List Int), x.lo ≤ q ∧ q ≤ x.hi + 1 ∧ i = .int .i64 q ∧ Hid (∀ y, y ∈ os ↔ touchIn Φ (Φ.fol.take k) y ∨ touchTo Φ x q y) ∧ os.length ≤ 2 * (widthOf (Φ.fol.take k) + (q - x.lo)) ∧ Hid (IntsAt w2 w.heap.size u os) ∧ Hid (Blk w2 xb 69 #[Value.int IntKind.i64 x.lo, Value.int IntKind.i64 x.hi, Value.slice gx x.fields.length cu]) ∧ Hid (Below w.heap.size w w2)) (fun _ i _ => x.hi + 1 - (intOf i).toNat)
      case atStart => exact ⟨x.lo, outs, Nat.le_refl _, by omega, rfl, (fun y => by rw [HM.out y]; exact ⟨.inl, fun h => h.resolve_right (touchTo_zero Φ x y)⟩), by omega, HU0, HX0, HB0⟩
      case round =>
        obtain ⟨q, os, hq1, hq2, rfl, HM2, hos, HU2, HX2, HB2⟩ := hrel
        clear HU0 HX0 HB0
        have x1 := HX2.out.cell 1
        by_cases hle : q ≤ x.hi
        · have d0 : decide ((q : Int) ≤ (x.hi : Int)) = true := by simp; omega
          have n0 : decide (q ≤ x.hi) = true := decide_eq_true hle
          have hbt : (os.length + 2) * 8 ≤ 140737488355328 := by omega
          have b1 : IntKind.i64.wrap ((q : Int) + 1) = ((q + 1 : Nat) : Int) := by rw [IntKind.wrap_i64]; omega
          have HSi := Lib.hid (fun W (hW : Below w.heap.size w W) => simple09_walk (HRef.out.below hW) Hok.out (q : Int))
          obtain ⟨s, hs⟩ : ∃ s, s = simpleOf Φ q := ⟨_, rfl⟩
          rw [← hs] at HSi
          have Hs := Lib.hid hs
          have Hnx := Lib.hid (fun (ls : List Int) (hls : ∀ y, y ∈ ls ↔ y ∈ os ∨ y = (q : Int) ∨ y = s) => (show ∀ y, y ∈ ls ↔ touchIn Φ (Φ.fol.take k) y ∨ touchTo Φ x (q + 1) y from fun y => by
            rw [hls y, HM2.out y, touchTo_next Φ x q hq1 y, ← hs]
            constructor
            · rintro ((h | h) | h)
              · exact .inl h
              · exact .inr (.inl h)
              · exact .inr (.inr h)
            · rintro (h | h | h)
              · exact .inl (.inl h)
              · exact .inl (.inr h)
              · exact .inr h))
          have Hb1 := Lib.hid b1
          clear hs HM2 b1
          go_wp2_with (at_builtin; refine wp_append_lit slInt rfl (.tmp 25) (.tmp 27) rfl w.heap.size u3 _ _ rfl (by exact HU2.out) #[.int .i64 q] rfl rfl (by simp [Value.oneCell']) (by omega) (by exact HB2.out.size) ?_; intro v6 w6 hown6 hg6; have HX6 := Lib.hid (HX2.out.grown hg6 (blk_ne HX2.out HU2.out (by decide))); have HU6 := Lib.hid hown6; have HB6 := Lib.hid (HB2.out.grown hg6 HB2.out.size (fun k hk => (own_lt HU2.out k hk).1)); clear hown6 hg6)
          refine (HSi.out _ HB6.out).mono ?_
          rintro e w7 ⟨rfl, hb7⟩
          have HX7 := Lib.hid (HX6.out.below hb7)
          have HU7 := Lib.hid (own_below HU6.out hb7)
          have HB7 := Lib.hid (HB6.out.trans (hb7.mono HB6.out.size))
          clear hb7 HX6 HU6 HB6 HSi x1
          have b1 := Hb1.out
          by_cases hne : s = (q : Int)
          · have q1 : (s != (q : Int)) = false := by rw [hne]; simp
            have HN := Lib.hid (Hnx.out (os ++ [(q : Int)]) (fun y => by rw [List.mem_append, List.mem_singleton, hne]; exact ⟨fun h => h.elim .inl (fun h => .inr (.inl h)), fun h => h.elim .inl (fun h => .inr (h.elim id id))⟩))
            clear hne
            go_wp2_with fail
            go_roundw
            case rel =>
              clear b1
              refine ⟨q + 1, os ++ [(q : Int)], by omega, by omega, rfl, HN, by rw [List.length_append, List.length_singleton]; omega, ?_, HX7, HB7⟩
              show IntsAt _ _ _ _
              unfold IntsAt
              rw [List.length_append, ← intz_snoc9]
              exact HU7.out
            case measure => clear b1; simp [intOf]; omega
          · have q1 : (s != (q : Int)) = true := by rw [bne_iff_ne]; exact hne
            have HN := Lib.hid (Hnx.out (os ++ [(q : Int)] ++ [s]) (fun y => by rw [List.mem_append, List.mem_append, List.mem_singleton, List.mem_singleton]; exact ⟨fun h => h.elim (fun h => h.elim .inl (fun h => .inr (.inl h))) (fun h => .inr (.inr h)), fun h => h.elim (fun h => .inl (.inl h)) (fun h => h.elim (fun h => .inl (.inr h)) .inr)⟩))
            clear hne
            go_wp2_with (at_builtin; refine wp_append_lit slInt rfl (.tmp 35) (.tmp 37) rfl w.heap.size v6 _ _ rfl (by exact HU7.out) #[.int .i64 s] rfl rfl (by simp [Value.oneCell']) (by clear b1; omega) (by exact HB7.out.size) ?_; intro v8 w8 hown8 hg8; have HX8 := Lib.hid (HX7.out.grown hg8 (blk_ne HX7.out HU7.out (by decide))); have HU8 := Lib.hid hown8; have HB8 := Lib.hid (HB7.out.grown hg8 HB7.out.size (fun k hk => (own_lt HU7.out k hk).1)); clear hown8 hg8)
            go_roundw
            case rel =>
              clear b1
              refine ⟨q + 1, os ++ [(q : Int)] ++ [s], by omega, by omega, rfl, HN, by simp only [List.length_append, List.length_singleton]; omega, ?_, HX8, HB8⟩
              show IntsAt _ _ _ _
              unfold IntsAt
              rw [List.length_append, List.length_append, ← intz_snoc9, ← intz_snoc9]
              exact HU8.out
            case measure => clear b1; simp [intOf]; omega
        · have d0 : decide ((q : Int) ≤ (x.hi : Int)) = false := by simp; omega
          have n0 : decide (q ≤ x.hi) = false := decide_eq_false hle
          have hqe : q = x.hi + 1 := by omega
          have HN := Lib.hid (show ∀ y, y ∈ os ↔ touchIn Φ (Φ.fol.take (k + 1)) y from fun y => by rw [HM2.out y, Hsn.out, touchIn_snoc, hqe])
          have b1 : IntKind.i64.wrap ((k : Int) + 1) = ((k + 1 : Nat) : Int) := by rw [IntKind.wrap_i64]; omega
          clear HM2 HX2
          go_wp2_with fail
          go_roundw
          case rel => clear b1; exact ⟨k + 1, os, by omega, by first | rfl | go_num, HN, by omega, HU2, HB2⟩
          case measure => clear b1; simp [intOf]; omega
    · have hkl : k = Φ.fol.length := by omega
      have Hfin := Lib.hid (show TouchSaid Φ w (.returned u3) wr from ⟨u3, outs, rfl, HU.out, fun y => by rw [HM.out y, hkl, List.take_length], by rw [hkl, List.take_length] at hol; exact hol, HB.out⟩)
      obtain ⟨A3, c3, rfl⟩ := own_slice HU.out
      subst hkl
      clear HM HU
      go_wp2_with fail
      go_ret
      exact Hfin.out
end Go.Proofs.YtkgomgfhfoomhaaGreatDoor
