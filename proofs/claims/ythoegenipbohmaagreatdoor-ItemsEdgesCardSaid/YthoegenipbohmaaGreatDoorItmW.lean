/- bytes.Clone, items.New. Printed by wip/tools/mkitm.py. -/
import Derived.Test.YthoegenipbohmaaGreatDoorUtfF
import Derived.Test.YthoegenipbohmaaGreatDoorItmP
import Derived.Test.YthoegenipbohmaaGreatDoorRef8M
namespace Go.Proofs.YthoegenipbohmaaGreatDoor
open Go.RowKit Utf Itm
set_option linter.unusedVariables false
set_option linter.unusedSimpArgs false
theorem slByte : SlT Tryz.prog 53 5 1 1 := ⟨Tryz.underlying53, by kernel_rfl, by decide, by decide⟩
def BytesSaid (bs : List Nat) (w : World) (e : Ending) (w' : World) : Prop := ∃ v', e = .returned v' ∧ BytesO w' w.heap.size v' bs ∧ Below w.heap.size w w'
set_option maxRecDepth 100000 in
theorem bclone_walk {w : World} {v : Value} {bs : List Nat} (h : BytesAt w v bs) (hl : bs.length ≤ 1000000) : Calls Tryz.prog 66 #[v] w (BytesSaid bs w) := by
  obtain ⟨A, c, rfl, hnc, hn, hA, hb255, hcell⟩ := h
  have q22 : ∀ (w : World) (a : Option Addr) (n c n' c' : Nat), (binOp .eql 53 (.slice a n c) (.slice none n' c')).run Tryz.prog w = .ok (.bool a.isNone) w := fun w a n c n' c' => Lib.run_eql_slice_nil w _ _ a n c n' c' Tryz.underlying53
  have hba := alloc_below w (Obj.cells #[] 5)
  cases A with
  | none =>
    have h0 : bs = [] := List.length_eq_zero_iff.1 (by have := hA rfl; omega)
    subst h0
    clear hA hba hcell hb255
    go_enter Tryz.func66, Tryz.ntmps66
    go_wp2_with fail
    go_ret
    exact ⟨_, rfl, World.ownsRow_nil _ _ _ _, Below.refl _ _⟩
  | some ad =>
    have HC := Lib.hid (show ∀ ad', some ad = some ad' → ∀ j u, (bytz bs)[j]? = some u → (w.alloc (Obj.cells #[] 5)).cell? (ad'.add j) = some u by
      rintro ad' e j u hu
      cases e
      have hj : j < bs.length := by
        have := (List.getElem?_eq_some_iff.1 hu).1
        rwa [bytz_len] at this
      rw [bytz_get bs j hj] at hu
      rw [← hu]
      exact cell_later hba (hcell ad rfl j hj))
    have HO := Lib.hid (own_zero w 5 w.heap.size (Nat.le_refl _))
    have HB := Lib.hid hba
    clear hA hba hcell hb255
    go_enter Tryz.func66, Tryz.ntmps66
    go_wp2_with (at_builtin; refine wp_append_more (w.alloc (Obj.cells #[] 5)) slByte rfl (.tmp 5) (.tmp 6) rfl w.heap.size _ 0 [] rfl (by exact HO.out) (some ad) bs.length c (bytz bs) rfl (by intro h; cases h) (by rw [bytz_len, Nat.mul_one]) HC.out (bytz_one bs) (by omega) HB.out.size ?_; intro v3 w3 hown hg; have HB3 := Lib.hid (HB.out.grown hg HB.out.size (fun k hk => by have e : w.heap.size = k := Option.some.inj (show some w.heap.size = some k from hk); omega)); have HO3 := Lib.hid hown; clear hown hg)
    go_ret
    refine ⟨_, rfl, ?_, HB3.out⟩
    have := HO3.out
    rw [Nat.zero_add, List.nil_append] at this
    exact this
theorem set_grown (w : World) (a : Addr) (u : Value) : w.grownBy (w.setCell a u) (some a.block) :=
  ⟨rfl, rfl, rfl, by unfold World.setCell; simp, fun k hk hne => Below.heap_setCell w a u k (fun e => hne (by rw [e]))⟩
theorem own_other {w : World} {base : Nat} {e : TypeId} {size n : Nat} {v : Value} {xs : List Value} (h : w.ownsRow base e size v n xs) {a : Addr} {u : Value} (hne : v.ownBlock ≠ some a.block) : (w.setCell a u).ownsRow base e size v n xs := h.kept (set_grown w a u) (.inr hne)
theorem own_not {w : World} {base : Nat} {e : TypeId} {size n : Nat} {v : Value} {xs : List Value} (h : w.ownsRow base e size v n xs) {g : Nat} (hg : w.heap.size ≤ g) : v.ownBlock ≠ some g := fun e => by have := (own_lt h g e).2; omega
/-- A subject: its block, bytes, items, and the least byte from each item on. -/
structure TextAt (w : World) (B p : Nat) (bs : List Nat) (L : List It) : Prop where
  pos : B ≤ p
  byte : ∀ b ∈ bs, b ≤ 255
  ex : ∃ vb vl vn, Blk w p 110 #[.bool true, vb, vl, vn] ∧ BytesO w B vb bs ∧ ItemsAt w B vl L ∧ IntsAt w B vn (least bs.length L)
theorem TextAt.below {w w' : World} {B p : Nat} {bs : List Nat} {L : List It} (h : TextAt w B p bs L) (hb : Below w.heap.size w w') : TextAt w' B p bs L := by
  obtain ⟨h1, h0, vb, vl, vn, h2, h3, h4, h5⟩ := h
  exact ⟨h1, h0, vb, vl, vn, h2.below hb, own_below h3 hb, own_below h4 hb, own_below h5 hb⟩
theorem TextAt.kept {w w' : World} {B p g : Nat} {bs : List Nat} {L : List It} (h : TextAt w B p bs L) (hg : w.grownBy w' (some g)) (hB : g < B) : TextAt w' B p bs L := by
  obtain ⟨h1, h0, vb, vl, vn, h2, h3, h4, h5⟩ := h
  have k : ∀ {e : TypeId} {size n : Nat} {v : Value} {xs : List Value}, w.ownsRow B e size v n xs → w'.ownsRow B e size v n xs := fun h => h.kept hg (.inr fun e => by have := (own_lt h g e).1; omega)
  exact ⟨h1, h0, vb, vl, vn, h2.grown hg (by intro e; injection e; omega), k h3, k h4, k h5⟩
theorem intz_setT (zs : List Int) (j : Nat) (x : Int) : (intz zs).set j (.int .i64 x) = intz (zs.set j x) := by
  unfold intz
  rw [List.map_set]
theorem own_grown {w w' : World} {base : Nat} {e : TypeId} {size n : Nat} {v : Value} {xs : List Value} (h : w.ownsRow base e size v n xs) (hg : w.grownBy w' none) : w'.ownsRow base e size v n xs := h.kept hg (by cases v.ownBlock <;> simp)
theorem int_infoT : (Tryz.prog.info? 3).map (fun i => (i.zero, i.size, i.bytes)) = some (some (.int .i64 0), 1, 8) := by kernel_rfl
theorem least_eq {n : Int} {L : List It} {zs : List Int} (hl : zs.length = L.length + 1) (h : ∀ j, j < L.length + 1 → zs[j]? = some (minS n (L.drop j))) : zs = least n L := by
  apply List.ext_getElem?
  intro j
  by_cases hj : j < L.length + 1
  · rw [h j hj, least_get n L j (by omega)]
  · rw [List.getElem?_eq_none (by omega), List.getElem?_eq_none (by rw [least_len]; omega)]
set_option maxRecDepth 100000 in
set_option maxHeartbeats 3200000 in
theorem new_walk {w : World} {m : Nat} {Φ : Files} (hn : Nmd w m Φ) {v : Value} {bs : List Nat} (h : BytesAt w v bs) (hl : bs.length ≤ 1000) (canon : Bool) : Calls Tryz.prog 67 #[.pointer (some ⟨m + 3, 0, none⟩), v, .bool canon] w fun e w' => ∃ p, e = .returned (.tuple #[.pointer (some ⟨p, 0, none⟩), .int .i64 0]) ∧ TextAt w' w.heap.size p bs (if canon then nfd Φ (dec bs 0) else dec bs 0) ∧ Below w.heap.size w w' := by
  obtain ⟨s, hse, hcat⟩ := hn.cat w (Below.refl _ _)
  have HC := Lib.hid hcat
  have HA := Lib.hid h
  have HN := Lib.hid hn
  obtain ⟨i0, hi0, hz1⟩ := Option.map_eq_some_iff.1 int_infoT
  have hz0 : i0.zero = some (.int .i64 0) ∧ i0.size = 1 ∧ i0.bytes = 8 := by
    injection hz1 with e1 e2
    injection e2 with e2 e3
    exact ⟨e1, e2, e3⟩
  have HI := Lib.hid hz0
  have HI0 := Lib.hid hi0
  obtain ⟨A, c, rfl, hnc, hn9, hnone, hb255, _⟩ := h
  have H255 := Lib.hid hb255
  obtain ⟨bn, hbn⟩ : ∃ n, n = bs.length := ⟨_, rfl⟩
  rw [← hbn] at HA hnc hl hn9 ⊢
  have HNn := Lib.hid hbn
  have HDl := Lib.hid (show (dec bs 0).length ≤ 1000 by have := dec_len bs 0; omega)
  have HDw := Lib.hid (show ∀ x ∈ dec bs 0, (Lit.int .i64 x.r).wf = true from fun x hx => by have := dec_mem bs 0 hb255 x hx; exact wf_i64 (by omega) (by omega))
  clear hn hcat hbn hnone hz1 hz0 hi0 hb255
  go_enter Tryz.func67, Tryz.ntmps67
  go_wp2_with fail
  refine HC.out.mono ?_
  rintro e w1 ⟨rfl, hb1⟩
  have HB := Lib.hid hb1
  have HA1 := Lib.hid (HA.out.below hb1)
  replace HN := Lib.hid (HN.out.below hb1)
  clear hb1 HC HA
  go_wp2_with fail
  refine (bclone_walk HA1.out (by have := HNn.out; omega)).mono ?_
  rintro e w2 ⟨vb, rfl, hvb, hb2⟩
  replace hvb := own_base hvb HB.out.size
  have HVB := Lib.hid hvb
  replace HA1 := Lib.hid (HA1.out.below hb2)
  replace HN := Lib.hid (HN.out.below hb2)
  replace HB := Lib.hid (HB.out.trans (hb2.mono HB.out.size))
  clear hvb hb2
  go_wp2_with fail
  refine (decode_walk w2 _ bs HA1.out (by have := HNn.out; omega)).mono ?_
  rintro e w3 ⟨vl, rfl, hvl, hb3⟩
  replace hvl := own_base hvl HB.out.size
  replace HVB := Lib.hid (own_below HVB.out hb3)
  replace HN := Lib.hid (HN.out.below hb3)
  replace HB := Lib.hid (HB.out.trans (hb3.mono HB.out.size))
  obtain ⟨Al, cl, rfl⟩ := own_slice hvl
  obtain ⟨Ab, cb, rfl⟩ := own_slice HVB.out
  have HVL := Lib.hid hvl
  clear hvl hb3 HA1
  have hba := alloc_below w3 (Obj.cells #[.bool true, .slice Ab bs.length cb, .slice Al (dec bs 0).length cl, .slice none 0 0] 110)
  have HT := Lib.hid (show Blk (w3.alloc (Obj.cells #[.bool true, .slice Ab bs.length cb, .slice Al (dec bs 0).length cl, .slice none 0 0] 110)) w3.heap.size 110 #[.bool true, .slice Ab bs.length cb, .slice Al (dec bs 0).length cl, .slice none 0 0] from row_new _ _)
  have HVBn := Lib.hid (own_not HVB.out (Nat.le_refl _))
  have HVLn := Lib.hid (own_not HVL.out (Nat.le_refl _))
  have Hp := Lib.hid HB.out.size
  replace HVB := Lib.hid (show BytesO (w3.alloc (Obj.cells #[.bool true, .slice Ab bs.length cb, .slice Al (dec bs 0).length cl, .slice none 0 0] 110)) w.heap.size (.slice Ab bs.length cb) bs from own_below HVB.out hba)
  replace HVL := Lib.hid (show ItemsAt (w3.alloc (Obj.cells #[.bool true, .slice Ab bs.length cb, .slice Al (dec bs 0).length cl, .slice none 0 0] 110)) w.heap.size (.slice Al (dec bs 0).length cl) (dec bs 0) from own_below HVL.out hba)
  replace HN := Lib.hid (HN.out.below hba)
  replace HB := Lib.hid (HB.out.trans (hba.mono HB.out.size))
  clear hba
  obtain ⟨D, hD⟩ : ∃ D, D = dec bs 0 := ⟨_, rfl⟩
  rw [← hD] at HT HVLn HVB HVL HN HB HDl HDw ⊢
  have HDe := Lib.hid hD
  clear hD
  go_upto_region 4 with fail
  generalize w3.alloc _ = wt at *
  generalize w3.heap.size = p at *
  cases canon with
  | true =>
    have a2 := HT.out.cell 2
    have b2 := HT.out.free 2
    have HPL := Lib.hid (partsL_len HN.out.two D)
    have hn100 : D.length ≤ 1000 := HDl.out
    go_wp2_with fail
    refine (items_walk HN.out.full HN.out.comb (fun r => (comb_range HN.out.num r).1) (ItsAt.of_own HVL.out) HDw.out (by have := HPL.out.1; unfold partsL at this; omega) (by omega)).mono ?_
    rintro e w4 ⟨v4, rfl, hv4, hb4⟩
    have hv4 : ItemsAt w4 wt.heap.size v4 (nfd Φ D) := hv4
    obtain ⟨L, hL⟩ : ∃ L, L = nfd Φ D := ⟨_, rfl⟩
    have hnl : L.length ≤ 96000 := by rw [hL, nfd_len]; have := HPL.out.1; omega
    rw [← hL] at hv4
    have HLe := Lib.hid (show L = nfd Φ (dec bs 0) by rw [hL, HDe.out])
    have HVLn4 := Lib.hid (show v4.ownBlock ≠ some p from fun e => by have h1 := heap_lt HT.out; have := (own_lt hv4 p e).1; omega)
    replace hv4 := own_base hv4 HB.out.size
    obtain ⟨A4, c4, rfl⟩ := own_slice hv4
    have HV4 := Lib.hid hv4
    replace HT := Lib.hid (HT.out.below hb4)
    replace HVB := Lib.hid (show BytesO w4 w.heap.size (.slice Ab bs.length cb) bs from own_below HVB.out hb4)
    replace HB := Lib.hid (HB.out.trans (hb4.mono HB.out.size))
    have t2 := HT.out.cell 2
    have f2 := HT.out.free 2
    clear hv4 hb4 hL HPL HVL HN
    go_upto_region 6 with fail
    obtain ⟨w5, hw5⟩ : ∃ w5, w5 = w4.setCell ⟨p, 2, none⟩ (.slice A4 L.length c4) := ⟨_, rfl⟩
    replace HT := Lib.hid (show Blk w5 p 110 #[.bool true, .slice Ab bs.length cb, .slice A4 L.length c4, .slice none 0 0] from hw5 ▸ HT.out.set 2 _)
    replace HVB := Lib.hid (show BytesO w5 w.heap.size (.slice Ab bs.length cb) bs from hw5 ▸ own_other HVB.out HVBn.out)
    have HVL := Lib.hid (show ItemsAt w5 w.heap.size (.slice A4 L.length c4) L from hw5 ▸ own_other HV4.out HVLn4.out)
    replace HB := Lib.hid (show Below w.heap.size w w5 from hw5 ▸ HB.out.setCell (p := ⟨p, 2, none⟩) Hp.out _)
    rw [← hw5]
    clear hw5 HV4 t2 f2 HVLn a2 b2
    have HPN := Lib.hid (heap_lt HT.out)
    have HG := Lib.hid HB.out.size
    have HVBg := Lib.hid (own_not HVB.out (Nat.le_refl _))
    have HVLg := Lib.hid (own_not HVL.out (Nat.le_refl _))
    obtain ⟨n, hnn⟩ : ∃ n, n = L.length + 1 := ⟨_, rfl⟩
    have hn9' : n ≤ 96001 := by omega
    have w1' : IntKind.i64.wrap ((L.length : Int) + 1) = (n : Int) := by rw [IntKind.wrap_i64, hnn]; omega
    have HNN := Lib.hid hnn
    have t2 := HT.out.cell 2
    clear hnn
    go_upto_region 7 with (refine wpList_make_full w5 rfl (.tmp 36) (.tmp 36) 37 rfl w.heap.size 3 i0 (.int .i64 0) 1 Tryz.underlying37 HI0.out HI.out.1 HI.out.2.1 .i64 .i64 _ _ n rfl rfl rfl rfl (by rw [HI.out.2.2]; omega) (by unfold maxLen; omega) (by exact HB.out.size) ?_; intro w4 hown4 hg4; have t3 : w4.cell? ⟨p, 3, none⟩ = some (.slice none 0 0) := (HT.out.grown hg4 (by simp)).cell 3; have f3 := (HT.out.grown hg4 (by simp)).free 3; have HT4 := Lib.hid (HT.out.grown hg4 (by simp)); have HVB4 := Lib.hid (show BytesO w4 w.heap.size (.slice Ab bs.length cb) bs from own_grown HVB.out hg4); have HVL4 := Lib.hid (show ItemsAt w4 w.heap.size (.slice A4 L.length c4) L from own_grown HVL.out hg4); have HB4 := Lib.hid (HB.out.grown hg4 HB.out.size (by simp)); have HN4 := Lib.hid hown4; clear hown4 hg4)
    obtain ⟨w6, hw6⟩ : ∃ w6, w6 = w4.setCell ⟨p, 3, none⟩ (.slice (some ⟨w5.heap.size, 0, none⟩) n n) := ⟨_, rfl⟩
    have HT5 := Lib.hid (show Blk w6 p 110 #[.bool true, .slice Ab bs.length cb, .slice A4 L.length c4, .slice (some ⟨w5.heap.size, 0, none⟩) n n] from hw6 ▸ HT4.out.set 3 _)
    have HVB5 := Lib.hid (show BytesO w6 w.heap.size (.slice Ab bs.length cb) bs from hw6 ▸ own_other HVB4.out HVBn.out)
    have HVL5 := Lib.hid (show ItemsAt w6 w.heap.size (.slice A4 L.length c4) L from hw6 ▸ own_other HVL4.out HVLn4.out)
    have HB5 := Lib.hid (show Below w.heap.size w w6 from hw6 ▸ HB4.out.setCell (p := ⟨p, 3, none⟩) Hp.out _)
    have HZ5 := Lib.hid (show w6.ownsRow w.heap.size 3 1 (.slice (some ⟨w5.heap.size, 0, none⟩) n n) n (intz (List.replicate n 0)) by
      have e1 : (madeCells (Value.int IntKind.i64 0).cells (n * 1)).toList = intz (List.replicate n 0) := by
        rw [Nat.mul_one]
        show (madeCells #[Value.int IntKind.i64 0] n).toList = _
        rw [toList_madeCells_one]
        unfold intz
        rw [List.map_replicate]
      have h1 := HN4.out
      rw [e1] at h1
      exact hw6 ▸ own_other h1 (by intro e; injection e with e; have e2 : w5.heap.size = p := e; have := HPN.out; omega))
    rw [← hw6]
    generalize w5.heap.size = g at *
    clear hw6 HT HVB HVL HT4 HVB4 HVL4 HB4 HN4 HB t2 t3 f3
    have t2 := HT5.out.cell 2
    go_wp2_with fail
    clear t2

    have hst : Hid ((List.replicate n (0 : Int)).length = n ∧ ∀ j, n ≤ j → j < n → (List.replicate n (0 : Int))[j]? = some (minS bn (L.drop j))) := ⟨by simp, fun j h1 h2 => by omega⟩
    have hs2 : (bn : Int) = minS bn (L.drop n) := by rw [show L.drop n = [] from List.drop_eq_nil_of_le (by have := HNN.out; omega)]; rfl
    have hs3 : (L.length : Int) = (n : Int) - 1 := by have := HNN.out; omega
    have HS23 := Lib.hid (And.intro hs2 hs3)
    clear hs2 hs3 w1'
    go_loopw [9, 10] (fun la i wr => ∃ (k : Nat) (zs : List Int), k ≤ n ∧ i = .int .i64 ((k : Int) - 1) ∧ la = .int .i64 (minS bn (L.drop k)) ∧ Hid (Blk wr p 110 #[.bool true, .slice Ab bs.length cb, .slice A4 L.length c4, .slice (some ⟨g, 0, none⟩) n n]) ∧ Hid (BytesO wr w.heap.size (.slice Ab bs.length cb) bs) ∧ Hid (ItemsAt wr w.heap.size (.slice A4 L.length c4) L) ∧ Hid (wr.ownsRow w.heap.size 3 1 (.slice (some ⟨g, 0, none⟩) n n) n (intz zs)) ∧ Hid (zs.length = n ∧ ∀ j, k ≤ j → j < n → zs[j]? = some (minS bn (L.drop j))) ∧ Hid (Below w.heap.size w wr)) (fun _ i _ => (intOf i + 1).toNat)
    case atStart => exact ⟨n, List.replicate n 0, Nat.le_refl _, by rw [HS23.out.2], by rw [← HS23.out.1], HT5, HVB5, HVL5, HZ5, hst, HB5⟩
    case round =>
      clear HT5 HVB5 HVL5 HZ5 HB5 hst HS23
      obtain ⟨k, zs, hk, rfl, rfl, HT, HVB, HVL, HZ, HZs, HB⟩ := hrel
      cases k with
      | zero =>
        have hz : zs = least bn L := least_eq (by rw [HZs.out.1]; exact HNN.out) (fun j hj => HZs.out.2 j (Nat.zero_le _) (by have := HNN.out; omega))
        have HF := Lib.hid (show TextAt wr w.heap.size p bs L from ⟨Hp.out, H255.out, _, _, _, HT.out, HVB.out, HVL.out, (by
          rw [← HNn.out, ← hz]
          unfold IntsAt
          rw [HZs.out.1]
          exact HZ.out)⟩)
        clear hz HT HVB HVL HZ HZs
        go_wp2_with fail
        go_ret2
        exact ⟨p, rfl, HLe.out ▸ HF.out, HB.out⟩
      | succ k =>
        have ei : (((k + 1 : Nat) : Int) - 1) = (k : Int) := by omega
        rw [ei]
        clear ei
        have hkn : k < n := by omega
        have dz : decide ((k : Int) ≥ 0) = true := by rw [decide_eq_true_eq]; omega
        have cz := own_cell HZ.out k _ (intz_get zs k (by rw [HZs.out.1]; exact hkn))
        have fz := own_free HZ.out k
        have t2 := HT.out.cell 2
        have t3 := HT.out.cell 3
        have wk : IntKind.i64.wrap ((k : Int) - 1) = (k : Int) - 1 := by rw [IntKind.wrap_i64]; omega
        obtain ⟨la', hla⟩ : ∃ x : Int, x = minS bn (L.drop k) := ⟨_, rfl⟩
        have HLA := Lib.hid hla
        by_cases hkl : k < L.length
        · obtain ⟨gl, cap, hv, _⟩ := own_form HVL.out (by omega)
          injection hv with hA h0 h1
          subst hA h1
          clear h0
          have cS := own_cell HVL.out _ _ (items_get L k hkl).2.1
          obtain ⟨s', hs'⟩ : ∃ s' : Int, s' = L[k].s := ⟨_, rfl⟩
          rw [← hs'] at cS
          have hst := least_step bn L k hkl
          rw [← hla, ← hs'] at hst
          generalize minS bn (L.drop (k + 1)) = la at *
          have m1 : min la s' = la' := by omega
          have m2 : (if s' < la then s' else la) = la' := by split <;> omega
          have m3 : (if la ≤ s' then la else s') = la' := by split <;> omega
          clear hla hs' hst
          go_wp2_with fail
          go_roundw
          case rel => exact ⟨k, zs.set k la', by omega, rfl, by rw [HLA.out], HT.out.grown (set_grown wr ⟨g, k, none⟩ _) (by intro e; injection e with e; have e2 : p = g := e; have := HPN.out; omega), own_other HVB.out HVBg.out, own_other HVL.out HVLg.out, (by
            have := own_set (j := k) (u := .int .i64 la') HZ.out (by omega)
            rwa [intz_setT] at this), (by
            refine ⟨by rw [List.length_set]; exact HZs.out.1, fun j h1 h2 => ?_⟩
            rcases Nat.eq_or_lt_of_le h1 with rfl | h3
            · rw [List.getElem?_set_self (by rw [HZs.out.1]; exact hkn), HLA.out]
            · rw [List.getElem?_set_ne (by omega)]
              exact HZs.out.2 j h3 h2), HB.out.setCell (p := ⟨g, k, none⟩) HG.out _⟩
          case measure => simp [intOf]
        · have hkl2 : k = L.length := by have := HNN.out; omega
          have e1 : minS bn (L.drop (k + 1)) = la' := by
            rw [hla, show L.drop (k + 1) = [] from List.drop_eq_nil_of_le (by omega), show L.drop k = [] from List.drop_eq_nil_of_le (by omega)]
          rw [e1]
          clear hla hkl2 e1
          go_wp2_with fail
          go_roundw
          case rel => exact ⟨k, zs.set k la', by omega, rfl, by rw [HLA.out], HT.out.grown (set_grown wr ⟨g, k, none⟩ _) (by intro e; injection e with e; have e2 : p = g := e; have := HPN.out; omega), own_other HVB.out HVBg.out, own_other HVL.out HVLg.out, (by
            have := own_set (j := k) (u := .int .i64 la') HZ.out (by omega)
            rwa [intz_setT] at this), (by
            refine ⟨by rw [List.length_set]; exact HZs.out.1, fun j h1 h2 => ?_⟩
            rcases Nat.eq_or_lt_of_le h1 with rfl | h3
            · rw [List.getElem?_set_self (by rw [HZs.out.1]; exact hkn), HLA.out]
            · rw [List.getElem?_set_ne (by omega)]
              exact HZs.out.2 j h3 h2), HB.out.setCell (p := ⟨g, k, none⟩) HG.out _⟩
          case measure => simp [intOf]
  | false =>
    obtain ⟨L, hL⟩ : ∃ L, L = D := ⟨_, rfl⟩
    rw [← hL] at HT HVLn HVL HDl ⊢
    have hnl : L.length ≤ 96000 := by have := HDl.out; omega
    have HLe := Lib.hid (show L = dec bs 0 by rw [hL, HDe.out])
    clear hL HN HDw HDl
    go_upto_region 6 with fail
    have HPN := Lib.hid (heap_lt HT.out)
    have HG := Lib.hid HB.out.size
    have HVBg := Lib.hid (own_not HVB.out (Nat.le_refl _))
    have HVLg := Lib.hid (own_not HVL.out (Nat.le_refl _))
    obtain ⟨n, hnn⟩ : ∃ n, n = L.length + 1 := ⟨_, rfl⟩
    have hn9' : n ≤ 96001 := by omega
    have w1' : IntKind.i64.wrap ((L.length : Int) + 1) = (n : Int) := by rw [IntKind.wrap_i64, hnn]; omega
    have HNN := Lib.hid hnn
    have t2 := HT.out.cell 2
    clear hnn
    go_upto_region 7 with (refine wpList_make_full wt rfl (.tmp 36) (.tmp 36) 37 rfl w.heap.size 3 i0 (.int .i64 0) 1 Tryz.underlying37 HI0.out HI.out.1 HI.out.2.1 .i64 .i64 _ _ n rfl rfl rfl rfl (by rw [HI.out.2.2]; omega) (by unfold maxLen; omega) (by exact HB.out.size) ?_; intro w4 hown4 hg4; have t3 : w4.cell? ⟨p, 3, none⟩ = some (.slice none 0 0) := (HT.out.grown hg4 (by simp)).cell 3; have f3 := (HT.out.grown hg4 (by simp)).free 3; have HT4 := Lib.hid (HT.out.grown hg4 (by simp)); have HVB4 := Lib.hid (show BytesO w4 w.heap.size (.slice Ab bs.length cb) bs from own_grown HVB.out hg4); have HVL4 := Lib.hid (show ItemsAt w4 w.heap.size (.slice Al L.length cl) L from own_grown HVL.out hg4); have HB4 := Lib.hid (HB.out.grown hg4 HB.out.size (by simp)); have HN4 := Lib.hid hown4; clear hown4 hg4)
    obtain ⟨w6, hw6⟩ : ∃ w6, w6 = w4.setCell ⟨p, 3, none⟩ (.slice (some ⟨wt.heap.size, 0, none⟩) n n) := ⟨_, rfl⟩
    have HT5 := Lib.hid (show Blk w6 p 110 #[.bool true, .slice Ab bs.length cb, .slice Al L.length cl, .slice (some ⟨wt.heap.size, 0, none⟩) n n] from hw6 ▸ HT4.out.set 3 _)
    have HVB5 := Lib.hid (show BytesO w6 w.heap.size (.slice Ab bs.length cb) bs from hw6 ▸ own_other HVB4.out HVBn.out)
    have HVL5 := Lib.hid (show ItemsAt w6 w.heap.size (.slice Al L.length cl) L from hw6 ▸ own_other HVL4.out HVLn.out)
    have HB5 := Lib.hid (show Below w.heap.size w w6 from hw6 ▸ HB4.out.setCell (p := ⟨p, 3, none⟩) Hp.out _)
    have HZ5 := Lib.hid (show w6.ownsRow w.heap.size 3 1 (.slice (some ⟨wt.heap.size, 0, none⟩) n n) n (intz (List.replicate n 0)) by
      have e1 : (madeCells (Value.int IntKind.i64 0).cells (n * 1)).toList = intz (List.replicate n 0) := by
        rw [Nat.mul_one]
        show (madeCells #[Value.int IntKind.i64 0] n).toList = _
        rw [toList_madeCells_one]
        unfold intz
        rw [List.map_replicate]
      have h1 := HN4.out
      rw [e1] at h1
      exact hw6 ▸ own_other h1 (by intro e; injection e with e; have e2 : wt.heap.size = p := e; have := HPN.out; omega))
    rw [← hw6]
    generalize wt.heap.size = g at *
    clear hw6 HT HVB HVL HT4 HVB4 HVL4 HB4 HN4 HB t2 t3 f3
    have t2 := HT5.out.cell 2
    go_wp2_with fail
    clear t2

    have hst : Hid ((List.replicate n (0 : Int)).length = n ∧ ∀ j, n ≤ j → j < n → (List.replicate n (0 : Int))[j]? = some (minS bn (L.drop j))) := ⟨by simp, fun j h1 h2 => by omega⟩
    have hs2 : (bn : Int) = minS bn (L.drop n) := by rw [show L.drop n = [] from List.drop_eq_nil_of_le (by have := HNN.out; omega)]; rfl
    have hs3 : (L.length : Int) = (n : Int) - 1 := by have := HNN.out; omega
    have HS23 := Lib.hid (And.intro hs2 hs3)
    clear hs2 hs3 w1'
    go_loopw [9, 10] (fun la i wr => ∃ (k : Nat) (zs : List Int), k ≤ n ∧ i = .int .i64 ((k : Int) - 1) ∧ la = .int .i64 (minS bn (L.drop k)) ∧ Hid (Blk wr p 110 #[.bool true, .slice Ab bs.length cb, .slice Al L.length cl, .slice (some ⟨g, 0, none⟩) n n]) ∧ Hid (BytesO wr w.heap.size (.slice Ab bs.length cb) bs) ∧ Hid (ItemsAt wr w.heap.size (.slice Al L.length cl) L) ∧ Hid (wr.ownsRow w.heap.size 3 1 (.slice (some ⟨g, 0, none⟩) n n) n (intz zs)) ∧ Hid (zs.length = n ∧ ∀ j, k ≤ j → j < n → zs[j]? = some (minS bn (L.drop j))) ∧ Hid (Below w.heap.size w wr)) (fun _ i _ => (intOf i + 1).toNat)
    case atStart => exact ⟨n, List.replicate n 0, Nat.le_refl _, by rw [HS23.out.2], by rw [← HS23.out.1], HT5, HVB5, HVL5, HZ5, hst, HB5⟩
    case round =>
      clear HT5 HVB5 HVL5 HZ5 HB5 hst HS23
      obtain ⟨k, zs, hk, rfl, rfl, HT, HVB, HVL, HZ, HZs, HB⟩ := hrel
      cases k with
      | zero =>
        have hz : zs = least bn L := least_eq (by rw [HZs.out.1]; exact HNN.out) (fun j hj => HZs.out.2 j (Nat.zero_le _) (by have := HNN.out; omega))
        have HF := Lib.hid (show TextAt wr w.heap.size p bs L from ⟨Hp.out, H255.out, _, _, _, HT.out, HVB.out, HVL.out, (by
          rw [← HNn.out, ← hz]
          unfold IntsAt
          rw [HZs.out.1]
          exact HZ.out)⟩)
        clear hz HT HVB HVL HZ HZs
        go_wp2_with fail
        go_ret2
        exact ⟨p, rfl, HLe.out ▸ HF.out, HB.out⟩
      | succ k =>
        have ei : (((k + 1 : Nat) : Int) - 1) = (k : Int) := by omega
        rw [ei]
        clear ei
        have hkn : k < n := by omega
        have dz : decide ((k : Int) ≥ 0) = true := by rw [decide_eq_true_eq]; omega
        have cz := own_cell HZ.out k _ (intz_get zs k (by rw [HZs.out.1]; exact hkn))
        have fz := own_free HZ.out k
        have t2 := HT.out.cell 2
        have t3 := HT.out.cell 3
        have wk : IntKind.i64.wrap ((k : Int) - 1) = (k : Int) - 1 := by rw [IntKind.wrap_i64]; omega
        obtain ⟨la', hla⟩ : ∃ x : Int, x = minS bn (L.drop k) := ⟨_, rfl⟩
        have HLA := Lib.hid hla
        by_cases hkl : k < L.length
        · obtain ⟨gl, cap, hv, _⟩ := own_form HVL.out (by omega)
          injection hv with hA h0 h1
          subst hA h1
          clear h0
          have cS := own_cell HVL.out _ _ (items_get L k hkl).2.1
          obtain ⟨s', hs'⟩ : ∃ s' : Int, s' = L[k].s := ⟨_, rfl⟩
          rw [← hs'] at cS
          have hst := least_step bn L k hkl
          rw [← hla, ← hs'] at hst
          generalize minS bn (L.drop (k + 1)) = la at *
          have m1 : min la s' = la' := by omega
          have m2 : (if s' < la then s' else la) = la' := by split <;> omega
          have m3 : (if la ≤ s' then la else s') = la' := by split <;> omega
          clear hla hs' hst
          go_wp2_with fail
          go_roundw
          case rel => exact ⟨k, zs.set k la', by omega, rfl, by rw [HLA.out], HT.out.grown (set_grown wr ⟨g, k, none⟩ _) (by intro e; injection e with e; have e2 : p = g := e; have := HPN.out; omega), own_other HVB.out HVBg.out, own_other HVL.out HVLg.out, (by
            have := own_set (j := k) (u := .int .i64 la') HZ.out (by omega)
            rwa [intz_setT] at this), (by
            refine ⟨by rw [List.length_set]; exact HZs.out.1, fun j h1 h2 => ?_⟩
            rcases Nat.eq_or_lt_of_le h1 with rfl | h3
            · rw [List.getElem?_set_self (by rw [HZs.out.1]; exact hkn), HLA.out]
            · rw [List.getElem?_set_ne (by omega)]
              exact HZs.out.2 j h3 h2), HB.out.setCell (p := ⟨g, k, none⟩) HG.out _⟩
          case measure => simp [intOf]
        · have hkl2 : k = L.length := by have := HNN.out; omega
          have e1 : minS bn (L.drop (k + 1)) = la' := by
            rw [hla, show L.drop (k + 1) = [] from List.drop_eq_nil_of_le (by omega), show L.drop k = [] from List.drop_eq_nil_of_le (by omega)]
          rw [e1]
          clear hla hkl2 e1
          go_wp2_with fail
          go_roundw
          case rel => exact ⟨k, zs.set k la', by omega, rfl, by rw [HLA.out], HT.out.grown (set_grown wr ⟨g, k, none⟩ _) (by intro e; injection e with e; have e2 : p = g := e; have := HPN.out; omega), own_other HVB.out HVBg.out, own_other HVL.out HVLg.out, (by
            have := own_set (j := k) (u := .int .i64 la') HZ.out (by omega)
            rwa [intz_setT] at this), (by
            refine ⟨by rw [List.length_set]; exact HZs.out.1, fun j h1 h2 => ?_⟩
            rcases Nat.eq_or_lt_of_le h1 with rfl | h3
            · rw [List.getElem?_set_self (by rw [HZs.out.1]; exact hkn), HLA.out]
            · rw [List.getElem?_set_ne (by omega)]
              exact HZs.out.2 j h3 h2), HB.out.setCell (p := ⟨g, k, none⟩) HG.out _⟩
          case measure => simp [intOf]
end Go.Proofs.YthoegenipbohmaaGreatDoor
