/- props.Set: the set of a property's expression. Printed by wip/tools/mkset.py. -/
import Derived.Test.YtchkckfadennhaaGreatDoorCncR
namespace Go.Proofs.YtchkckfadennhaaGreatDoor
open Go.RowKit Go.Maps
set_option linter.unusedVariables false
set_option linter.unusedSimpArgs false

def Zzzz : Sp.Str := [90, 122, 122, 122]
def spaceL : List Rg := [⟨9, 13⟩, ⟨32, 32⟩, ⟨133, 133⟩, ⟨160, 160⟩, ⟨8232, 8233⟩]
/-- The set that a kind and a value name. -/
def propSet (Φ : Files) (k : Int) (v : Sp.Str) (r : Int) : Prop :=
  if k = 1 then catSet Φ.cat v r else
  if v = Zzzz then (0 ≤ r ∧ r ≤ 1114111) ∧ ¬ inSet (rgsOf Φ.scr) r else
  if v = [65, 110, 121] then 0 ≤ r ∧ r ≤ 1114111 else
  if v = [65, 83, 67, 73, 73] then 0 ≤ r ∧ r ≤ 127 else
  if v = [65, 108, 112, 104, 97] then catSet Φ.cat [76] r ∨ catSet Φ.cat [78, 108] r else
  if v = [76, 111, 119, 101, 114] then catSet Φ.cat [76, 108] r else
  if v = [85, 112, 112, 101, 114] then catSet Φ.cat [76, 117] r else
  if v = [115, 112, 97, 99, 101] then inSet spaceL r else hitOf Φ.scr r = some v
structure SetsOk (Φ : Files) : Prop where
  cat : Rises Φ.cat
  scr : Rises Φ.scr
  kinds : (valsOf Φ.cat).length ≤ 100
  cats : Φ.cat.length ≤ 5000
  scrs : Φ.scr.length ≤ 5000
  svals : (valsOf Φ.scr).length ≤ 5000
def PSetSaid (Φ : Files) (k : Int) (v : Sp.Str) (x : Int) (w : World) (e : Ending) (w' : World) : Prop :=
  ∃ u L, e = .returned (.tuple #[u, .int .i64 x]) ∧ RgsAt w' w.heap.size u L ∧ CanL L ∧ (∀ r, inSet L r ↔ x = 0 ∧ propSet Φ k v r) ∧ Below w.heap.size w w'
theorem pset_fin {Φ : Files} {k : Int} {v : Sp.Str} {w w' : World} {u : Value} {L : List Rg} (h1 : RgsAt w' w.heap.size u L) (h2 : CanL L) (h3 : ∀ r, inSet L r ↔ propSet Φ k v r) (h4 : Below w.heap.size w w') : PSetSaid Φ k v 0 w (.returned (.tuple #[u, .int .i64 0])) w' :=
  ⟨u, L, rfl, h1, h2, fun r => ⟨fun h => ⟨rfl, (h3 r).1 h⟩, fun h => (h3 r).2 h.2⟩, h4⟩
theorem catSet_in {rs : List Rec} {v : Sp.Str} {r : Int} (h : catSet rs v r) : 0 ≤ r ∧ r ≤ 1114111 := h.1
theorem cat_len {Φ : Files} (hok : SetsOk Φ) {v : Sp.Str} {L : List Rg} (hL : CanL L) (h : ∀ r, inSet L r ↔ catSet Φ.cat v r) : L.length ≤ 20000 := by
  have hjc : ∃ M : List Rg, M.length ≤ 5001 ∧ ∀ r, 0 ≤ r → r ≤ 1114111 → (inSet M r ↔ ¬ inSet (rgsOf Φ.cat) r) := by
    have hp : ((clipped (rgsOf Φ.cat)).mergeSort (fun a b => decide (a.lo ≤ b.lo))).Perm (clipped (rgsOf Φ.cat)) := List.mergeSort_perm _ _
    have hs : ((clipped (rgsOf Φ.cat)).mergeSort (fun a b => decide (a.lo ≤ b.lo))).Pairwise (fun a b => a.lo ≤ b.lo) := by
      have h1 := List.pairwise_mergeSort (le := fun a b : Rg => decide (a.lo ≤ b.lo)) (fun a b c h1 h2 => by simp only [decide_eq_true_eq] at *; omega) (fun a b => by simp only [Bool.or_eq_true, decide_eq_true_eq]; omega) (clipped (rgsOf Φ.cat))
      exact h1.imp fun h => by simpa using h
    obtain ⟨c1, c2⟩ := make_set hp hs
    have hin : ∀ x ∈ joinAll ((clipped (rgsOf Φ.cat)).mergeSort (fun a b => decide (a.lo ≤ b.lo))), RgIn x := joinAll_in fun x hx => clipped_in _ x (hp.mem_iff.1 hx)
    obtain ⟨k1, _, k3⟩ := notFrom_set _ 0 c1 fun x hx => ⟨(hin x hx).1, (hin x hx).2.2⟩
    refine ⟨notFrom 0 (joinAll ((clipped (rgsOf Φ.cat)).mergeSort (fun a b => decide (a.lo ≤ b.lo)))), ?_, fun r h0 h1 => ?_⟩
    · have h2 := notFrom_len (joinAll ((clipped (rgsOf Φ.cat)).mergeSort (fun a b => decide (a.lo ≤ b.lo)))) 0
      have h3 := joinAll_len ((clipped (rgsOf Φ.cat)).mergeSort (fun a b => decide (a.lo ≤ b.lo)))
      rw [hp.length_eq] at h3
      have h4 := clipped_len (rgsOf Φ.cat)
      rw [rgsOf_len] at h4
      have := hok.cats
      omega
    · rw [k3, c2]
      constructor
      · rintro ⟨h2, h3⟩ h4
        exact h3 ⟨⟨h0, h1⟩, h4⟩
      · intro h2
        exact ⟨⟨h0, h1⟩, fun h3 => h2 h3.2⟩
  obtain ⟨M, hM, hMs⟩ := hjc
  by_cases hw : which v Cn = true
  · have := can_len hL (M := rgsIf (which v) Φ.cat ++ M) fun r => by
      rw [h r, catSet_iff hok.cat, inSet_append]
      constructor
      · rintro ⟨h1, h2 | ⟨_, h2⟩⟩
        · exact ⟨h1, .inl h2⟩
        · exact ⟨h1, .inr ((hMs r h1.1 h1.2).2 h2)⟩
      · rintro ⟨h1, h2 | h2⟩
        · exact ⟨h1, .inl h2⟩
        · exact ⟨h1, .inr ⟨hw, (hMs r h1.1 h1.2).1 h2⟩⟩
    rw [List.length_append] at this
    have := rgsIf_len (which v) Φ.cat
    have := hok.cats
    omega
  · have := can_len hL (M := rgsIf (which v) Φ.cat) fun r => by
      rw [h r, catSet_iff hok.cat]
      constructor
      · rintro ⟨h1, h2 | ⟨h2, _⟩⟩
        · exact ⟨h1, h2⟩
        · exact absurd h2 hw
      · rintro ⟨h1, h2⟩
        exact ⟨h1, .inl h2⟩
    have := rgsIf_len (which v) Φ.cat
    have := hok.cats
    omega
def ResOf (l : Sp.Str) (k : Int) (v : Sp.Str) (x : Int) : Prop := ∀ w, Env w → Calls Tryz.prog 16 #[.string ⟨l.toArray⟩] w fun e w' => e = .returned (.tuple #[.int .i64 k, .string ⟨v.toArray⟩, .int .i64 x]) ∧ Below w.heap.size w w'

set_option maxRecDepth 100000 in
theorem set_err {w : World} {m : Nat} {Φ : Files} (ht : TabAt w m Φ) (hok : SetsOk Φ) (hE : Env w) (l : Sp.Str) (k : Int) (v : Sp.Str) (x : Int) (hx : x ≠ 0) (hres : ResOf l k v x) :
    Calls Tryz.prog 8 #[.pointer (some ⟨m + 3, 0, none⟩), .string ⟨l.toArray⟩] w (PSetSaid Φ k v x w) := by
  have hn := none_walk ht
  have HT := Lib.hid ht
  have HE := Lib.hid hE
  have HRs := Lib.hid hres

  have e0 : (x != 0) = true := by rw [bne, beq_eq_false_iff_ne.2 hx]; rfl
  have Hx := Lib.hid hx
  clear hres ht hE
  go_enter Tryz.func8, Tryz.ntmps8
  go_wp2_with fail
  refine hn.mono ?_
  rintro e wz ⟨rfl, rfl⟩
  go_wp2_with fail
  refine (HRs.out w HE.out).mono ?_
  rintro e w1 ⟨rfl, hb1⟩
  have HB1 := Lib.hid hb1
  have HT1 := Lib.hid (HT.out.below hb1)
  have HE1 := Lib.hid (HE.out.below hb1)
  clear hb1 hn
  have hfin : PSetSaid Φ k v x w (.returned (.tuple #[.slice none 0 0, .int .i64 x])) w1 := ⟨_, [], rfl, World.ownsRow_nil _ _ _ _, ⟨List.Pairwise.nil, by simp⟩, fun r => ⟨fun h => absurd h (inSet_nil r), fun h => absurd h.1 Hx.out⟩, HB1.out⟩
  clear hx
  go_wp2_with fail
  go_ret2
  exact hfin
set_option maxRecDepth 100000 in
theorem set_cat {w : World} {m : Nat} {Φ : Files} (ht : TabAt w m Φ) (hok : SetsOk Φ) (hE : Env w) (l : Sp.Str) (v : Sp.Str) (hres : ResOf l 1 v 0) :
    Calls Tryz.prog 8 #[.pointer (some ⟨m + 3, 0, none⟩), .string ⟨l.toArray⟩] w (PSetSaid Φ 1 v 0 w) := by
  have hn := none_walk ht
  have HT := Lib.hid ht
  have HE := Lib.hid hE
  have HRs := Lib.hid hres

  clear hres ht hE
  go_enter Tryz.func8, Tryz.ntmps8
  go_wp2_with fail
  refine hn.mono ?_
  rintro e wz ⟨rfl, rfl⟩
  go_wp2_with fail
  refine (HRs.out w HE.out).mono ?_
  rintro e w1 ⟨rfl, hb1⟩
  have HB1 := Lib.hid hb1
  have HT1 := Lib.hid (HT.out.below hb1)
  have HE1 := Lib.hid (HE.out.below hb1)
  clear hb1 hn

  go_wp2_with fail
  refine (category_set HT1.out hok.cat hok.kinds hok.cats v).mono ?_
  rintro e w2 ⟨u, L, rfl, hL, hcan, hset, hb2⟩
  have hfin : PSetSaid Φ 1 v 0 w (.returned (.tuple #[u, .int .i64 0])) w2 := pset_fin (own_base hL HB1.out.size) hcan (fun r => by rw [hset r]; exact Iff.rfl) (HB1.out.trans (hb2.mono HB1.out.size))
  clear hL hcan hset hb2
  go_wp2_with fail
  go_ret2
  exact hfin
set_option maxRecDepth 100000 in
theorem set_script {w : World} {m : Nat} {Φ : Files} (ht : TabAt w m Φ) (hok : SetsOk Φ) (hE : Env w) (l : Sp.Str) (v : Sp.Str) (hv : v ∉ Sp.six) (hz : v ≠ Zzzz) (hres : ResOf l 2 v 0) :
    Calls Tryz.prog 8 #[.pointer (some ⟨m + 3, 0, none⟩), .string ⟨l.toArray⟩] w (PSetSaid Φ 2 v 0 w) := by
  have hn := none_walk ht
  have HT := Lib.hid ht
  have HE := Lib.hid hE
  have HRs := Lib.hid hres

  have e0 : (v == [90, 122, 122, 122]) = false := beq_eq_false_iff_ne.2 hz
  have Hp := Lib.hid (show ∀ r, propSet Φ 2 v r ↔ hitOf Φ.scr r = some v from fun r => by
    unfold propSet
    rw [if_neg (by decide), if_neg hz, if_neg (fun h => hv (by rw [h]; decide)), if_neg (fun h => hv (by rw [h]; decide)), if_neg (fun h => hv (by rw [h]; decide)), if_neg (fun h => hv (by rw [h]; decide)), if_neg (fun h => hv (by rw [h]; decide)), if_neg (fun h => hv (by rw [h]; decide))])
  clear hv hz
  clear hres ht hE
  go_enter Tryz.func8, Tryz.ntmps8
  go_wp2_with fail
  refine hn.mono ?_
  rintro e wz ⟨rfl, rfl⟩
  go_wp2_with fail
  refine (HRs.out w HE.out).mono ?_
  rintro e w1 ⟨rfl, hb1⟩
  have HB1 := Lib.hid hb1
  have HT1 := Lib.hid (HT.out.below hb1)
  have HE1 := Lib.hid (HE.out.below hb1)
  clear hb1 hn

  obtain ⟨⟨p0, p1, p2, p3, p4, vv, kv, htab, h5⟩, _, _, _⟩ := HT1.out
  have c2 : w1.cell? ⟨m + 3, 2, none⟩ = some (.pointer (some ⟨p2, 0, none⟩)) := htab.cell 2
  have HT2 := Lib.hid h5.t2
  have hsv := hok.svals
  clear htab h5
  go_wp2_with fail
  refine (ranges_walk HT2.out v (by omega)).mono ?_
  rintro e w2 ⟨u, L, rfl, hL, hcan, hset, hb2⟩
  have hfin : PSetSaid Φ 2 v 0 w (.returned (.tuple #[u, .int .i64 0])) w2 := pset_fin (own_base hL HB1.out.size) hcan (fun r => by rw [hset r]; rw [Hp.out r]; exact iff_of_eq (congrArg (· = some v) (trie_hit (fun x hx => (hok.scr.ok x hx).2.1) r))) (HB1.out.trans (hb2.mono HB1.out.size))
  clear hL hcan hset hb2
  go_wp2_with fail
  go_ret2
  exact hfin
set_option maxRecDepth 100000 in
theorem set_zzzz {w : World} {m : Nat} {Φ : Files} (ht : TabAt w m Φ) (hok : SetsOk Φ) (htx : TextIs 20 Φ.scr) (hls : ListOk Φ.scr) (hE : Env w) (l : Sp.Str) (hres : ResOf l 2 Zzzz 0) :
    Calls Tryz.prog 8 #[.pointer (some ⟨m + 3, 0, none⟩), .string ⟨l.toArray⟩] w (PSetSaid Φ 2 Zzzz 0 w) := by
  have hn := none_walk ht
  have HT := Lib.hid ht
  have HE := Lib.hid hE
  have HRs := Lib.hid hres

  obtain ⟨t, ht1, ht2⟩ := load_text htx hls
  have Ht1 := Lib.hid ht1
  have Ht2 := Lib.hid ht2
  have hsl := hok.scrs
  clear ht1 ht2 htx
  unfold ResOf Zzzz at hres HRs
  clear hres ht hE
  go_enter Tryz.func8, Tryz.ntmps8
  go_wp2_with fail
  refine hn.mono ?_
  rintro e wz ⟨rfl, rfl⟩
  go_wp2_with fail
  refine (HRs.out w HE.out).mono ?_
  rintro e w1 ⟨rfl, hb1⟩
  have HB1 := Lib.hid hb1
  have HT1 := Lib.hid (HT.out.below hb1)
  have HE1 := Lib.hid (HE.out.below hb1)
  clear hb1 hn

  go_wp2_with fail
  refine (Ht1.out w1).mono ?_
  rintro e w1' ⟨rfl, rfl⟩
  go_wp2_with fail
  refine (Ht2.out w1 HE1.out).mono ?_
  rintro e w2 hls2
  obtain ⟨p, vv, kv, rfl, _, _, ⟨s, hp, hpw, hkv⟩, hb2⟩ := hls2.tx (Nat.le_refl _)
  obtain ⟨hcan, hset⟩ := make_set hp hpw
  have hjl : (joinAll s).length ≤ Φ.scr.length := Nat.le_trans (joinAll_len s) (by rw [hp.length_eq]; exact Nat.le_trans (clipped_len _) (by rw [rgsOf_len]; exact Nat.le_refl _))
  have Hset := Lib.hid hset
  have hbx := alloc_below w2 (.cells #[.pointer (some ⟨p, 0, none⟩)] 46)
  have HKx := Lib.hid (own_below hkv hbx)
  have HBx := Lib.hid ((HB1.out.trans (hb2.mono HB1.out.size)).trans (hbx.mono (HB1.out.trans (hb2.mono HB1.out.size)).size))
  obtain ⟨Ak, ck, rfl⟩ := own_slice hkv
  clear hls2 hp hpw hkv hcan hset hb2 hbx
  go_wp2_with fail
  refine (not_walk _ _ _ _ HKx.out (by omega)).mono ?_
  rintro e w3 ⟨u, L, rfl, hL, hcan, hs3, hb3⟩
  have hfin : PSetSaid Φ 2 Zzzz 0 w (.returned (.tuple #[u, .int .i64 0])) w3 := pset_fin (own_base hL HBx.out.size) hcan (fun r => by
    rw [hs3 r]
    show (((0 ≤ r ∧ r ≤ 1114111) ∧ ¬ inSet (joinAll s) r) ↔ _)
    rw [Hset.out r]
    unfold propSet
    rw [if_neg (by decide), if_pos rfl]
    constructor
    · rintro ⟨h1, h2⟩
      exact ⟨h1, fun h => h2 ⟨h1, h⟩⟩
    · rintro ⟨h1, h2⟩
      exact ⟨h1, fun h => h2 h.2⟩) (HBx.out.trans (hb3.mono HBx.out.size))
  clear hL hcan hs3 hb3
  go_wp2_with fail
  go_ret2
  exact hfin
set_option maxRecDepth 100000 in
theorem set_any {w : World} {m : Nat} {Φ : Files} (ht : TabAt w m Φ) (hok : SetsOk Φ) (hE : Env w) (l : Sp.Str) (hres : ResOf l 3 [65, 110, 121] 0) :
    Calls Tryz.prog 8 #[.pointer (some ⟨m + 3, 0, none⟩), .string ⟨l.toArray⟩] w (PSetSaid Φ 3 [65, 110, 121] 0 w) := by
  have hn := none_walk ht
  have HT := Lib.hid ht
  have HE := Lib.hid hE
  have HRs := Lib.hid hres

  clear hres ht hE
  go_enter Tryz.func8, Tryz.ntmps8
  go_wp2_with fail
  refine hn.mono ?_
  rintro e wz ⟨rfl, rfl⟩
  go_wp2_with fail
  refine (HRs.out w HE.out).mono ?_
  rintro e w1 ⟨rfl, hb1⟩
  have HB1 := Lib.hid hb1
  have HT1 := Lib.hid (HT.out.below hb1)
  have HE1 := Lib.hid (HE.out.below hb1)
  clear hb1 hn

  go_wp2_with fail
  refine (not_walk [] w1.heap.size _ w1 (World.ownsRow_nil _ _ _ _) (by simp)).mono ?_
  rintro e w2 ⟨u, L, rfl, hL, hcan, hset, hb2⟩
  have hfin : PSetSaid Φ 3 [65, 110, 121] 0 w (.returned (.tuple #[u, .int .i64 0])) w2 := pset_fin (own_base hL HB1.out.size) hcan (fun r => by rw [hset r]; unfold propSet; rw [if_neg (by decide), if_neg (by decide), if_pos rfl]; exact ⟨fun h => h.1, fun h => ⟨h, inSet_nil r⟩⟩) (HB1.out.trans (hb2.mono HB1.out.size))
  clear hL hcan hset hb2
  go_wp2_with fail
  go_ret2
  exact hfin
set_option maxRecDepth 100000 in
theorem set_ascii {w : World} {m : Nat} {Φ : Files} (ht : TabAt w m Φ) (hok : SetsOk Φ) (hE : Env w) (l : Sp.Str) (hres : ResOf l 3 [65, 83, 67, 73, 73] 0) :
    Calls Tryz.prog 8 #[.pointer (some ⟨m + 3, 0, none⟩), .string ⟨l.toArray⟩] w (PSetSaid Φ 3 [65, 83, 67, 73, 73] 0 w) := by
  have hn := none_walk ht
  have HT := Lib.hid ht
  have HE := Lib.hid hE
  have HRs := Lib.hid hres

  clear hres ht hE
  go_enter Tryz.func8, Tryz.ntmps8
  go_wp2_with fail
  refine hn.mono ?_
  rintro e wz ⟨rfl, rfl⟩
  go_wp2_with fail
  refine (HRs.out w HE.out).mono ?_
  rintro e w1 ⟨rfl, hb1⟩
  have HB1 := Lib.hid hb1
  have HT1 := Lib.hid (HT.out.below hb1)
  have HE1 := Lib.hid (HE.out.below hb1)
  clear hb1 hn

  have hb2 := alloc_below w1 (.cells #[.int .i64 0, .int .i64 127] 37)
  have hrow : (w1.alloc (.cells #[.int .i64 0, .int .i64 127] 37)).ownsRow w1.heap.size 37 2 (.slice (some ⟨w1.heap.size, 0, none⟩) 1 1) 1 (([⟨0, 127⟩] : List Rg).flatMap rgCells) := by
    have := World.ownsRow_lit (base := w1.heap.size) (e := 37) (size := 2) w1 #[.int .i64 0, .int .i64 127] 1 (Nat.le_refl _) (by decide) (by rfl)
    exact this
  have hfin : PSetSaid Φ 3 [65, 83, 67, 73, 73] 0 w (.returned (.tuple #[.slice (some ⟨w1.heap.size, 0, none⟩) 1 1, .int .i64 0])) (w1.alloc (.cells #[.int .i64 0, .int .i64 127] 37)) := pset_fin (L := [⟨0, 127⟩]) (own_base hrow HB1.out.size) ⟨by simp, by simp⟩ (fun r => by rw [inSet_one]; unfold propSet; rw [if_neg (by decide), if_neg (by decide), if_neg (by decide), if_pos rfl]) (HB1.out.trans (hb2.mono HB1.out.size))
  clear hb2 hrow
  go_wp2_with fail
  go_ret2
  exact hfin
set_option maxRecDepth 100000 in
theorem set_alpha {w : World} {m : Nat} {Φ : Files} (ht : TabAt w m Φ) (hok : SetsOk Φ) (hE : Env w) (l : Sp.Str) (hres : ResOf l 3 [65, 108, 112, 104, 97] 0) :
    Calls Tryz.prog 8 #[.pointer (some ⟨m + 3, 0, none⟩), .string ⟨l.toArray⟩] w (PSetSaid Φ 3 [65, 108, 112, 104, 97] 0 w) := by
  have hn := none_walk ht
  have HT := Lib.hid ht
  have HE := Lib.hid hE
  have HRs := Lib.hid hres

  clear hres ht hE
  go_enter Tryz.func8, Tryz.ntmps8
  go_wp2_with fail
  refine hn.mono ?_
  rintro e wz ⟨rfl, rfl⟩
  go_wp2_with fail
  refine (HRs.out w HE.out).mono ?_
  rintro e w1 ⟨rfl, hb1⟩
  have HB1 := Lib.hid hb1
  have HT1 := Lib.hid (HT.out.below hb1)
  have HE1 := Lib.hid (HE.out.below hb1)
  clear hb1 hn

  go_wp2_with fail
  refine (category_set HT1.out hok.cat hok.kinds hok.cats [76]).mono ?_
  rintro e w2 ⟨u2, L2, rfl, hL2, hcan2, hset2, hb2⟩
  have hl2 := cat_len hok hcan2 hset2
  have HL2 := Lib.hid hL2
  have HB2 := Lib.hid (HB1.out.trans (hb2.mono HB1.out.size))
  have HT2 := Lib.hid (HT1.out.below hb2)
  have Hs2 := Lib.hid hset2
  clear hL2 hcan2 hset2 hb2
  go_wp2_with fail
  refine (category_set HT2.out hok.cat hok.kinds hok.cats [78, 108]).mono ?_
  rintro e w3 ⟨u3, L3, rfl, hL3, hcan3, hset3, hb3⟩
  have hl3 := cat_len hok hcan3 hset3
  have HL3 := Lib.hid hL3
  have HL23 := Lib.hid (own_below HL2.out hb3)
  have HB3 := Lib.hid (HB2.out.trans (hb3.mono HB2.out.size))
  have Hs3 := Lib.hid hset3
  clear hL3 hcan3 hset3 hb3
  go_wp2_with fail
  refine (union_walk _ _ _ _ _ _ HL23.out HL3.out (by omega) (by omega)).mono ?_
  rintro e w4 ⟨u, L, rfl, hL, hcan, hset, hb4⟩
  have hfin : PSetSaid Φ 3 [65, 108, 112, 104, 97] 0 w (.returned (.tuple #[u, .int .i64 0])) w4 := pset_fin (own_base hL HB3.out.size) hcan (fun r => by
    rw [hset r]
    show (((0 ≤ r ∧ r ≤ 1114111) ∧ (inSet L2 r ∨ inSet L3 r)) ↔ _)
    rw [Hs2.out r, Hs3.out r]; unfold propSet; rw [if_neg (by decide), if_neg (by decide), if_neg (by decide), if_neg (by decide), if_pos rfl]
    constructor
    · exact fun h => h.2
    · intro h
      refine ⟨?_, h⟩
      rcases h with h | h <;> exact h.1) (HB3.out.trans (hb4.mono HB3.out.size))
  clear hL hcan hset hb4
  go_wp2_with fail
  go_ret2
  exact hfin
set_option maxRecDepth 100000 in
theorem set_lower {w : World} {m : Nat} {Φ : Files} (ht : TabAt w m Φ) (hok : SetsOk Φ) (hE : Env w) (l : Sp.Str) (hres : ResOf l 3 [76, 111, 119, 101, 114] 0) :
    Calls Tryz.prog 8 #[.pointer (some ⟨m + 3, 0, none⟩), .string ⟨l.toArray⟩] w (PSetSaid Φ 3 [76, 111, 119, 101, 114] 0 w) := by
  have hn := none_walk ht
  have HT := Lib.hid ht
  have HE := Lib.hid hE
  have HRs := Lib.hid hres

  clear hres ht hE
  go_enter Tryz.func8, Tryz.ntmps8
  go_wp2_with fail
  refine hn.mono ?_
  rintro e wz ⟨rfl, rfl⟩
  go_wp2_with fail
  refine (HRs.out w HE.out).mono ?_
  rintro e w1 ⟨rfl, hb1⟩
  have HB1 := Lib.hid hb1
  have HT1 := Lib.hid (HT.out.below hb1)
  have HE1 := Lib.hid (HE.out.below hb1)
  clear hb1 hn

  go_wp2_with fail
  refine (category_set HT1.out hok.cat hok.kinds hok.cats [76, 108]).mono ?_
  rintro e w2 ⟨u, L, rfl, hL, hcan, hset, hb2⟩
  have hfin : PSetSaid Φ 3 [76, 111, 119, 101, 114] 0 w (.returned (.tuple #[u, .int .i64 0])) w2 := pset_fin (own_base hL HB1.out.size) hcan (fun r => by rw [hset r]; unfold propSet; rw [if_neg (by decide), if_neg (by decide), if_neg (by decide), if_neg (by decide), if_neg (by decide), if_pos rfl]) (HB1.out.trans (hb2.mono HB1.out.size))
  clear hL hcan hset hb2
  go_wp2_with fail
  go_ret2
  exact hfin
set_option maxRecDepth 100000 in
theorem set_upper {w : World} {m : Nat} {Φ : Files} (ht : TabAt w m Φ) (hok : SetsOk Φ) (hE : Env w) (l : Sp.Str) (hres : ResOf l 3 [85, 112, 112, 101, 114] 0) :
    Calls Tryz.prog 8 #[.pointer (some ⟨m + 3, 0, none⟩), .string ⟨l.toArray⟩] w (PSetSaid Φ 3 [85, 112, 112, 101, 114] 0 w) := by
  have hn := none_walk ht
  have HT := Lib.hid ht
  have HE := Lib.hid hE
  have HRs := Lib.hid hres

  clear hres ht hE
  go_enter Tryz.func8, Tryz.ntmps8
  go_wp2_with fail
  refine hn.mono ?_
  rintro e wz ⟨rfl, rfl⟩
  go_wp2_with fail
  refine (HRs.out w HE.out).mono ?_
  rintro e w1 ⟨rfl, hb1⟩
  have HB1 := Lib.hid hb1
  have HT1 := Lib.hid (HT.out.below hb1)
  have HE1 := Lib.hid (HE.out.below hb1)
  clear hb1 hn

  go_wp2_with fail
  refine (category_set HT1.out hok.cat hok.kinds hok.cats [76, 117]).mono ?_
  rintro e w2 ⟨u, L, rfl, hL, hcan, hset, hb2⟩
  have hfin : PSetSaid Φ 3 [85, 112, 112, 101, 114] 0 w (.returned (.tuple #[u, .int .i64 0])) w2 := pset_fin (own_base hL HB1.out.size) hcan (fun r => by rw [hset r]; unfold propSet; rw [if_neg (by decide), if_neg (by decide), if_neg (by decide), if_neg (by decide), if_neg (by decide), if_neg (by decide), if_pos rfl]) (HB1.out.trans (hb2.mono HB1.out.size))
  clear hL hcan hset hb2
  go_wp2_with fail
  go_ret2
  exact hfin
set_option maxRecDepth 100000 in
theorem set_space {w : World} {m : Nat} {Φ : Files} (ht : TabAt w m Φ) (hok : SetsOk Φ) (hE : Env w) (l : Sp.Str) (hres : ResOf l 3 [115, 112, 97, 99, 101] 0) :
    Calls Tryz.prog 8 #[.pointer (some ⟨m + 3, 0, none⟩), .string ⟨l.toArray⟩] w (PSetSaid Φ 3 [115, 112, 97, 99, 101] 0 w) := by
  have hn := none_walk ht
  have HT := Lib.hid ht
  have HE := Lib.hid hE
  have HRs := Lib.hid hres

  clear hres ht hE
  go_enter Tryz.func8, Tryz.ntmps8
  go_wp2_with fail
  refine hn.mono ?_
  rintro e wz ⟨rfl, rfl⟩
  go_wp2_with fail
  refine (HRs.out w HE.out).mono ?_
  rintro e w1 ⟨rfl, hb1⟩
  have HB1 := Lib.hid hb1
  have HT1 := Lib.hid (HT.out.below hb1)
  have HE1 := Lib.hid (HE.out.below hb1)
  clear hb1 hn

  have hb2 := alloc_below w1 (.cells #[.int .i64 9, .int .i64 13, .int .i64 32, .int .i64 32, .int .i64 133, .int .i64 133, .int .i64 160, .int .i64 160, .int .i64 8232, .int .i64 8233] 37)
  have hrow : (w1.alloc (.cells #[.int .i64 9, .int .i64 13, .int .i64 32, .int .i64 32, .int .i64 133, .int .i64 133, .int .i64 160, .int .i64 160, .int .i64 8232, .int .i64 8233] 37)).ownsRow w1.heap.size 37 2 (.slice (some ⟨w1.heap.size, 0, none⟩) 5 5) 5 (spaceL.flatMap rgCells) := by
    have := World.ownsRow_lit (base := w1.heap.size) (e := 37) (size := 2) w1 #[.int .i64 9, .int .i64 13, .int .i64 32, .int .i64 32, .int .i64 133, .int .i64 133, .int .i64 160, .int .i64 160, .int .i64 8232, .int .i64 8233] 5 (Nat.le_refl _) (by decide) (by rfl)
    exact this
  have HR2 := Lib.hid (show RgsAt _ w1.heap.size _ spaceL from hrow)
  have HB2 := Lib.hid (HB1.out.trans (hb2.mono HB1.out.size))
  clear hb2 hrow
  go_wp2_with fail
  refine (make_walk spaceL _ _ _ HR2.out (by decide)).mono ?_
  rintro e w5 ⟨u, s5, rfl, hperm, hsort, hr5, hb5⟩
  have hfin : PSetSaid Φ 3 [115, 112, 97, 99, 101] 0 w (.returned (.tuple #[u, .int .i64 0])) w5 := by
    obtain ⟨k1, k2⟩ := make_set hperm hsort
    refine pset_fin (own_base hr5 HB2.out.size) k1 (fun r => ?_) (HB2.out.trans (hb5.mono HB2.out.size))
    rw [k2]
    unfold propSet; rw [if_neg (by decide), if_neg (by decide), if_neg (by decide), if_neg (by decide), if_neg (by decide), if_neg (by decide), if_neg (by decide), if_pos rfl]
    constructor
    · exact fun h => h.2
    · intro h
      refine ⟨?_, h⟩
      obtain ⟨x, hx, h1, h2⟩ := h
      simp [spaceL] at hx
      rcases hx with rfl | rfl | rfl | rfl | rfl <;> (simp only at h1 h2; omega)
  clear hperm hsort hr5 hb5
  go_wp2_with fail
  go_ret2
  exact hfin

/-- What Set says of any text whose names.Resolve is told. -/
theorem set_of {w : World} {m : Nat} {Φ : Files} (ht : TabAt w m Φ) (hok : SetsOk Φ) (htx : TextIs 20 Φ.scr) (hls : ListOk Φ.scr) (hE : Env w) (l : Sp.Str) {rs : List (List Sp.Str)} (hns : Sp.namesOk rs = true) {k : Int} {v : Sp.Str} {x : Int} (hkv : Sp.resolve rs l = (k, v, x)) (hres : ResOf l k v x) :
    Calls Tryz.prog 8 #[.pointer (some ⟨m + 3, 0, none⟩), .string ⟨l.toArray⟩] w (PSetSaid Φ k v x w) := by
  by_cases hx : x = 0
  · subst hx
    rcases Sp.resolve_six hns hkv with ⟨rfl, _⟩ | ⟨rfl, hv⟩ | ⟨rfl, hv⟩
    · exact set_cat ht hok hE l v hres
    · by_cases hz : v = Zzzz
      · subst hz
        exact set_zzzz ht hok htx hls hE l hres
      · exact set_script ht hok hE l v hv hz hres
    · unfold Sp.six at hv
      simp only [List.mem_cons, List.not_mem_nil, or_false] at hv
      rcases hv with rfl | rfl | rfl | rfl | rfl | rfl
      · exact set_any ht hok hE l hres
      · exact set_ascii ht hok hE l hres
      · exact set_alpha ht hok hE l hres
      · exact set_lower ht hok hE l hres
      · exact set_upper ht hok hE l hres
      · exact set_space ht hok hE l hres
  · exact set_err ht hok hE l k v x hx hres
theorem rises_files (f : Func) {rs : List Rec} (h : rs = recsOf f) (hr : risesB (recsOf f) = true) (hl : ListOk rs) : Rises rs := ⟨by rw [h]; exact hr, hl.ok⟩
set_option maxRecDepth 100000 in
theorem sets_len : (decide ((valsOf (recsOf Tryz.f18)).length ≤ 100) && decide ((recsOf Tryz.f18).length ≤ 5000) && decide ((recsOf Tryz.f20).length ≤ 5000) && decide ((valsOf (recsOf Tryz.f20)).length ≤ 5000)) = true := by kernel_rfl
set_option maxRecDepth 100000 in
theorem sets_ok : SetsOk files := by
  have h := sets_len
  simp only [Bool.and_eq_true, decide_eq_true_eq] at h
  exact ⟨rises_files _ rfl rises_cat files_ok.cat, rises_files _ rfl rises_scr files_ok.scr, h.1.1.1, h.1.1.2, h.1.2, h.2⟩
/-- names.Resolve of any text. -/
theorem resolve_walk (l : Sp.Str) (hl : l.length ≤ 2000000) (w : World) (hE : Env w) : Calls Tryz.prog 16 #[.string ⟨l.toArray⟩] w (ResSaid names l w) :=
  resolve_of (fun kind s w h1 h2 => find_walk kind s w h1 h2) l hl (idx_ok l hl) w hE
theorem res_of (l : Sp.Str) (hl : l.length ≤ 2000000) : ResOf l (Sp.resolve names l).1 (Sp.resolve names l).2.1 (Sp.resolve names l).2.2 := fun w hE => (resolve_walk l hl w hE).mono fun e w' h => h
/-- props.Set of any text. -/
theorem set_walk {w : World} {m : Nat} (ht : TabAt w m files) (hE : Env w) (l : Sp.Str) (hl : l.length ≤ 2000000) :
    Calls Tryz.prog 8 #[.pointer (some ⟨m + 3, 0, none⟩), .string ⟨l.toArray⟩] w (PSetSaid files (Sp.resolve names l).1 (Sp.resolve names l).2.1 (Sp.resolve names l).2.2 w) :=
  set_of ht sets_ok texts_ok.scr files_ok.scr hE l names_ok rfl (res_of l hl)

end Go.Proofs.YtchkckfadennhaaGreatDoor
